/-
  UnitFollows: what its functions compute, and the law (part 0).
-/
import Derived.Test.YtnpcgejfkonfdabGreatDoorFn
import Derived.Test.YtnpcgejfkonfdabGreatDoorDoor
import Derived.Test.YtnpcgejfkonfdabGreatDoorWp
import Derived.Test.YtnpcgejfkonfdabGreatDoorSl
import Derived.Test.YtnpcgejfkonfdabGreatDoorRun
import Derived.Lib.DecodeNEq
-- CR
set_option linter.unusedVariables false
set_option linter.unusedSimpArgs false
set_option maxHeartbeats 16000000
namespace Go.Proofs.YtnpcgejfkonfdabGreatDoor.D
open Go Go.PM Go.Lib

inductive Th where
  | int (z : Int)
  | text (s : List UInt8)
  | bool (b : Bool)
def thI : Th → IV
  | .int z => .iface 3 (.int .i64 z)
  | .text s => .iface 9 (.str s)
  | .bool b => .iface 4 (.bool b)
def rowT (t : Th) : List DV := [.imm (thI t)]
/-- where a crate lies: its block, and that of its rows, from w on -/
def CrAt (H : PT HB) (w n a : Nat) (ts : List Th) : Prop := (w ≤ a ∧ a < n) ∧ ((H.get a = some ⟨1, [[.imm .nils]]⟩ ∧ ts = []) ∨
  ∃ b, (w ≤ b ∧ b < n) ∧ b ≠ a ∧ H.get a = some ⟨1, [[.sl b 0 ts.length ts.length]]⟩ ∧ H.get b = some ⟨1, ts.map rowT⟩)
theorem thI_sc (t : Th) : (DV.imm (thI t)).scal = true := by cases t <;> rfl
theorem CrNew {d : Nat} {H : PT HB} {n lo : Nat} : Fe (K (doorG 0 1) (d + 1) 86 [] H n lo) (fun v H' n' => v = .ptr n 0 0 ∧ n' = n + 1 ∧ CrAt H' n n' n [] ∧ ∀ j, j < n → H'.get j = H.get j) := by
  rw [D.k86]
  refine fn_dw rfl ?_
  simp (config := {contextual := true}) [CrAt, evParts, lay, unImms, unImm, mapO, B6, B7]
  intro j h e
  omega
theorem CrAdd {d : Nat} {H : PT HB} {w n a : Nat} {ts : List Th} {lo : Nat} (hlo : lo ≤ w) (h : CrAt H w n a ts) (hl : ts.length ≤ 100) (t : Th) :
    Fe (K (doorG 0 1) (d + 1) 137 [.ptr a 0 0, .imm (thI t)] H n lo) (fun v H' n' => v = .imm (.bool (decide (ts.length < 100))) ∧ n ≤ n' ∧ CrAt H' w n' a (if ts.length < 100 then ts ++ [t] else ts) ∧ ∀ j, j < w → H'.get j = H.get j) := by
  obtain ⟨⟨hwa, ha⟩, h⟩ := h
  have hs := thI_sc t
  rw [D.k137]
  refine fn_dw rfl ?_
  rcases h with ⟨h1, rfl⟩ | ⟨b, ⟨hwb, hb⟩, hba, h1, h2⟩
  · have a2 : 16 ≤ appMax := by unfold appMax; omega
    have a0 : 1 ≤ appMax := by unfold appMax; omega
    have i0 : ILt 0 100 = True := ilt_t (by omega)
    have e1 : ¬ a = n := by omega
    have l1 : lo ≤ a := by omega
    have l3 : lo ≤ n := by omega
    have e2 : ¬ n = a := by omega
    simp (config := {contextual := true}) [CrAt, h1, hs, l1, l3, e1, e2, ha, i0, evParts2, lay, unImms, unImm, mapO, rowsN, appOf, srcOf, rowsOf, raccOf, a0, a2, rowT, B6, B7]
    exact ⟨⟨by omega, n, by omega, e2, rfl, by simp [e2]⟩, fun j hj => by
      have h3 : ¬ j = n := by omega
      have h4 : ¬ j = a := by omega
      simp [h3, h4]⟩
  · have hab : ¬ a = b := fun e => hba e.symm
    have a1 : ¬ ts.length + 1 ≤ ts.length := by omega
    have a2 : ts.length + 1 ≤ appMax := by unfold appMax; omega
    have a3 : (ts.length + 1) * 16 ≤ appMax := by unfold appMax; omega
    have e1 : ¬ a = n := by omega
    have l1 : lo ≤ a := by omega
    have l3 : lo ≤ n := by omega
    have e2 : ¬ n = a := by omega
    have e3 : ¬ b = n := by omega
    have l2 : lo ≤ b := by omega
    have e4 : ¬ n = b := by omega
    by_cases hlt : ts.length < 100
    · have i0 : ILt (ts.length : Int) 100 = True := ilt_t (by omega)
      simp (config := {contextual := true}) [CrAt, h1, h2, hs, l1, l2, l3, hba, hab, e1, e2, e3, e4, ha, hlt, i0, evParts2, lay, unImms, unImm, mapO, rowsN, appOf, srcOf, rowsOf, raccOf, a1, a2, a3, rowT, B6, B7]
      exact ⟨⟨by omega, n, by omega, e2, rfl, by simp [e2]⟩, fun j hj => by
        have h3 : ¬ j = n := by omega
        have h4 : ¬ j = b := by omega
        have h5 : ¬ j = a := by omega
        simp [h3, h4, h5]⟩
    · have i0 : ILt (ts.length : Int) 100 = False := ilt_f (by omega)
      simp (config := {contextual := true}) [CrAt, h1, h2, hs, l1, l2, l3, hba, hab, e1, e2, e3, e4, ha, hlt, i0, B6, B7]
      exact ⟨hwa, b, ⟨hwb, hb⟩, hba, rfl, h2⟩
theorem ro_fe {K : Go.PM.Callee} {f : FuncId} {args : List DV} {H : PT HB} {n lo : Nat} {v : DV} (ho : DV.out.outs args = true) (h : Fe (K f args H n n) (fun v' H' n' => n ≤ n' ∧ frz H'.get n v' = some v)) :
    ∃ m, callM K .ro f args H n lo = some ⟨v, H, m, [.rA]⟩ ∧ n ≤ m := by
  obtain ⟨v', H', n', e, h1, h2⟩ := h
  exact ⟨n', by rw [callM_ro, if_pos ho, e]; simp only [h2]; rfl, h1⟩
def crX (H : PT HB) (a : Nat) : DV := match H.get a with
  | some ⟨_, [[x]]⟩ => x
  | _ => .imm .nils
theorem CrAll_ro {d : Nat} {H : PT HB} {w n a : Nat} {ts : List Th} (h : CrAt H w n a ts) (lo : Nat) :
    ∃ m, callM (K (doorG 0 1) (d + 1)) .ro 133 [.ptr a 0 0] H n lo = some ⟨crX H a, H, m, [.rA]⟩ ∧ n ≤ m := by
  obtain ⟨⟨hwa, ha⟩, h⟩ := h
  refine ro_fe rfl ?_
  rw [D.k133]
  refine fn_dw rfl ?_
  rcases h with ⟨h1, rfl⟩ | ⟨b, ⟨hwb, hb⟩, hba, h1, h2⟩
  · simp [h1, crX, B6, B7]
  · simp [h1, crX, hb, B6, B7]
def atI (ts : List Th) (i : Int) : IV := if 0 ≤ i ∧ i < ts.length then thI (ts.getD i.toNat (.int 0)) else .nili
theorem CrAt_ro {d : Nat} {H : PT HB} {w n a : Nat} {ts : List Th} (h : CrAt H w n a ts) (i : Int) (lo : Nat) :
    ∃ m, callM (K (doorG 0 1) (d + 2)) .ro 140 [.ptr a 0 0, .imm (.int .i64 i)] H n lo = some ⟨.imm (atI ts i), H, m, [.rA]⟩ ∧ n ≤ m := by
  obtain ⟨m, e, hm⟩ := CrAll_ro (d := d) h n
  obtain ⟨⟨hwa, ha⟩, h⟩ := h
  refine ro_fe rfl ?_
  rw [D.k140]
  refine fn_dw rfl ?_
  rcases h with ⟨h1, rfl⟩ | ⟨b, ⟨hwb, hb⟩, hba, h1, h2⟩
  · simp [h1, crX] at e
    by_cases h0 : (0 : Int) ≤ i
    · have q0 : ILt i 0 = False := ilt_f h0
      have q2 : ¬ i < 0 := by omega
      simp [e, h0, q0, q2, hm, atI, B6, B7]
    · have q0 : ILt i 0 = True := ilt_t (by omega)
      simp [e, h0, q0, hm, atI, B6, B7]
  · simp [h1, crX] at e
    by_cases h0 : (0 : Int) ≤ i
    · have q0 : ILt i 0 = False := ilt_f h0
      by_cases h3 : i < ts.length
      · have q1 : ILt i ts.length = True := ilt_t h3
        obtain ⟨k, rfl⟩ : ∃ k : Nat, i = k := ⟨i.toNat, by omega⟩
        have h4 : k < ts.length := by omega
        have e5 := idx_hp (h := H.get) (n := m) (row := 0) (cap := ts.length) (k := .i64) h2 rfl h0 h3
        have e6 : ¬ (k : Int) < 0 := by omega
        simp [e, h0, h3, h4, e6, q0, q1, e5, h2, hm, atI, rowT, B6, B7]
      · have q1 : ILt i ts.length = False := ilt_f (by omega)
        simp [e, h0, h3, q0, q1, hm, atI, B6, B7]
    · have q0 : ILt i 0 = True := ilt_t (by omega)
      simp [e, h0, q0, hm, atI, B6, B7]
theorem CrLen_ro {d : Nat} {H : PT HB} {w n a : Nat} {ts : List Th} (h : CrAt H w n a ts) (lo : Nat) :
    ∃ m, callM (K (doorG 0 1) (d + 2)) .ro 82 [.ptr a 0 0] H n lo = some ⟨.imm (.int .i64 ts.length), H, m, [.rA]⟩ ∧ n ≤ m := by
  obtain ⟨m, e, hm⟩ := CrAll_ro (d := d) h n
  obtain ⟨⟨hwa, ha⟩, h⟩ := h
  refine ro_fe rfl ?_
  rw [D.k82]
  refine fn_dw rfl ?_
  rcases h with ⟨h1, rfl⟩ | ⟨b, ⟨hwb, hb⟩, hba, h1, h2⟩
  · simp [h1, crX] at e
    simp [e, hm, B6, B7]
  · simp [h1, crX] at e
    simp [e, hm, B6, B7]
def intOf : IV → Option Int
  | .iface 3 (.int .i64 z) => some z
  | _ => none
def textOf : IV → Option (List UInt8)
  | .iface 9 (.str z) => some z
  | _ => none
def boolOf : IV → Option Bool
  | .iface 4 (.bool z) => some z
  | _ => none
theorem CrInt_ro {d : Nat} {H : PT HB} {w n a : Nat} {ts : List Th} (h : CrAt H w n a ts) (i : Int) (lo : Nat) :
    ∃ m, callM (K (doorG 0 1) (d + 3)) .ro 93 [.ptr a 0 0, .imm (.int .i64 i)] H n lo = some ⟨.tup [.imm (.int .i64 ((intOf (atI ts i)).getD 0)), .imm (.bool (intOf (atI ts i)).isSome)], H, m, [.rA]⟩ ∧ n ≤ m := by
  obtain ⟨m, e, hm⟩ := CrAt_ro (d := d) h i n
  refine ro_fe rfl ?_
  rw [D.k93]
  refine fn_dw rfl ?_
  rcases hv : (if 0 ≤ i ∧ i < ts.length then some (ts.getD i.toNat (.int 0)) else none) with _ | ⟨_ | _ | _⟩
  all_goals
    have hq : atI ts i = (match (if 0 ≤ i ∧ i < ts.length then some (ts.getD i.toNat (.int 0)) else none) with | some t => thI t | none => .nili) := by
      unfold atI
      split <;> rfl
    rw [hv] at hq
    simp only [hq] at e ⊢
    simp [e, hm, thI, intOf, B6, B7]
theorem CrText_ro {d : Nat} {H : PT HB} {w n a : Nat} {ts : List Th} (h : CrAt H w n a ts) (i : Int) (lo : Nat) :
    ∃ m, callM (K (doorG 0 1) (d + 3)) .ro 94 [.ptr a 0 0, .imm (.int .i64 i)] H n lo = some ⟨.tup [.imm (.str ((textOf (atI ts i)).getD [])), .imm (.bool (textOf (atI ts i)).isSome)], H, m, [.rA]⟩ ∧ n ≤ m := by
  obtain ⟨m, e, hm⟩ := CrAt_ro (d := d) h i n
  refine ro_fe rfl ?_
  rw [D.k94]
  refine fn_dw rfl ?_
  rcases hv : (if 0 ≤ i ∧ i < ts.length then some (ts.getD i.toNat (.int 0)) else none) with _ | ⟨_ | _ | _⟩
  all_goals
    have hq : atI ts i = (match (if 0 ≤ i ∧ i < ts.length then some (ts.getD i.toNat (.int 0)) else none) with | some t => thI t | none => .nili) := by
      unfold atI
      split <;> rfl
    rw [hv] at hq
    simp only [hq] at e ⊢
    simp [e, hm, thI, textOf, B6, B7]
theorem CrBool_ro {d : Nat} {H : PT HB} {w n a : Nat} {ts : List Th} (h : CrAt H w n a ts) (i : Int) (lo : Nat) :
    ∃ m, callM (K (doorG 0 1) (d + 3)) .ro 134 [.ptr a 0 0, .imm (.int .i64 i)] H n lo = some ⟨.tup [.imm (.bool ((boolOf (atI ts i)).getD false)), .imm (.bool (boolOf (atI ts i)).isSome)], H, m, [.rA]⟩ ∧ n ≤ m := by
  obtain ⟨m, e, hm⟩ := CrAt_ro (d := d) h i n
  refine ro_fe rfl ?_
  rw [D.k134]
  refine fn_dw rfl ?_
  rcases hv : (if 0 ≤ i ∧ i < ts.length then some (ts.getD i.toNat (.int 0)) else none) with _ | ⟨_ | _ | _⟩
  all_goals
    have hq : atI ts i = (match (if 0 ≤ i ∧ i < ts.length then some (ts.getD i.toNat (.int 0)) else none) with | some t => thI t | none => .nili) := by
      unfold atI
      split <;> rfl
    rw [hv] at hq
    simp only [hq] at e ⊢
    simp [e, hm, thI, boolOf, B6, B7]
theorem CrAddInt {d : Nat} {H : PT HB} {w n a : Nat} {ts : List Th} {lo : Nat} (hlo : lo ≤ w) (h : CrAt H w n a ts) (hl : ts.length ≤ 100) (z : Int) :
    Fe (K (doorG 0 1) (d + 2) 89 [.ptr a 0 0, .imm (.int .i64 z)] H n lo) (fun v H' n' => v = .imm (.bool (decide (ts.length < 100))) ∧ n ≤ n' ∧ CrAt H' w n' a (if ts.length < 100 then ts ++ [.int z] else ts) ∧ ∀ j, j < w → H'.get j = H.get j) := by
  obtain ⟨v, H', n', e, rfl, r⟩ := CrAdd (d := d) (lo := lo) hlo h hl (.int z)
  simp only [thI] at e
  rw [D.k89]
  refine fn_dw rfl ?_
  simp [e, B6, B7]
  exact r
theorem CrAddText {d : Nat} {H : PT HB} {w n a : Nat} {ts : List Th} {lo : Nat} (hlo : lo ≤ w) (h : CrAt H w n a ts) (hl : ts.length ≤ 100) (z : List UInt8) :
    Fe (K (doorG 0 1) (d + 2) 87 [.ptr a 0 0, .imm (.str z)] H n lo) (fun v H' n' => v = .imm (.bool (decide (ts.length < 100))) ∧ n ≤ n' ∧ CrAt H' w n' a (if ts.length < 100 then ts ++ [.text z] else ts) ∧ ∀ j, j < w → H'.get j = H.get j) := by
  obtain ⟨v, H', n', e, rfl, r⟩ := CrAdd (d := d) (lo := lo) hlo h hl (.text z)
  simp only [thI] at e
  rw [D.k87]
  refine fn_dw rfl ?_
  simp [e, B6, B7]
  exact r
theorem CrAddBool {d : Nat} {H : PT HB} {w n a : Nat} {ts : List Th} {lo : Nat} (hlo : lo ≤ w) (h : CrAt H w n a ts) (hl : ts.length ≤ 100) (z : Bool) :
    Fe (K (doorG 0 1) (d + 2) 139 [.ptr a 0 0, .imm (.bool z)] H n lo) (fun v H' n' => v = .imm (.bool (decide (ts.length < 100))) ∧ n ≤ n' ∧ CrAt H' w n' a (if ts.length < 100 then ts ++ [.bool z] else ts) ∧ ∀ j, j < w → H'.get j = H.get j) := by
  obtain ⟨v, H', n', e, rfl, r⟩ := CrAdd (d := d) (lo := lo) hlo h hl (.bool z)
  simp only [thI] at e
  rw [D.k139]
  refine fn_dw rfl ?_
  simp [e, B6, B7]
  exact r
end Go.Proofs.YtnpcgejfkonfdabGreatDoor.D

-- WR
set_option linter.unusedVariables false
set_option linter.unusedSimpArgs false
set_option maxHeartbeats 16000000
namespace Go.Proofs.YtnpcgejfkonfdabGreatDoor.D
open Go Go.PM Go.Lib

def ivY (b : UInt8) : List IV := [.int .u8 (b.toNat : Int)]
def rowY (b : UInt8) : List DV := [.imm (.int .u8 (b.toNat : Int))]
theorem imms_ivY (b : UInt8) : imms (ivY b) = rowY b := rfl
theorem map_imms_ivY (bs : List UInt8) : (bs.map ivY).map imms = bs.map rowY := by
  rw [List.map_map]
  rfl
/-- bytes that a function makes: as a value, or in a block from w on -/
def Yw (H : PT HB) (w n : Nat) (x : DV) (bs : List UInt8) : Prop := (x = .imm .nils ∧ bs = []) ∨ (x = .imm (.lst true 1 (bs.map ivY))) ∨
  ∃ id, (w ≤ id ∧ id < n) ∧ x = .sl id 0 bs.length bs.length ∧ H.get id = some ⟨1, bs.map rowY⟩
theorem Yw.sc {H : PT HB} {w n : Nat} {x : DV} {bs : List UInt8} (h : Yw H w n x bs) : x.scal = true := by
  rcases h with ⟨rfl, _⟩ | rfl | ⟨id, _, rfl, _⟩ <;> rfl
theorem Yw.len {H : PT HB} {w n : Nat} {x : DV} {bs : List UInt8} (h : Yw H w n x bs) : lenOf x = some bs.length := by
  rcases h with ⟨rfl, rfl⟩ | rfl | ⟨id, _, rfl, _⟩ <;> simp [lenOf]
theorem Yw.out {H : PT HB} {w n : Nat} {x : DV} {bs : List UInt8} (h : Yw H w n x bs) : x.out = true := by
  rcases h with ⟨rfl, _⟩ | rfl | ⟨id, _, rfl, _⟩ <;> rfl
theorem Yw.up {H : PT HB} {w n m : Nat} {x : DV} {bs : List UInt8} (h : Yw H w n x bs) (hm : n ≤ m) : Yw H w m x bs := by
  rcases h with h | h | ⟨id, ⟨h1, h2⟩, h3⟩
  · exact .inl h
  · exact .inr (.inl h)
  · exact .inr (.inr ⟨id, ⟨h1, by omega⟩, h3⟩)
theorem app_y {H : PT HB} {w n lo : Nat} {x y : DV} {bs cs : List UInt8} (hlo : lo ≤ w) (hwn : w ≤ n) (h : Yw H w n x bs) {src : Option Nat} (hs : srcOf H.get y = some (src, 1, cs.map rowY)) (hne : ∀ id a b, x = .sl id 0 a b → src ≠ some id) (hb : bs.length + cs.length ≤ 1000000) :
    ∃ x' hw n' acc, appOf H.get n lo 1 1 x y = some { v := x', hw := hw, n' := n', acc := acc } ∧ n ≤ n' ∧ Yw (putH H hw) w n' x' (bs ++ cs) ∧ (∀ j, j < w → (putH H hw).get j = H.get j) ∧ (∀ j, j < n → (∀ a b, x ≠ .sl j 0 a b) → (putH H hw).get j = H.get j) ∧ (∀ id a b, x' = .sl id 0 a b → (x = .sl id 0 a b ∧ cs = []) ∨ n ≤ id) ∧ (cs ≠ [] → ∃ id a b, x' = .sl id 0 a b) := by
  have am : 1000000 ≤ appMax := by unfold appMax; omega
  by_cases hc : cs = []
  · subst hc
    rcases h with ⟨rfl, rfl⟩ | rfl | ⟨id, ⟨h1, h2⟩, rfl, h3⟩
    · exact ⟨.imm .nils, [], n, raccOf src, by simp [appOf, hs], Nat.le_refl _, .inl ⟨rfl, rfl⟩, fun _ _ => rfl, fun _ _ _ => rfl, fun id a b e => (nomatch e), fun h => absurd rfl h⟩
    · exact ⟨.imm (.lst true 1 (bs.map ivY)), [], n, raccOf src, by simp [appOf, hs], Nat.le_refl _, .inr (.inl (by simp)), fun _ _ => rfl, fun _ _ _ => rfl, fun id a b e => (by cases e), fun h => absurd rfl h⟩
    · exact ⟨.sl id 0 bs.length bs.length, [], n, raccOf src, by simp [appOf, hs], Nat.le_refl _, .inr (.inr ⟨id, ⟨h1, h2⟩, by simp, by simpa [putH] using h3⟩), fun _ _ => rfl, fun _ _ _ => rfl, fun id' a b e => .inl ⟨e, rfl⟩, fun h => absurd rfl h⟩
  · have hcl : 0 < cs.length := List.length_pos_iff.2 hc
    have hc0 : ¬ cs.map rowY = [] := by simpa using hc
    rcases h with ⟨rfl, rfl⟩ | rfl | ⟨id, ⟨h1, h2⟩, rfl, h3⟩
    · simp only [List.length_nil, Nat.zero_add] at hb
      have a1 : cs.length ≤ appMax := by omega
      refine ⟨.sl n 0 cs.length cs.length, [(n, some ⟨1, cs.map rowY⟩)], n + 1, .wX n :: raccOf src, by simp [appOf, hs, hc, a1], by omega, .inr (.inr ⟨n, ⟨hwn, by omega⟩, by simp, by simp [putH, PT.get_put]⟩), fun j hj => ?_, fun j hj _ => ?_, fun id a b e => ?_, fun _ => ⟨_, _, _, rfl⟩⟩
      · have : ¬ j = n := by omega
        simp [putH, PT.get_put, this]
      · have : ¬ j = n := by omega
        simp [putH, PT.get_put, this]
      · cases e; exact .inr (Nat.le_refl _)
    · have a1 : bs.length + cs.length ≤ appMax := by omega
      refine ⟨.sl n 0 (bs.length + cs.length) (bs.length + cs.length), [(n, some ⟨1, (bs ++ cs).map rowY⟩)], n + 1, .wX n :: raccOf src, by simp [appOf, hs, hc, a1, Function.comp_def, imms_ivY], by omega, .inr (.inr ⟨n, ⟨hwn, by omega⟩, by simp, by simp [putH, PT.get_put]⟩), fun j hj => ?_, fun j hj _ => ?_, fun id a b e => ?_, fun _ => ⟨_, _, _, rfl⟩⟩
      · have : ¬ j = n := by omega
        simp [putH, PT.get_put, this]
      · have : ¬ j = n := by omega
        simp [putH, PT.get_put, this]
      · cases e; exact .inr (Nat.le_refl _)
    · have a1 : bs.length + cs.length ≤ appMax := by omega
      have a2 : ¬ bs.length + cs.length ≤ bs.length := by omega
      have a3 : lo ≤ id := by omega
      have a4 : ¬ src = some id := hne id _ _ rfl
      refine ⟨.sl n 0 (bs.length + cs.length) (bs.length + cs.length), [(id, none), (n, some ⟨1, (bs ++ cs).map rowY⟩)], n + 1, .wX id :: .wX n :: raccOf src, by simp [appOf, hs, hc, a1, a2, a3, a4, h3], by omega, .inr (.inr ⟨n, ⟨hwn, by omega⟩, by simp, by simp [putH, PT.get_put]⟩), fun j hj => ?_, fun j hj hx => ?_, fun id a b e => ?_, fun _ => ⟨_, _, _, rfl⟩⟩
      · have e1 : ¬ j = n := by omega
        have e2 : ¬ j = id := by omega
        simp [putH, PT.get_put, e1, e2]
      · have e1 : ¬ j = n := by omega
        have e2 : ¬ j = id := fun e => hx _ _ (by rw [e])
        simp [putH, PT.get_put, e1, e2]
      · cases e; exact .inr (Nat.le_refl _)
def numY (m : Nat) : Nat → List UInt8
  | 0 => []
  | k + 1 => UInt8.ofNat (m / 256 ^ k) :: numY m k
theorem numY_len (m : Nat) : ∀ k, (numY m k).length = k
  | 0 => rfl
  | k + 1 => by rw [numY, List.length_cons, numY_len m k]
theorem numL_y (m : Nat) : ∀ k, numL m k = (numY m k).map rowY
  | 0 => rfl
  | k + 1 => by
    rw [numL_succ, numL_y m k, numY, List.map_cons, rowY, UInt8.toNat_ofNat']
theorem number_y {d : Nat} {H : PT HB} {w n lo : Nat} {x : DV} {bs : List UInt8} (hlo : lo ≤ w) (hwn : w ≤ n) (h : Yw H w n x bs) (hx : ∀ es, x ≠ .imm (.lst true 1 es)) {m k : Nat} (hm : m < 2 ^ 64) (hk : 1 ≤ k) (hk8 : k ≤ 8) (hb : bs.length ≤ 100000) :
    ∃ x' H' n', K (doorG 0 1) (d + 1) 84 [x, .imm (.int .u64 (m : Int)), .imm (.int .i64 (k : Int))] H n lo = some (x', H', n') ∧ n ≤ n' ∧ Yw H' w n' x' (bs ++ numY m k) ∧ (∀ j, j < w → H'.get j = H.get j) ∧ (∀ j, j < n → (∀ a b, x ≠ .sl j 0 a b) → H'.get j = H.get j) ∧ ∃ id a b, x' = .sl id 0 a b ∧ n ≤ id := by
  have q1 : Nat.ble 1 k = true := Nat.ble_eq_true_of_le hk
  have q2 : Nat.ble k 8 = true := Nat.ble_eq_true_of_le hk8
  have q3 : Nat.ble m 18446744073709551615 = true := Nat.ble_eq_true_of_le (by omega)
  have q4 : Nat.ble lo n = true := Nat.ble_eq_true_of_le (by omega)
  rw [D.k84]
  have hl := numY_len m k
  rcases h with ⟨rfl, rfl⟩ | rfl | ⟨id, ⟨h1, h2⟩, rfl, h3⟩
  · refine ⟨.sl (n + k - 1) 0 k k, H.put (n + k - 1) (some ⟨1, numL m k⟩), n + k, ?_, by omega, .inr (.inr ⟨n + k - 1, ⟨by omega, by omega⟩, by simp [hl], by simp [PT.get_put, numL_y]⟩), fun j hj => ?_, fun j hj _ => ?_, _, _, _, rfl, by omega⟩
    · show primNumber [.imm .nils, .imm (.int .u64 (.ofNat m)), .imm (.int .i64 (.ofNat k))] H n lo = _
      unfold primNumber
      simp only [q1, q2, q3, q4, Bool.and_self, cond_true]
    · have : ¬ j = n + k - 1 := by omega
      simp [PT.get_put, this]
    · have : ¬ j = n + k - 1 := by omega
      simp [PT.get_put, this]
  · exact absurd rfl (hx _)
  · have q5 : Nat.beq bs.length (bs.map rowY).length = true := by simp
    have q6 : Nat.beq bs.length bs.length = true := by simp
    have q7 : Nat.ble lo id = true := Nat.ble_eq_true_of_le (by omega)
    have q8 : Nat.ble bs.length 1000000 = true := Nat.ble_eq_true_of_le (by omega)
    refine ⟨.sl (n + k - 1) 0 (bs.length + k) (bs.length + k), (H.put id none).put (n + k - 1) (some ⟨1, bs.map rowY ++ numL m k⟩), n + k, ?_, by omega, .inr (.inr ⟨n + k - 1, ⟨by omega, by omega⟩, by simp [hl], by simp [PT.get_put, numL_y]⟩), fun j hj => ?_, fun j hj hx => ?_, _, _, _, rfl, by omega⟩
    · show primNumber [.sl id 0 bs.length bs.length, .imm (.int .u64 (.ofNat m)), .imm (.int .i64 (.ofNat k))] H n lo = _
      unfold primNumber
      simp only [q1, q2, q3, q4, q5, q6, q7, q8, h3, Bool.and_self, cond_true]
      rfl
    · have e1 : ¬ j = n + k - 1 := by omega
      have e2 : ¬ j = id := by omega
      simp [PT.get_put, e1, e2]
    · have e1 : ¬ j = n + k - 1 := by omega
      have e2 : ¬ j = id := fun e => hx _ _ (by rw [e])
      simp [PT.get_put, e1, e2]
theorem CrAt.mono {H H' : PT HB} {v w n' a : Nat} {ts : List Th} (h : CrAt H v w a ts) (hn : w ≤ n') (hf : ∀ j, j < w → H'.get j = H.get j) : CrAt H' v n' a ts := by
  obtain ⟨⟨h1, h2⟩, h⟩ := h
  refine ⟨⟨h1, by omega⟩, ?_⟩
  rcases h with ⟨h3, rfl⟩ | ⟨b, ⟨h4, h5⟩, h6, h7, h8⟩
  · exact .inl ⟨by rw [hf a h2]; exact h3, rfl⟩
  · exact .inr ⟨b, ⟨h4, by omega⟩, h6, by rw [hf a h2]; exact h7, by rw [hf b h5]; exact h8⟩
def thB : Th → List UInt8
  | .int z => 1 :: numY (z % 2 ^ 64).toNat 8
  | .text s => 2 :: UInt8.ofNat s.length :: s
  | .bool b => [3, if b then 1 else 0]
def thOk : Th → Bool
  | .text s => decide (s.length ≤ 200)
  | _ => true
theorem atI_get {ts : List Th} {i : Nat} (hi : i < ts.length) : atI ts i = thI ts[i] := by
  unfold atI
  rw [if_pos (by omega)]
  simp [hi]
theorem truth_bl {d : Nat} (b : Bool) : bl (K (doorG 0 1) (d + 1)) 135 [.imm (.bool b)] = some (.imm (.int .u8 (if b then 1 else 0))) := by
  refine bl_fe ?_
  rw [D.k135]
  refine fn_dw rfl ?_
  cases b <;> simp [B6, B7]
theorem wz64 (z : Int) : ∃ m : Nat, m < 2 ^ 64 ∧ IntKind.u64.wrap z = (m : Int) ∧ (z % 2 ^ 64).toNat = m := by
  refine ⟨(z % 2 ^ 64).toNat, by omega, ?_, rfl⟩
  simp only [IntKind.wrap, IntKind.bits, IntKind.signed]
  simp
  omega
theorem thing_fn {d : Nat} {H : PT HB} {w n lo : Nat} {x : DV} {bs : List UInt8} (hlo : lo ≤ w) (hwn : w ≤ n) (h : Yw H w n x bs) {a : Nat} {ts : List Th} (hc : CrAt H 0 w a ts) {i : Nat} (hi : i < ts.length) (hb : bs.length ≤ 90000) (hts : ∀ s, ts[i] = .text s → s.length ≤ 9000) :
    ∃ x' H' n', K (doorG 0 1) (d + 4) 83 [x, .ptr a 0 0, .imm (.int .i64 (i : Int))] H n lo = some (.tup [x', .imm (.bool (thOk ts[i]))], H', n') ∧ n ≤ n' ∧ Yw H' w n' x' (bs ++ thB ts[i]) ∧ (∀ j, j < w → H'.get j = H.get j) := by
  have hc0 : CrAt H 0 n a ts := hc.mono hwn fun _ _ => rfl
  obtain ⟨m1, e1, hm1⟩ := CrInt_ro (d := d) hc0 i lo
  have hc1 : CrAt H 0 m1 a ts := hc.mono (by omega) fun _ _ => rfl
  obtain ⟨m2, e2, hm2⟩ := CrText_ro (d := d) hc1 i lo
  have hc2 : CrAt H 0 m2 a ts := hc.mono (by omega) fun _ _ => rfl
  obtain ⟨m3, e3, hm3⟩ := CrBool_ro (d := d) hc2 i lo
  rw [atI_get hi] at e1 e2 e3
  generalize ts[i] = t at *
  have hx := h.sc
  refine (fun (hq : Fe (K (doorG 0 1) (d + 4) 83 [x, .ptr a 0 0, .imm (.int .i64 (i : Int))] H n lo) fun v H' n' => ∃ x', v = .tup [x', .imm (.bool (thOk t))] ∧ n ≤ n' ∧ Yw H' w n' x' (bs ++ thB t) ∧ ∀ j, j < w → H'.get j = H.get j) => ?_) ?_
  · obtain ⟨v, H', n', e, x', rfl, r⟩ := hq
    exact ⟨x', H', n', e, r⟩
  rw [D.k83]
  refine fn_dw rfl ?_
  cases t with
  | int z =>
    obtain ⟨x1, hw, n1, acc, p1, p2, p3, p4, p5, p6, p7⟩ := app_y (y := .imm (.lst true 1 [[.int .u8 1]])) (cs := [1]) hlo (by omega) (h.up hm1) (src := none) rfl (fun _ _ _ _ => by simp) (by simp; omega)
    obtain ⟨m, hm, wz, mz⟩ := wz64 z
    obtain ⟨x2, H2, n2, r1, r2, r3, r4, r5, r6⟩ := number_y (d := d + 2) (m := m) (k := 8) hlo (by omega) p3 (fun es e => by obtain ⟨_, _, _, e'⟩ := p7 (by simp); rw [e] at e'; cases e') hm (by omega) (by omega) (by simp; omega)
    have r1' : K (doorG 0 1) (d + 3) 84 [x1, .imm (.int .u64 (m : Int)), .imm (.int .i64 8)] (putH H hw) n1 lo = some (x2, H2, n2) := r1
    simp only [thI, intOf, Option.getD_some, Option.isSome_some] at e1
    have xo := p3.out
    have xs := r3.sc
    have x2o := r3.out
    simp [e1, hx, p1, r1', xo, xs, x2o, wz, thOk, evParts2, lay, unImms, unImm, mapO, rowsN, B6, B7]
    exact ⟨by omega, by
      have e9 : thB (.int z) = 1 :: numY m 8 := by
        show 1 :: numY (z % 2 ^ 64).toNat 8 = _
        rw [mz]
      rw [e9]
      simpa using r3, fun j hj => (r4 j hj).trans (p4 j hj)⟩
  | text s =>
    have hsl := hts s rfl
    have w8 : IntKind.u8.wrap (s.length : Int) = ((UInt8.ofNat s.length).toNat : Int) := by
      rw [UInt8.toNat_ofNat']
      simp only [IntKind.wrap, IntKind.bits, IntKind.signed]
      simp
    generalize hk : UInt8.ofNat s.length = k at w8
    obtain ⟨x1, hw, n1, acc, p1, p2, p3, p4, p5, p6, p7⟩ := app_y (y := .imm (.lst true 1 [[.int .u8 2], [.int .u8 (k.toNat : Int)]])) (cs := [2, k]) hlo (by omega) (h.up (show n ≤ m2 by omega)) (src := none) rfl (fun _ _ _ _ => by simp) (by simp; omega)
    obtain ⟨x2, hw2, n2, acc2, q1, q2, q3, q4, q5, q6, q7⟩ := app_y (y := .imm (.str s)) (cs := s) hlo (by omega) p3 (src := none) rfl (fun _ _ _ _ => by simp) (by simp; omega)
    simp only [thI, intOf, textOf, Option.getD_some, Option.isSome_some, Option.getD_none, Option.isSome_none] at e1 e2
    have xo := p3.out
    have x1s := p3.sc
    have xs := q3.sc
    have x2o := q3.out
    by_cases h200 : s.length ≤ 200
    · have i0 : ILt 200 (s.length : Int) = False := ilt_f (by omega)
      simp [e1, e2, hx, p1, q1, xo, x1s, xs, x2o, w8, i0, h200, thOk, evParts2, lay, unImms, unImm, mapO, rowsN, B6, B7]
      exact ⟨by omega, by
        have e9 : thB (.text s) = 2 :: k :: s := by
          rw [← hk]
          rfl
        rw [e9]
        simpa using q3, fun j hj => (q4 j hj).trans (p4 j hj)⟩
    · have i0 : ILt 200 (s.length : Int) = True := ilt_t (by omega)
      simp [e1, e2, hx, p1, q1, xo, x1s, xs, x2o, w8, i0, h200, thOk, evParts2, lay, unImms, unImm, mapO, rowsN, B6, B7]
      exact ⟨by omega, by
        have e9 : thB (.text s) = 2 :: k :: s := by
          rw [← hk]
          rfl
        rw [e9]
        simpa using q3, fun j hj => (q4 j hj).trans (p4 j hj)⟩
  | bool b =>
    have et := truth_bl (d := d + 2) b
    have he : (if b then (1 : Int) else 0) = ((if b then (1 : UInt8) else 0).toNat : Int) := by cases b <;> rfl
    rw [he] at et
    generalize hk : (if b then (1 : UInt8) else 0) = k at et he
    obtain ⟨x1, hw, n1, acc, p1, p2, p3, p4, p5, p6, p7⟩ := app_y (y := .imm (.lst true 1 [[.int .u8 3], [.int .u8 (k.toNat : Int)]])) (cs := [3, k]) hlo (by omega) (h.up (show n ≤ m3 by omega)) (src := none) rfl (fun _ _ _ _ => by simp) (by simp; omega)
    simp only [thI, intOf, textOf, boolOf, Option.getD_some, Option.isSome_some, Option.getD_none, Option.isSome_none] at e1 e2 e3
    have xo := p3.out
    have x1s := p3.sc
    simp [e1, e2, e3, et, hx, p1, xo, x1s, thOk, evParts2, lay, unImms, unImm, mapO, rowsN, B6, B7]
    exact ⟨by omega, by
      have e9 : thB (.bool b) = [3, k] := by
        rw [← hk]
        rfl
      rw [e9]
      exact p3, p4⟩
end Go.Proofs.YtnpcgejfkonfdabGreatDoor.D

-- WP
set_option linter.unusedVariables false
set_option linter.unusedSimpArgs false
set_option maxHeartbeats 16000000
namespace Go.Proofs.YtnpcgejfkonfdabGreatDoor.D
open Go Go.PM Go.Lib

def thsB (ts : List Th) : List UInt8 := ts.flatMap thB
theorem thsB_len {ts : List Th} (h : ∀ t ∈ ts, (thB t).length ≤ 300) : (thsB ts).length ≤ 300 * ts.length := by
  induction ts with
  | nil => simp [thsB]
  | cons t ts ih =>
    have h1 := h t (by simp)
    have h2 := ih fun u hu => h u (by simp [hu])
    simp only [thsB, List.flatMap_cons, List.length_append, List.length_cons] at *
    omega
theorem thsB_succ {ts : List Th} {i : Nat} (hi : i < ts.length) : thsB (ts.take (i + 1)) = thsB (ts.take i) ++ thB ts[i] := by
  rw [List.take_add_one, List.getElem?_eq_getElem hi]
  simp only [Option.toList_some, thsB, List.flatMap_append, List.flatMap_cons, List.flatMap_nil, List.append_nil]
theorem rbW : 1000000 ≤ reachBytes := by decide
structure IPk (H0 : PT HB) (w a : Nat) (ts : List Th) (b0 : List UInt8) (i : Nat) (st : St) : Prop where
  c0 : st.T.get 0 = some (.ptr a 0 0)
  c16 : st.T.get 16 = some (.imm (.int .i64 (ts.length : Int)))
  c17 : st.T.get 17 = some (.imm (.int .i64 (i : Int)))
  y : ∃ x, st.T.get 4 = some x ∧ Yw st.H w st.n x (b0 ++ thsB (ts.take i))
  fr : ∀ j, j < w → st.H.get j = H0.get j
  hn : w ≤ st.n
  ok : ∀ t ∈ ts.take i, thOk t = true
theorem loopPk {d : Nat} {H0 : PT HB} {w a lo : Nat} {ts : List Th} {b0 : List UInt8} (hlo : lo ≤ w) (hc : CrAt H0 0 w a ts) (hl : ts.length ≤ 100) (hts : ∀ t ∈ ts, (thB t).length ≤ 300) (hb0 : b0.length ≤ 10)
    {st : St} (h : IPk H0 w a ts b0 0 st) {ks : List Kf} {Q : Ex → St → Prop}
    (hk : ∀ s', IPk H0 w a ts b0 ts.length s' → Bk (doorG 0 1) (K (doorG 0 1) (d + 4)) lo (.exit 0) ks s' Q)
    (hr : ∀ s', (∃ t ∈ ts, thOk t = false) → s'.T.get 2 = some (.imm .nils) → s'.T.get 3 = some (.imm (.int .i64 1)) → (∀ j, j < w → s'.H.get j = H0.get j) → w ≤ s'.n → Bk (doorG 0 1) (K (doorG 0 1) (d + 4)) lo .ret ks s' Q) :
    Wp (doorG 0 1) (K (doorG 0 1) (d + 4)) lo D.l51_0 ks st Q := by
  refine dw_loop (N := ts.length) (small (by have := rbW; omega)) (fun i st => IPk H0 w a ts b0 i st) (fun e s' => (e = .exit 0 ∧ IPk H0 w a ts b0 ts.length s') ∨ (e = .ret ∧ (∃ t ∈ ts, thOk t = false) ∧ s'.T.get 2 = some (.imm .nils) ∧ s'.T.get 3 = some (.imm (.int .i64 1)) ∧ (∀ j, j < w → s'.H.get j = H0.get j) ∧ w ≤ s'.n)) (fun i st hle hI => ?_) h (fun e s' h => by
    rcases h with ⟨rfl, h⟩ | ⟨rfl, h1, h2, h3, h4, h5⟩
    · exact hk s' h
    · exact hr s' h1 h2 h3 h4 h5)
  obtain ⟨c0, c16, c17, ⟨x, c4, hy⟩, fr, hn, ok⟩ := hI
  by_cases hi : i < ts.length
  · have hi' : ILt (i : Int) ts.length = True := ilt_t (by omega)
    have hw8 : IntKind.i64.wrap ((i : Int) + 1) = (i : Int) + 1 := wr_succ hi (by have := rbW; omega)
    have hlen : (b0 ++ thsB (ts.take i)).length ≤ 90000 := by
      have := thsB_len (ts := ts.take i) fun t ht => hts t (List.mem_of_mem_take ht)
      simp only [List.length_append, List.length_take] at *
      omega
    have hc1 : CrAt st.H 0 w a ts := hc.mono (Nat.le_refl _) fr
    obtain ⟨x', H', n', e, r1, r2, r3⟩ := thing_fn (d := d) hlo hn hy hc1 hi hlen (fun s hs => by
      have := hts _ (List.getElem_mem hi)
      rw [hs] at this
      simp [thB] at this
      omega)
    have xo := hy.out
    have xs := hy.sc
    have x2 := r2.sc
    generalize hQ : (fun (e : Ex) (s' : St) => _) = Q'
    simp only [D.l51_0b]
    cases hok : thOk ts[i] with
    | true =>
      rw [hok] at e
      simp [c0, c16, c17, c4, hi', hw8, e, xo, xs, x2, B6, B7]
      subst hQ
      refine .inl ⟨rfl, hi, by simp [PT.get_put], by simp [PT.get_put], by simp [PT.get_put], ⟨x', by simp [PT.get_put], ?_⟩, fun j hj => (r3 j hj).trans (fr j hj), by simp; omega, fun t ht => ?_⟩
      · rw [thsB_succ hi, ← List.append_assoc]
        exact r2
      · rw [List.take_add_one, List.getElem?_eq_getElem hi] at ht
        rcases List.mem_append.1 ht with ht | ht
        · exact ok t ht
        · simp at ht
          rw [ht]
          exact hok
    | false =>
      rw [hok] at e
      simp [c0, c16, c17, c4, hi', hw8, e, xo, xs, x2, B6, B7]
      subst hQ
      exact .inr ⟨nofun, .inr ⟨rfl, ⟨ts[i], List.getElem_mem hi, hok⟩, by simp [PT.get_put], by simp [PT.get_put], fun j hj => (r3 j hj).trans (fr j hj), by simp; omega⟩⟩
  · obtain rfl : i = ts.length := by omega
    generalize hQ : (fun (e : Ex) (s' : St) => _) = Q'
    simp only [D.l51_0b]
    simp [c0, c16, c17, c4, B6, B7]
    subst hQ
    exact .inr ⟨nofun, .inl ⟨rfl, by simp [PT.get_put, c0], by simp [PT.get_put, c16], by simp [PT.get_put, c17], ⟨x, by simp [PT.get_put, c4], hy⟩, fr, hn, ok⟩⟩
end Go.Proofs.YtnpcgejfkonfdabGreatDoor.D

-- WQ
set_option linter.unusedVariables false
set_option linter.unusedSimpArgs false
set_option maxHeartbeats 16000000
namespace Go.Proofs.YtnpcgejfkonfdabGreatDoor.D
open Go Go.PM Go.Lib

noncomputable def crcS (bs : List UInt8) (s : Nat) : Nat := bs.foldl (fun s b => crcByte s b.toNat) s
theorem crcS_lt : ∀ (bs : List UInt8) {s : Nat}, s < 2 ^ 32 → crcS bs s < 2 ^ 32
  | [], s, h => h
  | b :: bs, s, h => crcS_lt bs (crcByte_lt h b.toNat_lt)
theorem crcRows_y : ∀ (bs : List UInt8) (s : Nat), crcRows (bs.map ivY) s = some (crcS bs s)
  | [], s => rfl
  | b :: bs, s => by
    have h1 : crcRows ((b :: bs).map ivY) s = crcStep (ivY b) s (crcRows (bs.map ivY)) := rfl
    have h2 : crcStep (ivY b) s (crcRows (bs.map ivY)) = bif Nat.ble b.toNat 255 then fN (crcByte s b.toNat) (crcRows (bs.map ivY)) else none := rfl
    have h3 : Nat.ble b.toNat 255 = true := Nat.ble_eq_true_of_le (by have := b.toNat_lt; omega)
    rw [h1, h2, h3, cond_true, fN_eq, crcRows_y bs]
    rfl
noncomputable def crcF (bs : List UInt8) : Nat := Nat.xor (crcS bs 4294967295) 4294967295
theorem crcF_lt (bs : List UInt8) : crcF bs < 2 ^ 32 := Nat.xor_lt_two_pow (crcS_lt bs (by decide)) (by decide)
theorem sum_y {d : Nat} {H : PT HB} {n lo : Nat} {f g : Bool} {bs : List UInt8} (hb : bs.length ≤ 1000000) :
    K (doorG 0 1) (d + 1) 85 [.imm (.lst g 1 [[.lst f 1 (bs.map ivY)]])] H n lo = some (.imm (.int .u32 (crcF bs : Int)), H, n) := by
  rw [D.k85]
  show primRef [.imm (.lst f 1 (bs.map ivY))] H n lo = _
  unfold primRef
  simp only [List.length_map]
  rw [Nat.ble_eq_true_of_le hb, cond_true, crcRows_y]
  rfl
theorem sum_bl {d : Nat} {f g : Bool} {bs : List UInt8} (hb : bs.length ≤ 1000000) :
    bl (K (doorG 0 1) (d + 1)) 85 [.imm (.lst g 1 [[.lst f 1 (bs.map ivY)]])] = some (.imm (.int .u32 (crcF bs : Int))) :=
  bl_fe ⟨_, _, _, sum_y hb, rfl⟩
theorem frzI_imm {h : Nat → Option HB} {lo d : Nat} {v : IV} : frzI h lo d (.imm v) = some v := by cases d <;> rfl
theorem mapO_y {h : Nat → Option HB} {lo d : Nat} : ∀ bs : List UInt8, mapO (mapO (frzI h lo d)) (bs.map rowY) = some (bs.map ivY)
  | [] => rfl
  | b :: bs => by
    have h1 := mapO_y (h := h) (lo := lo) (d := d) bs
    simp [mapO, rowY, frzI_imm, ivY] at h1 ⊢
    rw [h1]
theorem call_sum {d : Nat} {H : PT HB} {n lo m id : Nat} {bs : List UInt8} (hb : bs.length ≤ 1000000) (h1 : H.get m = some ⟨1, [[.sl id 0 bs.length bs.length]]⟩) (h2 : H.get id = some ⟨1, bs.map rowY⟩) :
    callM (K (doorG 0 1) (d + 1)) .blind 85 [.sl m 0 1 1] H n lo = some ⟨.imm (.int .u32 (crcF bs : Int)), H, n, [.rA]⟩ := by
  have hl : (bs.map rowY).length = bs.length := by simp
  have e1 : frzI H.get 0 3 (.sl id 0 bs.length bs.length) = some (.lst false 1 (bs.map ivY)) := by
    show (if 0 ≤ id then _ else none) = _
    rw [if_pos (Nat.zero_le _), h2]
    show (if 0 + bs.length ≤ (bs.map rowY).length then _ else none) = _
    rw [if_pos (by omega)]
    show (mapO (mapO (frzI H.get 0 2)) (((bs.map rowY).drop 0).take bs.length)).map _ = _
    rw [List.drop_zero, List.take_of_length_le (by omega), mapO_y]
    rfl
  have e2 : snap.snaps H.get [.sl m 0 1 1] = some [.imm (.lst false 1 [[.lst false 1 (bs.map ivY)]])] := by
    have e3 : frzI H.get 0 4 (.sl m 0 1 1) = some (.lst false 1 [[.lst false 1 (bs.map ivY)]]) := by
      show (if 0 ≤ m then _ else none) = _
      rw [if_pos (Nat.zero_le _), h1]
      show (mapO (mapO (frzI H.get 0 3)) [[.sl id 0 bs.length bs.length]]).map _ = _
      simp [mapO, e1]
    show (match (frzI H.get 0 4 (.sl m 0 1 1)).map DV.imm, some [] with
      | some v', some vs' => some (v' :: vs')
      | _, _ => none) = _
    rw [e3]
    rfl
  have e4 : DV.pure.pures [.sl m 0 1 1] = false := rfl
  unfold callM
  simp only [e4, e2, sum_y hb]
  rfl
def bodyT (ts : List Th) : List UInt8 := UInt8.ofNat ts.length :: thsB ts
noncomputable def teleg (b : List UInt8) : List UInt8 := numY (crcF b) 4 ++ numY b.length 2 ++ b
theorem rows_y {H : PT HB} {id : Nat} {bs : List UInt8} (h : H.get id = some ⟨1, bs.map rowY⟩) : srcOf H.get (.sl id 0 bs.length bs.length) = some (some id, 1, bs.map rowY) := by
  simp [srcOf, rowsOf, h]
  exact List.take_of_length_le (by simp)
theorem wu64' {x : Nat} (h : x < 2 ^ 64) : IntKind.u64.wrap (x : Int) = x := by
  simp only [IntKind.wrap, IntKind.bits, IntKind.signed]
  simp
  omega
theorem Pack_fn {d : Nat} {H : PT HB} {n lo a : Nat} {ts : List Th} (hlo : lo ≤ n) (hc : CrAt H 0 n a ts) (hl : ts.length ≤ 100) (hts : ∀ t ∈ ts, (thB t).length ≤ 300) :
    Fe (K (doorG 0 1) (d + 5) 51 [.ptr a 0 0] H n lo) (fun v H' n' => n ≤ n' ∧ (∀ j, j < n → H'.get j = H.get j) ∧ (((¬ ((∀ t ∈ ts, thOk t = true) ∧ (bodyT ts).length ≤ 4000)) ∧ v = .tup [.imm .nils, .imm (.int .i64 1)]) ∨
      (((∀ t ∈ ts, thOk t = true) ∧ (bodyT ts).length ≤ 4000) ∧ ∃ x', v = .tup [x', .imm (.int .i64 0)] ∧ Yw H' n n' x' (teleg (bodyT ts))))) := by
  obtain ⟨m1, e1, hm1⟩ := CrLen_ro (d := d + 2) hc lo
  have hc1 : CrAt H 0 m1 a ts := hc.mono (by omega) fun _ _ => rfl
  obtain ⟨m2, e2, hm2⟩ := CrLen_ro (d := d + 2) hc1 lo
  have w8 : IntKind.u8.wrap (ts.length : Int) = ((UInt8.ofNat ts.length).toNat : Int) := by
    rw [UInt8.toNat_ofNat']
    simp only [IntKind.wrap, IntKind.bits, IntKind.signed]
    simp
  have hbl := thsB_len hts
  generalize hk : UInt8.ofNat ts.length = k at w8
  rw [D.k51]
  refine fn_dw rfl ?_
  simp [e1, e2, w8, evParts2, lay, unImms, unImm, mapO, rowsN, B6, B7]
  refine loopPk (w := n) (b0 := [k]) (H0 := H) hlo hc hl hts (by simp) ⟨by simp [PT.get_put], by simp [PT.get_put], by simp [PT.get_put], ⟨.imm (.lst true 1 (([k] ++ thsB (ts.take 0)).map ivY)), by simp [PT.get_put]; exact ⟨rfl, rfl⟩, .inr (.inl rfl)⟩, fun _ _ => rfl, by simp; omega, by simp⟩ (fun s' hI => ?_) (fun s' h1 h2 h3 h4 h5 => ?_)
  · obtain ⟨c0, c16, c17, ⟨x, c4, hy⟩, fr, hn, ok⟩ := hI
    rw [List.take_length] at hy ok
    have hbd : [k] ++ thsB ts = bodyT ts := by rw [← hk]; rfl
    rw [hbd] at hy
    have hbl2 : (bodyT ts).length ≤ 100000 := by simp [bodyT]; omega
    generalize bodyT ts = b at *
    have xs := hy.sc
    have xl := hy.len
    have hbn : b ≠ [] := by rw [← hbd]; simp
    by_cases h4 : b.length ≤ 4000
    · have i0 : ILt 4000 (b.length : Int) = False := ilt_f (by omega)
      have wl := wu64' (x := b.length) (by omega)
      have hcr := crcF_lt b
      have wc := wu64' (x := crcF b) (by omega)
      have xo := hy.out
      rcases hy with ⟨rfl, h0⟩ | rfl | ⟨id, ⟨g1, g2⟩, rfl, g3⟩
      · exact absurd h0 hbn
      · have es := sum_bl (d := d + 3) (f := true) (g := true) (bs := b) (by omega)
        obtain ⟨x1, H1, n1, p1, p2, p3, p4, p5, id1, u1, u2, rfl, p7⟩ := number_y (d := d + 3) (H := s'.H) (w := n) (n := s'.n) (lo := lo) (x := .imm .nils) (bs := []) (m := crcF b) (k := 4) hlo (by omega) (.inl ⟨rfl, rfl⟩) (fun _ e => by cases e) (by omega) (by omega) (by omega) (by simp)
        obtain ⟨x2, H2, n2, q1, q2, q3, q4, q5, id2, v1, v2, rfl, q7⟩ := number_y (d := d + 3) (m := b.length) (k := 2) hlo (by omega) p3 (fun _ e => by cases e) (by omega) (by omega) (by omega) (by simp [numY_len])
        obtain ⟨x3, hw, n3, acc, r1, r2, r3, r4, r5, r6, r7⟩ := app_y (y := .imm (.lst true 1 (b.map ivY))) (cs := b) hlo (by omega) q3 (src := none) (by simp [srcOf, rowsOf, Function.comp_def, imms_ivY]) (fun _ _ _ _ => by simp) (by simp [numY_len]; omega)
        have p1' : K (doorG 0 1) (d + 4) 84 [.imm .nils, .imm (.int .u64 (crcF b : Int)), .imm (.int .i64 4)] s'.H s'.n lo = some (.sl id1 0 u1 u2, H1, n1) := p1
        have q1' : K (doorG 0 1) (d + 4) 84 [.sl id1 0 u1 u2, .imm (.int .u64 (b.length : Int)), .imm (.int .i64 2)] H1 n1 lo = some (.sl id2 0 v1 v2, H2, n2) := q1
        have r3s := r3.sc
        have r3o := r3.out
        simp [c0, c16, c17, c4, xs, xl, i0, es, wc, wl, p1', q1', r1, r3s, r3o, evParts2, lay, unImms, unImm, mapO, rowsN, B6, B7]
        exact ⟨by omega, fun j hj => by rw [r4 j hj, q4 j hj, p4 j hj, fr j hj], ⟨ok, h4⟩, by simpa [teleg] using r3⟩
      · obtain ⟨m, hm⟩ : ∃ m, m = s'.n := ⟨_, rfl⟩
        have hH : ∀ j, j < m → (s'.H.put m (some ⟨1, [[.sl id 0 b.length b.length]]⟩)).get j = s'.H.get j := fun j hj => by
          have : ¬ j = m := by omega
          simp [PT.get_put, this]
        have es := fun n lo => call_sum (d := d + 3) (H := s'.H.put m (some ⟨1, [[.sl id 0 b.length b.length]]⟩)) (n := n) (lo := lo) (m := m) (id := id) (bs := b) (by omega) (by simp [PT.get_put]) (by rw [hH id (by omega)]; exact g3)
        obtain ⟨x1, H1, n1, p1, p2, p3, p4, p5, id1, u1, u2, rfl, p7⟩ := number_y (d := d + 3) (H := s'.H.put m (some ⟨1, [[.sl id 0 b.length b.length]]⟩)) (w := n) (n := m + 1) (lo := lo) (x := .imm .nils) (bs := []) (m := crcF b) (k := 4) hlo (by omega) (.inl ⟨rfl, rfl⟩) (fun _ e => by cases e) (by omega) (by omega) (by omega) (by simp)
        obtain ⟨x2, H2, n2, q1, q2, q3, q4, q5, id2, v1, v2, rfl, q7⟩ := number_y (d := d + 3) (m := b.length) (k := 2) hlo (by omega) p3 (fun _ e => by cases e) (by omega) (by omega) (by omega) (by simp [numY_len])
        have f1 : H2.get id = some ⟨1, b.map rowY⟩ := by
          rw [q5 id (by omega) (fun a b e => by cases e; omega), p5 id (by omega) (fun _ _ e => by cases e), hH id (by omega)]
          exact g3
        obtain ⟨x3, hw, n3, acc, r1, r2, r3, r4, r5, r6, r7⟩ := app_y (y := .sl id 0 b.length b.length) (cs := b) hlo (by omega) q3 (src := some id) (rows_y f1) (fun _ _ _ e => by cases e; simp; omega) (by simp [numY_len]; omega)
        have p1' : K (doorG 0 1) (d + 4) 84 [.imm .nils, .imm (.int .u64 (crcF b : Int)), .imm (.int .i64 4)] (s'.H.put m (some ⟨1, [[.sl id 0 b.length b.length]]⟩)) (m + 1) lo = some (.sl id1 0 u1 u2, H1, n1) := p1
        have q1' : K (doorG 0 1) (d + 4) 84 [.sl id1 0 u1 u2, .imm (.int .u64 (b.length : Int)), .imm (.int .i64 2)] H1 n1 lo = some (.sl id2 0 v1 v2, H2, n2) := q1
        have r3s := r3.sc
        have r3o := r3.out
        simp [c0, c16, c17, c4, xs, xl, i0, ← hm, es, wc, wl, p1', q1', r1, r3s, r3o, evParts2, lay, unImms, unImm, mapO, rowsN, B6, B7]
        exact ⟨by omega, fun j hj => by rw [r4 j hj, q4 j hj, p4 j hj, hH j (by omega), fr j hj], ⟨ok, h4⟩, by simpa [teleg] using r3⟩
    · have i0 : ILt 4000 (b.length : Int) = True := ilt_t (by omega)
      simp [c0, c16, c17, c4, xs, xl, i0, B6, B7]
      exact ⟨hn, fr, fun _ => by omega⟩
  · simp [h2, h3, B6, B7]
    obtain ⟨t, ht, ho⟩ := h1
    exact ⟨h5, h4, fun hh => by rw [hh t ht] at ho; cases ho⟩
end Go.Proofs.YtnpcgejfkonfdabGreatDoor.D

-- WA
set_option linter.unusedVariables false
set_option linter.unusedSimpArgs false
set_option maxHeartbeats 16000000
namespace Go.Proofs.YtnpcgejfkonfdabGreatDoor.D
open Go Go.PM Go.Lib

def valY (bs : List UInt8) (z : Nat) : Nat := bs.foldl (fun z b => z * 256 + b.toNat) z
theorem takeB_y : ∀ (bs : List UInt8) (k z : Nat), k ≤ bs.length → takeB (bs.map ivY) k z = some (valY (bs.take k) z)
  | bs, 0, z, _ => by rw [takeB_zero]; simp [valY]
  | [], k + 1, z, h => by simp at h
  | b :: bs, k + 1, z, h => by
    have h1 : takeB ((b :: bs).map ivY) (k + 1) z = takeStep (ivY b) z (takeB (bs.map ivY) k) := rfl
    have h2 : takeStep (ivY b) z (takeB (bs.map ivY) k) = bif Nat.ble b.toNat 255 then fN (z * 256 + b.toNat) (takeB (bs.map ivY) k) else none := rfl
    have h3 : Nat.ble b.toNat 255 = true := Nat.ble_eq_true_of_le (by have := b.toNat_lt; omega)
    rw [h1, h2, h3, cond_true, fN_eq, takeB_y bs k _ (by simpa using h)]
    rfl
theorem taken_y {d : Nat} {H : PT HB} {n lo k : Nat} {f : Bool} {bs : List UInt8} (hb : bs.length ≤ 1000000) (hk : 1 ≤ k) (hk8 : k ≤ 8) (h : k ≤ bs.length) :
    callM (K (doorG 0 1) (d + 1)) .ro 90 [.imm (.lst f 1 (bs.map ivY)), .imm (.int .i64 (k : Int))] H n lo = some ⟨.tup [.imm (.int .u64 (valY (bs.take k) 0 : Int)), .imm (.lst f 1 ((bs.drop k).map ivY)), .imm (.bool true)], H, n, [.rA]⟩ := by
  have e : K (doorG 0 1) (d + 1) 90 [.imm (.lst f 1 (bs.map ivY)), .imm (.int .i64 (k : Int))] H n n = some (.tup [.imm (.int .u64 (valY (bs.take k) 0 : Int)), .imm (.lst f 1 ((bs.drop k).map ivY)), .imm (.bool true)], H, n) := by
    rw [D.k90]
    show primTaken [.imm (.lst f 1 (bs.map ivY)), .imm (.int .i64 (.ofNat k))] H n n = _
    unfold primTaken
    simp only [List.length_map, Nat.ble_eq_true_of_le hb, Nat.ble_eq_true_of_le hk, Nat.ble_eq_true_of_le hk8, Nat.ble_eq_true_of_le h, Bool.and_self, cond_true, takeB_y bs k 0 h, List.map_drop]
    rfl
  rw [callM_ro, if_pos (by rfl), e]
  rfl
theorem taken_n {d : Nat} {H : PT HB} {n lo k : Nat} {f : Bool} {bs : List UInt8} (hb : bs.length ≤ 1000000) (hk : 1 ≤ k) (hk8 : k ≤ 8) (h : bs.length < k) :
    callM (K (doorG 0 1) (d + 1)) .ro 90 [.imm (.lst f 1 (bs.map ivY)), .imm (.int .i64 (k : Int))] H n lo = some ⟨.tup [.imm (.int .u64 0), .imm .nils, .imm (.bool false)], H, n, [.rA]⟩ := by
  have hq : Nat.ble k bs.length = false := by
    cases hx : Nat.ble k bs.length with
    | false => rfl
    | true => have := Nat.le_of_ble_eq_true hx; omega
  have e : K (doorG 0 1) (d + 1) 90 [.imm (.lst f 1 (bs.map ivY)), .imm (.int .i64 (k : Int))] H n n = some (.tup [.imm (.int .u64 0), .imm .nils, .imm (.bool false)], H, n) := by
    rw [D.k90]
    show primTaken [.imm (.lst f 1 (bs.map ivY)), .imm (.int .i64 (.ofNat k))] H n n = _
    unfold primTaken
    simp only [List.length_map, Nat.ble_eq_true_of_le hb, Nat.ble_eq_true_of_le hk, Nat.ble_eq_true_of_le hk8, hq, Bool.and_self, cond_true, cond_false]
  rw [callM_ro, if_pos (by rfl), e]
  rfl
theorem unI_imms : ∀ e : List IV, unImms (imms e) = some e
  | [] => rfl
  | x :: e => by
    have := unI_imms e
    unfold unImms at this ⊢
    simp [imms, mapO, unImm] at this ⊢
    rw [this]
theorem mapO_unI : ∀ es : List (List IV), mapO unImms (es.map imms) = some es
  | [] => rfl
  | e :: es => by
    have := mapO_unI es
    simp [mapO, unI_imms] at this ⊢
    rw [this]
theorem bytes_y : ∀ bs : List UInt8, bytesOf (bs.map ivY) = some bs
  | [] => rfl
  | b :: bs => by
    have h := bytes_y bs
    have h1 : PM.byteOf (ivY b) = some b := by
      have := b.toNat_lt
      have h2 : (0 : Int) ≤ b.toNat ∧ (b.toNat : Int) < 256 := by omega
      show (if (0 : Int) ≤ b.toNat ∧ (b.toNat : Int) < 256 then some (UInt8.ofNat (b.toNat : Int).toNat) else none) = _
      rw [if_pos h2]
      simp
    simp only [List.map_cons, bytesOf, h1, h]
theorem mapO_yt (bs : List UInt8) (k : Nat) : mapO unImms (List.map imms (List.take k (List.map ivY bs))) = some (List.take k (List.map ivY bs)) := mapO_unI _
theorem bytes_yt (bs : List UInt8) (k : Nat) : bytesOf (List.take k (List.map ivY bs)) = some (bs.take k) := by rw [← List.map_take, bytes_y]
def addF : List UInt8 → Option (Th × List UInt8)
  | [] => none
  | b :: r => if b.toNat = 1 then (if 8 ≤ r.length then some (.int (IntKind.i64.wrap (valY (r.take 8) 0 : Int)), r.drop 8) else none)
    else if b.toNat = 2 then (match r with
      | [] => none
      | l :: r' => if l.toNat ≤ r'.length then some (.text (r'.take l.toNat), r'.drop l.toNat) else none)
    else if b.toNat = 3 then (match r with
      | [] => none
      | v :: r' => some (.bool (decide (v.toNat = 1)), r'))
    else none
def AddP (H : PT HB) (w n a : Nat) (ts : List Th) (f : Bool) (bs : List UInt8) (v : DV) (H' : PT HB) (n' : Nat) : Prop := n ≤ n' ∧ (∀ j, j < w → H'.get j = H.get j) ∧ ((addF bs = none ∧ ∃ u, v = .tup [u, .imm (.bool false)]) ∨
  ∃ t r, addF bs = some (t, r) ∧ ∃ u, v = .tup [u, .imm (.bool (decide (ts.length < 100)))] ∧ (ts.length < 100 → u = .imm (.lst f 1 (r.map ivY)) ∧ CrAt H' w n' a (ts ++ [t])))
theorem add_fn {d : Nat} {H : PT HB} {w n lo a : Nat} {ts : List Th} (hlo : lo ≤ w) (hc : CrAt H w n a ts) (hl : ts.length ≤ 100) {f : Bool} {bs : List UInt8} (hb : bs.length ≤ 100000) :
    Fe (K (doorG 0 1) (d + 3) 91 [.ptr a 0 0, .imm (.lst f 1 (bs.map ivY))] H n lo) (AddP H w n a ts f bs) := by
  rw [D.k91]
  refine fn_dw rfl ?_
  cases bs with
  | nil =>
    have e1 := fun {H n lo} => taken_n (d := d + 1) (H := H) (n := n) (lo := lo) (k := 1) (f := f) (bs := []) (by simp) (by omega) (by omega) (by simp)
    simp only [List.map_nil] at e1
    simp at e1
    simp [e1, B6, B7]
    exact ⟨by omega, fun _ _ => rfl, .inl ⟨rfl, _, rfl⟩⟩
  | cons b r =>
    have e1 := fun {H n lo} => taken_y (d := d + 1) (H := H) (n := n) (lo := lo) (k := 1) (f := f) (bs := b :: r) (by omega) (by omega) (by omega) (by simp)
    simp [valY] at e1
    have hr : r.length ≤ 100000 := by simp at hb; omega
    by_cases h1 : b.toNat = 1
    · by_cases h8 : 8 ≤ r.length
      · have e2 := fun {H n lo} => taken_y (d := d + 1) (H := H) (n := n) (lo := lo) (k := 8) (f := f) (bs := r) (by omega) (by omega) (by omega) h8
        obtain ⟨v, H', n', e3, rfl, k1, k2, k3⟩ := CrAddInt (d := d) (lo := lo) hlo hc hl (IntKind.i64.wrap (valY (r.take 8) 0 : Int))
        simp at e2
        simp [h1, e1, e2, e3, B6, B7]
        exact ⟨k1, k3, .inr ⟨_, _, by
          show (if b.toNat = 1 then _ else _) = _
          rw [if_pos h1, if_pos h8], _, rfl, fun hlt => ⟨by rw [List.map_drop], by simpa [hlt] using k2⟩⟩⟩
      · have e2 := fun {H n lo} => taken_n (d := d + 1) (H := H) (n := n) (lo := lo) (k := 8) (f := f) (bs := r) (by omega) (by omega) (by omega) (by omega)
        simp at e2
        simp [h1, e1, e2, B6, B7]
        exact ⟨Nat.le_refl _, fun _ _ => rfl, .inl ⟨by
          show (if b.toNat = 1 then _ else _) = _
          rw [if_pos h1, if_neg h8], _, rfl⟩⟩
    · by_cases h2 : b.toNat = 2
      · cases r with
        | nil =>
          have e2 := fun {H n lo} => taken_n (d := d + 1) (H := H) (n := n) (lo := lo) (k := 1) (f := f) (bs := []) (by simp) (by omega) (by omega) (by simp)
          simp only [List.map_nil] at e1 e2
          simp at e2
          simp [h1, h2, e1, e2, B6, B7]
          exact ⟨Nat.le_refl _, fun _ _ => rfl, .inl ⟨by
            show (if b.toNat = 1 then _ else _) = _
            rw [if_neg h1, if_pos h2], _, rfl⟩⟩
        | cons l r =>
          have e2 := fun {H n lo} => taken_y (d := d + 1) (H := H) (n := n) (lo := lo) (k := 1) (f := f) (bs := l :: r) (by simp at hr ⊢; omega) (by omega) (by omega) (by simp)
          simp [valY] at e2
          simp only [List.map_cons] at e1
          have hl1 := l.toNat_lt
          have w9 : IntKind.i64.wrap (l.toNat : Int) = (l.toNat : Int) := by
            simp only [IntKind.wrap, IntKind.bits, IntKind.signed]
            simp
            omega
          by_cases h5 : l.toNat ≤ r.length
          · have i0 : ILt (r.length : Int) (l.toNat : Int) = False := ilt_f (by omega)
            obtain ⟨u, H', n', e3, rfl, k1, k2, k3⟩ := CrAddText (d := d) (lo := lo) hlo hc hl (r.take l.toNat)
            have hd : List.drop l.toNat (List.take r.length (List.map ivY r)) = (r.drop l.toNat).map ivY := by
              rw [List.take_of_length_le (by simp), List.map_drop]
            simp [h1, h2, h5, w9, i0, e1, e2, e3, sliceOf, rowsOf, mapO_yt, bytes_yt, hd, -List.map_take, -List.map_drop, B6, B7]
            exact ⟨k1, k3, .inr ⟨_, _, by
              show (if b.toNat = 1 then _ else _) = _
              rw [if_neg h1, if_pos h2]
              show (if l.toNat ≤ r.length then _ else _) = _
              rw [if_pos h5], _, rfl, fun hlt => ⟨rfl, by simpa [hlt] using k2⟩⟩⟩
          · have i0 : ILt (r.length : Int) (l.toNat : Int) = True := ilt_t (by omega)
            simp [h1, h2, h5, w9, i0, e1, e2, B6, B7]
            exact ⟨Nat.le_refl _, fun _ _ => rfl, .inl ⟨by
              show (if b.toNat = 1 then _ else _) = _
              rw [if_neg h1, if_pos h2]
              show (if l.toNat ≤ r.length then _ else _) = _
              rw [if_neg h5], _, rfl⟩⟩
      · by_cases h3 : b.toNat = 3
        · cases r with
          | nil =>
            have e2 := fun {H n lo} => taken_n (d := d + 1) (H := H) (n := n) (lo := lo) (k := 1) (f := f) (bs := []) (by simp) (by omega) (by omega) (by simp)
            simp only [List.map_nil] at e2
            simp only [List.map_nil] at e1
            simp at e2
            simp [h1, h2, h3, e1, e2, B6, B7]
            exact ⟨Nat.le_refl _, fun _ _ => rfl, .inl ⟨by
              show (if b.toNat = 1 then _ else _) = _
              rw [if_neg h1, if_neg h2, if_pos h3], _, rfl⟩⟩
          | cons v r =>
            have e2 := fun {H n lo} => taken_y (d := d + 1) (H := H) (n := n) (lo := lo) (k := 1) (f := f) (bs := v :: r) (by simp at hr ⊢; omega) (by omega) (by omega) (by simp)
            obtain ⟨u, H', n', e3, rfl, k1, k2, k3⟩ := CrAddBool (d := d) (lo := lo) hlo hc hl (decide (v.toNat = 1))
            simp [valY] at e2
            simp only [List.map_cons] at e1
            have fin : AddP H w n a ts f (b :: v :: r) (.tup [.imm (.lst f 1 (r.map ivY)), .imm (.bool (decide (ts.length < 100)))]) H' n' := ⟨k1, k3, .inr ⟨_, _, by
              show (if b.toNat = 1 then _ else _) = _
              rw [if_neg h1, if_neg h2, if_pos h3], _, rfl, fun hlt => ⟨rfl, by simpa [hlt] using k2⟩⟩⟩
            by_cases hv : v.toNat = 1
            · simp only [hv, decide_true] at e3
              simp [h1, h2, h3, hv, e1, e2, e3, B6, B7]
              exact fin
            · have hv' : ¬ (v.toNat : Int) = 1 := by omega
              simp only [hv, decide_false] at e3
              simp [h1, h2, h3, hv, hv', e1, e2, e3, B6, B7]
              exact fin
        · have g1 : ¬ (b.toNat : Int) = 1 := by omega
          have g2 : ¬ (b.toNat : Int) = 2 := by omega
          have g3 : ¬ (b.toNat : Int) = 3 := by omega
          simp [g1, g2, g3, h1, h2, h3, e1, B6, B7]
          exact ⟨Nat.le_refl _, fun _ _ => rfl, .inl ⟨by
            show (if b.toNat = 1 then _ else _) = _
            rw [if_neg h1, if_neg h2, if_neg h3], _, rfl⟩⟩
theorem equal_y {d : Nat} {f g : Bool} {bs cs : List UInt8} :
    bl (K (doorG 0 1) (d + 1)) 92 [.imm (.lst f 1 (bs.map ivY)), .imm (.lst g 1 (cs.map ivY))] = some (.imm (.bool (decide (bs = cs)))) := by
  have q1 := mapO_unI (bs.map ivY)
  have q2 := mapO_unI (cs.map ivY)
  have q3 := bytes_y bs
  have q4 := bytes_y cs
  generalize bs.map ivY = es at *
  generalize cs.map ivY = fs at *
  refine bl_fe ?_
  rw [D.k92]
  refine fn_dw rfl ?_
  by_cases h : bs = cs
  · simp [q1, q2, q3, q4, h, rowsOf, raccOf, B6, B7]
  · simp [q1, q2, q3, q4, h, rowsOf, raccOf, B6, B7]
end Go.Proofs.YtnpcgejfkonfdabGreatDoor.D

-- WU
set_option linter.unusedVariables false
set_option linter.unusedSimpArgs false
set_option maxHeartbeats 16000000
namespace Go.Proofs.YtnpcgejfkonfdabGreatDoor.D
open Go Go.PM Go.Lib

def itF (bs : List UInt8) : Nat → Option (List Th × List UInt8)
  | 0 => some ([], bs)
  | i + 1 => match itF bs i with
    | some (ts, r) => match addF r with
      | some (t, r') => if ts.length < 100 then some (ts ++ [t], r') else none
      | none => none
    | none => none
theorem addF_len {bs r : List UInt8} {t : Th} (h : addF bs = some (t, r)) : r.length ≤ bs.length := by
  unfold addF at h
  split at h
  · cases h
  · rename_i b q
    split at h
    · split at h
      · cases h; simp; omega
      · cases h
    · split at h
      · split at h
        · cases h
        · split at h
          · cases h; simp; omega
          · cases h
      · split at h
        · split at h
          · cases h
          · cases h; simp; omega
        · cases h
structure IUn (H0 : PT HB) (w a N : Nat) (f : Bool) (d0 : DV) (bs : List UInt8) (i : Nat) (st : St) : Prop where
  c0 : st.T.get 0 = some d0
  c4 : st.T.get 4 = some (.ptr a 0 0)
  c22 : st.T.get 22 = some (.imm (.int .u64 (N : Int)))
  c23 : st.T.get 23 = some (.imm (.int .u64 (i : Int)))
  fr : ∀ j, j < w → st.H.get j = H0.get j
  hn : w ≤ st.n
  s : ∃ ts r, itF bs i = some (ts, r) ∧ ts.length ≤ 100 ∧ r.length ≤ 100000 ∧ st.T.get 6 = some (.imm (.lst f 1 (r.map ivY))) ∧ CrAt st.H w st.n a ts
theorem loopUn {d : Nat} {H0 : PT HB} {w a N lo : Nat} {f : Bool} {d0 : DV} {bs : List UInt8} (hlo : lo ≤ w) (hN : N ≤ 255)
    {st : St} (h : IUn H0 w a N f d0 bs 0 st) {ks : List Kf} {Q : Ex → St → Prop}
    (hk : ∀ s', IUn H0 w a N f d0 bs N s' → Bk (doorG 0 1) (K (doorG 0 1) (d + 3)) lo (.exit 0) ks s' Q)
    (hr : ∀ s', itF bs N = none → s'.T.get 2 = some (.imm .nilp) → s'.T.get 3 = some (.imm (.int .i64 2)) → (∀ j, j < w → s'.H.get j = H0.get j) → w ≤ s'.n → Bk (doorG 0 1) (K (doorG 0 1) (d + 3)) lo .ret ks s' Q) :
    Wp (doorG 0 1) (K (doorG 0 1) (d + 3)) lo D.l55_0 ks st Q := by
  refine dw_loop (N := N) (small (by have := rbW; omega)) (fun i st => IUn H0 w a N f d0 bs i st) (fun e s' => (e = .exit 0 ∧ IUn H0 w a N f d0 bs N s') ∨ (e = .ret ∧ (∃ i, i < N ∧ itF bs (i + 1) = none) ∧ s'.T.get 2 = some (.imm .nilp) ∧ s'.T.get 3 = some (.imm (.int .i64 2)) ∧ (∀ j, j < w → s'.H.get j = H0.get j) ∧ w ≤ s'.n)) (fun i st hle hI => ?_) h (fun e s' h => by
    rcases h with ⟨rfl, h⟩ | ⟨rfl, ⟨i, hi, h1⟩, h2, h3, h4, h5⟩
    · exact hk s' h
    · have this : ∀ k, itF bs (i + 1 + k) = none := fun k => by
        induction k with
        | zero => exact h1
        | succ k ih => rw [← Nat.add_assoc, itF, ih]
      have e9 := this (N - i - 1)
      rw [show i + 1 + (N - i - 1) = N by omega] at e9
      exact hr s' e9 h2 h3 h4 h5)
  obtain ⟨c0, c4, c22, c23, fr, hn, ts, r, hit, htl, hrl, c6, hc⟩ := hI
  by_cases hi : i < N
  · have hi' : ILt (i : Int) (N : Int) = True := ilt_t (by omega)
    have hw8 : IntKind.u64.wrap ((i : Int) + 1) = (i : Int) + 1 := wu64' (x := i + 1) (by omega)
    obtain ⟨v, H', n', e, k1, k2, k3⟩ := add_fn (d := d) hlo hc htl (f := f) hrl
    rcases k3 with ⟨ha, u, rfl⟩ | ⟨t, r', ha, u, rfl, hx⟩
    · generalize hQ : (fun (e : Ex) (s' : St) => _) = Q'
      simp only [D.l55_0b]
      simp [c0, c4, c6, c22, c23, hi', hw8, e, B6, B7]
      subst hQ
      exact .inr ⟨nofun, .inr ⟨rfl, ⟨i, hi, by simp only [itF, hit, ha]⟩, by simp [PT.get_put], by simp [PT.get_put], fun j hj => (k2 j hj).trans (fr j hj), by simp; omega⟩⟩
    · have hrl2 := addF_len ha
      by_cases hlt : ts.length < 100
      · obtain ⟨rfl, hcr⟩ := hx hlt
        simp only [hlt, decide_true] at e
        generalize hQ : (fun (e : Ex) (s' : St) => _) = Q'
        simp only [D.l55_0b]
        simp [c0, c4, c6, c22, c23, hi', hw8, e, -List.map_drop, B6, B7]
        subst hQ
        exact .inl ⟨rfl, hi, by simp [PT.get_put], by simp [PT.get_put], by simp [PT.get_put], by simp [PT.get_put], fun j hj => (k2 j hj).trans (fr j hj), by simp; omega, ts ++ [t], r', by simp only [itF, hit, ha, if_pos hlt], by simp; omega, by omega, by simp [PT.get_put], hcr⟩
      · simp only [hlt, decide_false] at e
        generalize hQ : (fun (e : Ex) (s' : St) => _) = Q'
        simp only [D.l55_0b]
        simp [c0, c4, c6, c22, c23, hi', hw8, e, B6, B7]
        subst hQ
        exact .inr ⟨nofun, .inr ⟨rfl, ⟨i, hi, by simp only [itF, hit, ha, if_neg hlt]⟩, by simp [PT.get_put], by simp [PT.get_put], fun j hj => (k2 j hj).trans (fr j hj), by simp; omega⟩⟩
  · obtain rfl : i = N := by omega
    generalize hQ : (fun (e : Ex) (s' : St) => _) = Q'
    simp only [D.l55_0b]
    simp [c0, c4, c6, c22, c23, B6, B7]
    subst hQ
    exact .inr ⟨nofun, .inl ⟨rfl, by simp [PT.get_put, c0], by simp [PT.get_put, c4], by simp [PT.get_put, c22], by simp [PT.get_put, c23], fr, hn, ts, r, hit, htl, hrl, by simp [PT.get_put, c6], hc⟩⟩
end Go.Proofs.YtnpcgejfkonfdabGreatDoor.D

-- WE
set_option linter.unusedVariables false
set_option linter.unusedSimpArgs false
set_option maxHeartbeats 16000000
namespace Go.Proofs.YtnpcgejfkonfdabGreatDoor.D
open Go Go.PM Go.Lib

/-- a thing as a crate that was read has it -/
def thCan : Th → Prop
  | .int z => -9223372036854775808 ≤ z ∧ z ≤ 9223372036854775807
  | .text s => s.length ≤ 200
  | .bool _ => True
theorem valY_num (m : Nat) : ∀ (k s : Nat), valY (numY m k) s = s * 256 ^ k + m % 256 ^ k
  | 0, s => by simp [valY, numY, Nat.mod_one]
  | k + 1, s => by
    have h := valY_num m k (s * 256 + (UInt8.ofNat (m / 256 ^ k)).toNat)
    have h1 : valY (numY m (k + 1)) s = valY (numY m k) (s * 256 + (UInt8.ofNat (m / 256 ^ k)).toNat) := rfl
    rw [h1, h, UInt8.toNat_ofNat']
    have e1 : m % 256 ^ (k + 1) = m % 256 ^ k + 256 ^ k * (m / 256 ^ k % 256) := by rw [Nat.pow_succ, Nat.mod_mul]
    have e2 : (m / 256 ^ k % 2 ^ 8) = m / 256 ^ k % 256 := rfl
    rw [e1, e2, Nat.pow_succ]
    generalize m / 256 ^ k % 256 = a
    generalize 256 ^ k = b
    generalize m % b = c
    rw [Nat.add_mul, Nat.mul_assoc, Nat.mul_comm 256 b, Nat.mul_comm a b, Nat.add_assoc, Nat.add_comm (b * a) c]
theorem addF_1 (q : List UInt8) : addF (1 :: q) = if 8 ≤ q.length then some (.int (IntKind.i64.wrap (valY (q.take 8) 0 : Int)), q.drop 8) else none := rfl
theorem addF_thB {t : Th} (h : thCan t) (r : List UInt8) : addF (thB t ++ r) = some (t, r) := by
  cases t with
  | int z =>
    obtain ⟨h1, h2⟩ := h
    have hl := numY_len (z % 2 ^ 64).toNat 8
    have e : ∀ q : List UInt8, q.length = 8 → addF (1 :: q ++ r) = some (.int (IntKind.i64.wrap (valY q 0 : Int)), r) := fun q hq => by
      have t1 : List.take 8 (q ++ r) = q := by rw [← hq]; exact List.take_left
      have t2 : List.drop 8 (q ++ r) = r := by rw [← hq]; exact List.drop_left
      have t3 : 8 ≤ (q ++ r).length := by simp; omega
      rw [List.cons_append, addF_1, if_pos t3, t1, t2]
    have e0 : addF (thB (.int z) ++ r) = addF (1 :: numY (z % 2 ^ 64).toNat 8 ++ r) := rfl
    rw [e0, e _ hl, valY_num]
    have e2 : ((z % 2 ^ 64).toNat % 256 ^ 8 : Nat) = (z % 2 ^ 64).toNat := Nat.mod_eq_of_lt (by omega)
    rw [e2, Nat.zero_mul, Nat.zero_add]
    have e3 : IntKind.i64.wrap ((z % 2 ^ 64).toNat : Int) = z := by
      simp only [IntKind.wrap, IntKind.bits, IntKind.signed]
      simp
      omega
    rw [e3]
  | text s =>
    have hs : s.length ≤ 200 := h
    have hk : (UInt8.ofNat s.length).toNat = s.length := by rw [UInt8.toNat_ofNat']; exact Nat.mod_eq_of_lt (by omega)
    show addF (2 :: UInt8.ofNat s.length :: (s ++ r)) = _
    simp [addF, hk]
  | bool b => cases b <;> simp [addF, thB]
theorem itF_ths : ∀ {ts : List Th} (h : ∀ t ∈ ts, thCan t) (hl : ts.length ≤ 100) (q : List UInt8) (k : Nat), k ≤ ts.length → itF (thsB ts ++ q) k = some (ts.take k, thsB (ts.drop k) ++ q)
  | ts, h, hl, q, 0, _ => by simp [itF]
  | ts, h, hl, q, k + 1, hk => by
    have e := itF_ths h hl q k (by omega)
    have hk' : k < ts.length := by omega
    have e1 : thsB (ts.drop k) ++ q = thB ts[k] ++ (thsB (ts.drop (k + 1)) ++ q) := by
      have e0 := List.drop_eq_getElem_cons hk'
      rw [e0]
      simp only [thsB, List.flatMap_cons, List.append_assoc]
    have e2 : (ts.take k).length < 100 := by simp; omega
    simp only [itF, e, e1, addF_thB (h _ (List.getElem_mem hk')), if_pos e2]
    rw [List.take_add_one, List.getElem?_eq_getElem hk']
    rfl
/-- Unpack: what bytes are read as -/
noncomputable def unF (bs : List UInt8) : Option (List Th) :=
  if bs.length ≤ 6 then none else match itF (bs.drop 7) (bs.getD 6 0).toNat with
    | some (ts, _) => @ite _ (((∀ t ∈ ts, thOk t = true) ∧ (bodyT ts).length ≤ 4000) ∧ teleg (bodyT ts) = bs) (Classical.propDecidable _) (some ts) none
    | none => none
theorem thOk_can {t : Th} (h : thCan t) : thOk t = true := by
  cases t with
  | int z => rfl
  | text s => exact decide_eq_true (show s.length ≤ 200 from h)
  | bool b => rfl
theorem addF_can {b r : List UInt8} {t : Th} (h : addF b = some (t, r)) (ho : thOk t = true) : thCan t := by
  cases t with
  | int z =>
    unfold addF at h
    split at h
    · cases h
    · split at h
      · split at h
        · cases h
          constructor <;> (simp only [IntKind.wrap, IntKind.bits, IntKind.signed]; simp; omega)
        · cases h
      · split at h
        · split at h
          · cases h
          · split at h
            · cases h
            · cases h
        · split at h
          · split at h
            · cases h
            · cases h
          · cases h
  | text s => exact of_decide_eq_true (p := s.length ≤ 200) ho
  | bool b => trivial
theorem itF_can {bs : List UInt8} : ∀ {k : Nat} {ts : List Th} {r : List UInt8}, itF bs k = some (ts, r) → ts.length ≤ 100 ∧ ts.length = k ∧ ∀ t ∈ ts, thOk t = true → thCan t
  | 0, ts, r, h => by
    simp only [itF] at h
    cases h
    exact ⟨by simp, rfl, fun t ht => by simp at ht⟩
  | k + 1, ts, r, h => by
    simp only [itF] at h
    split at h
    · rename_i us q hu
      obtain ⟨h1, h2, h3⟩ := itF_can hu
      split at h
      · rename_i t q' ha
        split at h
        · cases h
          refine ⟨by simp; omega, by simp [h2], fun u hu' => ?_⟩
          rcases List.mem_append.1 hu' with hu' | hu'
          · exact h3 u hu'
          · simp at hu'
            subst hu'
            exact addF_can ha
        · cases h
      · cases h
    · cases h
theorem unF_teleg {ts : List Th} (h : ∀ t ∈ ts, thCan t) (hl : ts.length ≤ 100) (hb : (bodyT ts).length ≤ 4000) : unF (teleg (bodyT ts)) = some ts := by
  have e1 : teleg (bodyT ts) = (numY (crcF (bodyT ts)) 4 ++ numY (bodyT ts).length 2) ++ bodyT ts := rfl
  have l6 : (numY (crcF (bodyT ts)) 4 ++ numY (bodyT ts).length 2).length = 6 := by simp [numY_len]
  generalize hz : numY (crcF (bodyT ts)) 4 ++ numY (bodyT ts).length 2 = z at e1 l6
  have e2 : (teleg (bodyT ts)).drop 7 = thsB ts := by
    rw [e1, List.drop_append, List.drop_of_length_le (by omega), l6]
    rfl
  have e3 : ((teleg (bodyT ts)).getD 6 0).toNat = ts.length := by
    rw [e1, List.getD_eq_getElem?_getD, List.getElem?_append_right (by omega), l6]
    show (UInt8.ofNat ts.length).toNat = _
    rw [UInt8.toNat_ofNat']
    exact Nat.mod_eq_of_lt (by omega)
  have e4 : ¬ (teleg (bodyT ts)).length ≤ 6 := by
    rw [e1]
    simp [l6, bodyT]
  have e5 := itF_ths h hl [] ts.length (Nat.le_refl _)
  rw [List.append_nil, List.take_length] at e5
  unfold unF
  rw [if_neg e4, e2, e3, e5]
  simp only
  exact if_pos ⟨⟨fun t ht => thOk_can (h t ht), hb⟩, trivial⟩
theorem unF_can {bs : List UInt8} {ts : List Th} (h : unF bs = some ts) : ts.length ≤ 100 ∧ (∀ t ∈ ts, thCan t) ∧ (bodyT ts).length ≤ 4000 ∧ teleg (bodyT ts) = bs := by
  unfold unF at h
  split at h
  · cases h
  · split at h
    · rename_i us r hu
      split at h
      · rename_i hq
        cases h
        obtain ⟨h1, h2, h3⟩ := itF_can hu
        exact ⟨h1, fun t ht => h3 t ht (hq.1.1 t ht), hq.1.2, hq.2⟩
      · cases h
    · cases h
theorem frz_y {H : PT HB} {w n : Nat} {x : DV} {bs : List UInt8} (h : Yw H w n x bs) (hne : bs ≠ []) : ∃ g, frz H.get w x = some (.imm (.lst g 1 (bs.map ivY))) := by
  rcases h with ⟨rfl, rfl⟩ | rfl | ⟨id, ⟨h1, h2⟩, rfl, h3⟩
  · exact absurd rfl hne
  · exact ⟨true, rfl⟩
  · refine ⟨false, ?_⟩
    have e1 : frzI H.get w frzDepth (.sl id 0 bs.length bs.length) = some (.lst false 1 (bs.map ivY)) := by
      show (if w ≤ id then _ else none) = _
      rw [if_pos h1, h3]
      show (if 0 + bs.length ≤ (bs.map rowY).length then _ else none) = _
      rw [if_pos (by simp)]
      show (mapO (mapO (frzI H.get w 3)) (((bs.map rowY).drop 0).take bs.length)).map _ = _
      rw [List.drop_zero, List.take_of_length_le (by simp), mapO_y]
      rfl
    show (if id < w then _ else (frzI H.get w frzDepth (.sl id 0 bs.length bs.length)).map DV.imm) = _
    rw [if_neg (by omega), e1]
    rfl
theorem teleg_ne (b : List UInt8) : teleg b ≠ [] := by
  intro h
  have := congrArg List.length h
  simp [teleg, numY_len] at this
/-- a text that was added is short -/
theorem addF_short {b r : List UInt8} {t : Th} (h : addF b = some (t, r)) : (thB t).length ≤ 300 := by
  cases t with
  | int z => simp [thB, numY_len]
  | bool v => simp [thB]
  | text s =>
    unfold addF at h
    split at h
    · cases h
    · split at h
      · split at h
        · cases h
        · cases h
      · split at h
        · split at h
          · cases h
          · rename_i l r' 
            split at h
            · cases h
              have := l.toNat_lt
              simp [thB]
              omega
            · cases h
        · split at h
          · split at h
            · cases h
            · cases h
          · cases h
theorem itF_short {bs : List UInt8} : ∀ {k : Nat} {ts : List Th} {r : List UInt8}, itF bs k = some (ts, r) → ∀ t ∈ ts, (thB t).length ≤ 300
  | 0, ts, r, h => by
    simp only [itF] at h
    cases h
    intro t ht
    simp at ht
  | k + 1, ts, r, h => by
    simp only [itF] at h
    split at h
    · rename_i us q hu
      have ih := itF_short hu
      split at h
      · rename_i t q' ha
        split at h
        · cases h
          intro u hu'
          rcases List.mem_append.1 hu' with hu' | hu'
          · exact ih u hu'
          · simp at hu'
            subst hu'
            exact addF_short ha
        · cases h
      · cases h
    · cases h
def UnP (H : PT HB) (n : Nat) (bs : List UInt8) (v : DV) (H' : PT HB) (n' : Nat) : Prop := n ≤ n' ∧ (∀ j, j < n → H'.get j = H.get j) ∧ ((unF bs = none ∧ ∃ u, u ≠ 0 ∧ v = .tup [.imm .nilp, .imm (.int .i64 u)]) ∨
  ∃ ts a, unF bs = some ts ∧ v = .tup [.ptr a 0 0, .imm (.int .i64 0)] ∧ CrAt H' n n' a ts)
theorem Unpack_fn {d : Nat} {H : PT HB} {n lo : Nat} {f : Bool} {bs : List UInt8} (hlo : lo ≤ n) (hb : bs.length ≤ 100000) :
    Fe (K (doorG 0 1) (d + 6) 55 [.imm (.lst f 1 (bs.map ivY))] H n lo) (UnP H n bs) := by
  rw [D.k55]
  refine fn_dw rfl ?_
  by_cases h6 : bs.length ≤ 6
  · have i0 : ILt 6 (bs.length : Int) = False := ilt_f (by omega)
    simp [i0, B6, B7]
    exact ⟨Nat.le_refl _, fun _ _ => rfl, .inl ⟨by unfold unF; rw [if_pos h6], 2, by omega, rfl⟩⟩
  · have i0 : ILt 6 (bs.length : Int) = True := ilt_t (by omega)
    have hc6 : ∃ c r, bs.drop 6 = c :: r ∧ r = bs.drop 7 ∧ c = bs.getD 6 0 := by
      have e := List.drop_eq_getElem_cons (l := bs) (i := 6) (by omega)
      exact ⟨_, _, e, rfl, by simp [List.getD_eq_getElem?_getD, List.getElem?_eq_getElem (show 6 < bs.length by omega)]⟩
    obtain ⟨c, r, hd6, hr, hc⟩ := hc6
    have hrl : r.length ≤ 100000 := by rw [hr]; simp; omega
    have hm6 : (bs.map ivY).drop 6 = (c :: r).map ivY := by rw [← List.map_drop, hd6]
    obtain ⟨v0, Hc, nc, e0, rfl, hnc, hcr, hfc⟩ := CrNew (d := d + 4) (H := H) (n := n) (lo := lo)
    have e1 := fun {H n lo} => taken_y (d := d + 4) (H := H) (n := n) (lo := lo) (k := 1) (f := f) (bs := c :: r) (by simp; omega) (by omega) (by omega) (by simp)
    simp [valY] at e1
    have sl := fun {h : Nat → Option HB} {n : Nat} => (show sliceOf h n 1 (.imm (.lst f 1 (bs.map ivY))) (some (.imm (.int .i64 6))) none none = some { v := .imm (.lst f 1 ((c :: r).map ivY)), n' := n } by
      rw [← hm6]
      have ht : (bs.map ivY).take (bs.map ivY).length = bs.map ivY := List.take_length
      have h7 : 6 ≤ (bs.map ivY).length := by simp; omega
      have e6 : asNat (.imm (.int .i64 6)) = some 6 := by simp [asNat]
      simp only [sliceOf, natOr, e6, if_true]
      rw [if_pos ⟨h7, Nat.le_refl _⟩, ht]
      simp)
    have eF : unF bs = match itF r c.toNat with
      | some (ts, _) => @ite _ (((∀ t ∈ ts, thOk t = true) ∧ (bodyT ts).length ≤ 4000) ∧ teleg (bodyT ts) = bs) (Classical.propDecidable _) (some ts) none
      | none => none := by
      unfold unF
      rw [if_neg h6, ← hr, ← hc]
    have hcl := c.toNat_lt
    generalize hes : bs.map ivY = es at *
    have hel : es.length = bs.length := by rw [← hes]; simp
    simp only [List.map_cons] at sl
    simp [hel, i0, e0, sl, e1, B6, B7]
    refine loopUn (d := d + 2) (w := n) (H0 := H) (a := n) (N := c.toNat) (f := f) (d0 := .imm (.lst f 1 es)) (bs := r) (lo := lo) hlo (by omega) ⟨by simp [PT.get_put], by simp [PT.get_put], by simp [PT.get_put], by simp [PT.get_put], fun j hj => hfc j hj, by simp; omega, [], r, rfl, by simp, hrl, by simp [PT.get_put], hcr⟩ (fun s' hI => ?_) (fun s' hN f2 f3 fr fn => ?_)
    · obtain ⟨c0, c4, c22, c23, fr, hn, ts, r', hit, htl, hrl', c6, hcr⟩ := hI
      rw [hit] at eF
      simp only at eF
      have hcr0 : CrAt s'.H 0 s'.n n ts := by
        obtain ⟨⟨q1, q2⟩, q3⟩ := hcr
        refine ⟨⟨Nat.zero_le _, q2⟩, ?_⟩
        rcases q3 with q3 | ⟨b, ⟨p1, p2⟩, p3⟩
        · exact .inl q3
        · exact .inr ⟨b, ⟨Nat.zero_le _, p2⟩, p3⟩
      obtain ⟨v, H2, n2, e2, k1, k2, k3⟩ := Pack_fn (d := d) (H := s'.H) (n := s'.n) (lo := s'.n) (Nat.le_refl _) hcr0 htl (itF_short hit)
      rcases k3 with ⟨nok, rfl⟩ | ⟨okk, x', rfl, hy⟩
      · have ec : callM (K (doorG 0 1) (d + 5)) .ro 51 [.ptr n 0 0] s'.H s'.n lo = some ⟨.tup [.imm .nils, .imm (.int .i64 1)], s'.H, n2, [.rA]⟩ := by
          rw [callM_ro, if_pos (by rfl), e2]
          rfl
        simp [c0, c4, c6, c22, c23, ec, B6, B7]
        exact ⟨by omega, fr, .inl ⟨by rw [eF]; exact if_neg (fun h => nok h.1), 2, by omega, rfl⟩⟩
      · obtain ⟨g, hg⟩ := frz_y hy (teleg_ne _)
        have ec : callM (K (doorG 0 1) (d + 5)) .ro 51 [.ptr n 0 0] s'.H s'.n lo = some ⟨.tup [.imm (.lst g 1 ((teleg (bodyT ts)).map ivY)), .imm (.int .i64 0)], s'.H, n2, [.rA]⟩ := by
          have e9 : frz H2.get s'.n (.tup [x', .imm (.int .i64 0)]) = some (.tup [.imm (.lst g 1 ((teleg (bodyT ts)).map ivY)), .imm (.int .i64 0)]) := by
            simp [frz, frz.frzs, hg]
          rw [callM_ro, if_pos (by rfl), e2]
          simp only [e9]
          rfl
        have eq := equal_y (d := d + 4) (f := g) (g := f) (bs := teleg (bodyT ts)) (cs := bs)
        rw [hes] at eq
        by_cases hT : teleg (bodyT ts) = bs
        · rw [decide_eq_true hT] at eq
          generalize (teleg (bodyT ts)).map ivY = fs at *
          simp [c0, c4, c6, c22, c23, ec, eq, B6, B7]
          exact ⟨by omega, fr, .inr ⟨ts, n, by rw [eF]; exact if_pos ⟨okk, hT⟩, rfl, hcr.mono (by omega) (fun _ _ => rfl)⟩⟩
        · rw [decide_eq_false hT] at eq
          generalize (teleg (bodyT ts)).map ivY = fs at *
          simp [c0, c4, c6, c22, c23, ec, eq, B6, B7]
          exact ⟨by omega, fr, .inl ⟨by rw [eF]; exact if_neg (fun h => hT h.2), 2, by omega, rfl⟩⟩
    · rw [hN] at eF
      simp [f2, f3, B6, B7]
      exact ⟨by omega, fr, .inl ⟨eF, 2, by omega, rfl⟩⟩
theorem Unpack_nil {d : Nat} {H : PT HB} {n lo : Nat} : Fe (K (doorG 0 1) (d + 6) 55 [.imm .nils] H n lo) (UnP H n []) := by
  rw [D.k55]
  refine fn_dw rfl ?_
  have i0 : ILt 6 0 = False := ilt_f (by omega)
  simp [i0, B6, B7]
  exact ⟨Nat.le_refl _, fun _ _ => rfl, .inl ⟨by unfold unF; rw [if_pos (by simp)], 2, by omega, rfl⟩⟩
end Go.Proofs.YtnpcgejfkonfdabGreatDoor.D

-- T1
-- TabA
set_option linter.unusedVariables false
set_option linter.unusedSimpArgs false
set_option maxHeartbeats 8000000
namespace Go.Proofs.YtnpcgejfkonfdabGreatDoor.D
open Go Go.PM

def ivI (z : Int) : List IV := [.int .i64 z]
def ivS (s : List UInt8) : List IV := [.str s]
structure Need where
  pt : Int
  rev : Bool
  deriving DecidableEq, BEq, ReflBEq, LawfulBEq, Inhabited
def ivN (x : Need) : List IV := [.int .i64 x.pt, .bool x.rev]
/-! ### Numbers -/
theorem index_ints (G : Nat → Option (List IV)) {D : Nat} (hD : 1 ≤ D) {v : IV} {zs : List Int} (hv : Sl 1 v (zs.map ivI)) (hl : zs.length ≤ reachBytes) (z : Int) :
    ∃ r : Int, bl (K G D) 170 [.imm v, .imm (.int .i64 z)] = some (.imm (.int .i64 r)) ∧ (0 ≤ r ↔ z ∈ zs) := by
  obtain ⟨d, rfl⟩ : ∃ d, D = d + 1 := ⟨D - 1, by omega⟩
  rcases hv with ⟨rfl, hz⟩ | ⟨f, rfl⟩
  · obtain rfl : zs = [] := by simpa using hz
    refine ⟨-1, bl_imm (H' := .lf) (n' := 0) ?_, by simp⟩
    rw [D.k170]
    obtain ⟨k, hL⟩ : ∃ k, LOOP = k + 1 := ⟨2 ^ 62 - 1, rfl⟩
    simp only [D.f170, D.l170_0, fn_run, B4, B9, Option.map, List.length_cons, List.length_nil, reduceIte, Nat.reduceEqDiff, Nat.reduceAdd]
    simp [run_loop, hL, iter, loopRun_eq, keep, D.l170_0b, B4, B9, Option.map, List.length_cons, List.length_nil, reduceIte, Nat.reduceEqDiff, Nat.reduceAdd]
  · have loop : ∀ s : St, (s.T.get 0 = some (.imm (.lst f 1 (zs.map ivI))) ∧ s.T.get 1 = some (.imm (.int .i64 z)) ∧ s.T.get 7 = some (.imm (.int .i64 zs.length)) ∧ s.T.get 8 = some (.imm (.int .i64 (0 : Nat))) ∧ s.H = .lf ∧ s.n = 0) →
        ∃ e s', D.l170_0.run G (K G d) 0 s = some (e, s') ∧ ((e = .ret ∧ s'.H = .lf ∧ s'.n = 0 ∧ z ∈ zs ∧ ∃ r : Nat, s'.T.get 4 = some (.imm (.int .i64 r))) ∨ (e = .exit 0 ∧ s'.H = .lf ∧ s'.n = 0 ∧ z ∉ zs)) := fun s hs => by
      refine rng_loop (N := zs.length) (small hl) (fun i s => s.T.get 0 = some (.imm (.lst f 1 (zs.map ivI))) ∧ s.T.get 1 = some (.imm (.int .i64 z)) ∧ s.T.get 7 = some (.imm (.int .i64 zs.length)) ∧ s.T.get 8 = some (.imm (.int .i64 i)) ∧ s.H = .lf ∧ s.n = 0 ∧
        ∀ j, j < i → zs[j]? ≠ some z) _ (fun i s ⟨h0, h1, h7, h8, hH, hn, hj⟩ hle => ?_) s ⟨hs.1, hs.2.1, hs.2.2.1, hs.2.2.2.1, hs.2.2.2.2.1, hs.2.2.2.2.2, fun j hj => by omega⟩
      by_cases hi : i < zs.length
      · have hi' : (i : Int) < zs.length := by omega
        have hw := wr_succ hi hl
        have hx : zs[i]? = some zs[i] := List.getElem?_eq_getElem hi
        generalize hxe : zs[i] = x at hx
        by_cases hzx : z = x
        · right
          subst hzx
          refine ⟨.ret, ?_⟩
          simp only [D.l170_0b, keep, B4, B9, Option.map, List.length_cons, List.length_nil, reduceIte, Nat.reduceEqDiff, Nat.reduceAdd]
          simp [h0, h1, h7, h8, hi', hi, hx, hxe, hH, hn, ivI, imms, B4, B9, Option.map, List.length_cons, List.length_nil, reduceIte, Nat.reduceEqDiff, Nat.reduceAdd]
          exact ⟨List.mem_of_getElem? hx, i, by simp [PT.get_put]⟩
        · left
          refine ⟨hi, ?_⟩
          have hb := beqF hzx
          simp only [D.l170_0b, keep, B4, B9, Option.map, List.length_cons, List.length_nil, reduceIte, Nat.reduceEqDiff, Nat.reduceAdd]
          simp [h0, h1, h7, h8, hi', hi, hx, hxe, hw, hb, hH, hn, ivI, imms, B4, B9, Option.map, List.length_cons, List.length_nil, reduceIte, Nat.reduceEqDiff, Nat.reduceAdd]
          intro j hj1
          by_cases e : j = i
          · subst e; rw [hx]; exact fun e => hzx (Option.some.inj e).symm
          · exact hj j (by omega)
      · obtain rfl : i = zs.length := by omega
        right
        refine ⟨.exit 0, ?_⟩
        simp only [D.l170_0b, keep, B4, B9, Option.map, List.length_cons, List.length_nil, reduceIte, Nat.reduceEqDiff, Nat.reduceAdd]
        simp [h0, h1, h7, h8, hH, hn, B4, B9, Option.map, List.length_cons, List.length_nil, reduceIte, Nat.reduceEqDiff, Nat.reduceAdd]
        intro hm
        obtain ⟨j, hjj⟩ := List.getElem?_of_mem hm
        exact hj j (List.getElem?_eq_some_iff.1 hjj).1 hjj
    rw [show (∃ r : Int, bl (K G (d + 1)) 170 [.imm (.lst f 1 (zs.map ivI)), .imm (.int .i64 z)] = some (.imm (.int .i64 r)) ∧ (0 ≤ r ↔ z ∈ zs)) ↔ _ from Iff.rfl]
    have key : ∃ r : Int, K G (d + 1) 170 [.imm (.lst f 1 (zs.map ivI)), .imm (.int .i64 z)] .lf 0 0 = some (.imm (.int .i64 r), .lf, 0) ∧ (0 ≤ r ↔ z ∈ zs) := by
      rw [D.k170]
      simp only [D.f170, fn_run, B4, B9, Option.map, List.length_cons, List.length_nil, reduceIte, Nat.reduceEqDiff, Nat.reduceAdd]
      simp [B4, B9, Option.map, List.length_cons, List.length_nil, reduceIte, Nat.reduceEqDiff, Nat.reduceAdd]
      generalize hrun : D.l170_0.run G (K G d) 0 _ = r
      obtain ⟨e, s', rfl, hq⟩ : ∃ e s', r = some (e, s') ∧ ((e = .ret ∧ s'.H = .lf ∧ s'.n = 0 ∧ z ∈ zs ∧ ∃ r : Nat, s'.T.get 4 = some (.imm (.int .i64 r))) ∨ (e = .exit 0 ∧ s'.H = .lf ∧ s'.n = 0 ∧ z ∉ zs)) := by
        rw [← hrun]
        refine loop _ ⟨?_, ?_, ?_, ?_, rfl, rfl⟩ <;> simp [PT.get_put]
      clear hrun
      rcases hq with ⟨rfl, q1, q2, q3, r, q4⟩ | ⟨rfl, q1, q2, q3⟩
      · refine ⟨r, ?_⟩
        simp [q1, q2, q3, q4, B4, B9, Option.map, List.length_cons, List.length_nil, reduceIte, Nat.reduceEqDiff, Nat.reduceAdd]
      · refine ⟨-1, ?_⟩
        simp [q1, q2, q3, B4, B9, Option.map, List.length_cons, List.length_nil, reduceIte, Nat.reduceEqDiff, Nat.reduceAdd]
    obtain ⟨r, e1, e2⟩ := key
    exact ⟨r, bl_imm e1, e2⟩
theorem contains_ints (G : Nat → Option (List IV)) {D : Nat} (hD : 2 ≤ D) {v : IV} {zs : List Int} (hv : Sl 1 v (zs.map ivI)) (hl : zs.length ≤ reachBytes) (z : Int) :
    bl (K G D) 144 [.imm v, .imm (.int .i64 z)] = some (.imm (.bool (decide (z ∈ zs)))) := by
  obtain ⟨d, rfl⟩ : ∃ d, D = d + 1 := ⟨D - 1, by omega⟩
  obtain ⟨r, e1, e2⟩ := index_ints G (D := d) (by omega) hv hl z
  refine bl_imm (H' := .lf) (n' := 0) ?_
  rw [D.k144]
  simp only [D.f144, fn_run, B5, B8, Option.map, List.length_cons, List.length_nil, reduceIte, Nat.reduceEqDiff, Nat.reduceAdd]
  simp [e1, e2, B5, B8, Option.map, List.length_cons, List.length_nil, reduceIte, Nat.reduceEqDiff, Nat.reduceAdd]
end Go.Proofs.YtnpcgejfkonfdabGreatDoor.D

-- TabB
set_option linter.unusedVariables false
set_option linter.unusedSimpArgs false
set_option maxHeartbeats 16000000
set_option maxRecDepth 100000
namespace Go.Proofs.YtnpcgejfkonfdabGreatDoor.D
open Go Go.PM Go.Lib
noncomputable abbrev DG := doorG 0 1

/-! ### Bits -/
/-! ### The tables -/
theorem b8 : IntKind.u8.bits = 8 := rfl
def bAt (s : List UInt8) (i : Nat) : Nat := ((s[i]?).getD 0).toNat
/-! ### DecodeRuneInString -/
def decD (s : List UInt8) : Nat × Nat := if s = [] then (65533, 0) else decodeN s.length (bAt s 0) (bAt s 1) (bAt s 2) (bAt s 3)
end Go.Proofs.YtnpcgejfkonfdabGreatDoor.D

-- TabC
set_option linter.unusedVariables false
set_option linter.unusedSimpArgs false
set_option maxHeartbeats 16000000
namespace Go.Proofs.YtnpcgejfkonfdabGreatDoor.D
open Go Go.PM Go.Lib
def isL (r : Int) : Bool := decide ((97 ≤ r ∧ r ≤ 122) ∨ (65 ≤ r ∧ r ≤ 90) ∨ (192 ≤ r ∧ r ≤ 591 ∧ ¬ r = 215 ∧ ¬ r = 247))
end Go.Proofs.YtnpcgejfkonfdabGreatDoor.D

-- TabD
set_option linter.unusedVariables false
set_option linter.unusedSimpArgs false
set_option maxHeartbeats 16000000
namespace Go.Proofs.YtnpcgejfkonfdabGreatDoor.D
open Go Go.PM Go.Lib

/-- The runes of a text, with their widths. -/
def runes : Nat → List UInt8 → List (Nat × Nat)
  | 0, _ => []
  | k + 1, s => if s = [] then [] else decD s :: runes k (s.drop (decD s).2)
def RS (s : List UInt8) : List (Nat × Nat) := runes s.length s
/-- May a rune be there? -/
def okR (p : Nat × Nat) (i : Nat) : Bool := !decide (p.1 = 65533 ∧ p.2 = 1) && (isL p.1 || decide (0 < i ∧ 48 ≤ p.1 ∧ p.1 ≤ 57))
def allR (l : List (Nat × Nat)) : Bool := l.zipIdx.all fun x => okR x.1 x.2
def isNm (s : List UInt8) : Bool := allR (RS s) && decide (1 ≤ (RS s).length ∧ (RS s).length ≤ 8)
end Go.Proofs.YtnpcgejfkonfdabGreatDoor.D

-- TabE
set_option linter.unusedVariables false
set_option linter.unusedSimpArgs false
set_option maxHeartbeats 16000000
namespace Go.Proofs.YtnpcgejfkonfdabGreatDoor.D
open Go Go.PM Go.Lib
end Go.Proofs.YtnpcgejfkonfdabGreatDoor.D

-- T1b
-- TabF
set_option linter.unusedVariables false
set_option linter.unusedSimpArgs false
set_option maxHeartbeats 16000000
namespace Go.Proofs.YtnpcgejfkonfdabGreatDoor.D
open Go Go.PM Go.Lib

/-! ### Rows that grow -/
def AtS (sz : Nat) (x : DV) (H : PT HB) (n : Nat) (rows : List (List IV)) : Prop := (x = .imm .nils ∧ rows = []) ∨ ∃ id, id < n ∧ x = .sl id 0 rows.length rows.length ∧ H.get id = some ⟨sz, rows.map imms⟩
theorem mapO_frz {h : Nat → Option HB} {lo d : Nat} : ∀ es : List IV, mapO (frzI h lo d) (imms es) = some es
  | [] => rfl
  | e :: es => by
    have := mapO_frz (h := h) (lo := lo) (d := d) es
    cases d <;> simp [imms, mapO, frzI] at this ⊢ <;> rw [this]
theorem mapO_frz2 {h : Nat → Option HB} {lo d : Nat} : ∀ rows : List (List IV), mapO (mapO (frzI h lo d)) (rows.map imms) = some rows
  | [] => rfl
  | e :: es => by
    simp only [List.map_cons, mapO, mapO_frz, mapO_frz2 es]
theorem frz_row {sz : Nat} {x : DV} {H : PT HB} {n : Nat} {rows : List (List IV)} (h : AtS sz x H n rows) : ∃ v, frz H.get 0 x = some (.imm v) ∧ Sl sz v rows := by
  rcases h with ⟨rfl, rfl⟩ | ⟨id, h2, rfl, h3⟩
  · exact ⟨_, rfl, .inl ⟨rfl, rfl⟩⟩
  · refine ⟨.lst false sz rows, ?_, .inr ⟨_, rfl⟩⟩
    have hf : frzI H.get 0 frzDepth (.sl id 0 rows.length rows.length) = some (.lst false sz rows) := by
      show (if 0 ≤ id then _ else _) = _
      rw [if_pos (Nat.zero_le _)]
      simp only [h3]
      rw [if_pos (by simp)]
      simp only [List.drop_zero]
      rw [List.take_of_length_le (by simp), mapO_frz2]
      rfl
    have hz : frz H.get 0 (.sl id 0 rows.length rows.length) = if id < 0 then some (.sl id 0 rows.length rows.length) else (frzI H.get 0 frzDepth (.sl id 0 rows.length rows.length)).map .imm := rfl
    rw [hz, if_neg (Nat.not_lt_zero _), hf]
    rfl

/-! ### Runes -/
end Go.Proofs.YtnpcgejfkonfdabGreatDoor.D

-- TabG
set_option linter.unusedVariables false
set_option linter.unusedSimpArgs false
set_option maxHeartbeats 16000000
namespace Go.Proofs.YtnpcgejfkonfdabGreatDoor.D
open Go Go.PM Go.Lib
end Go.Proofs.YtnpcgejfkonfdabGreatDoor.D

-- TabH
set_option linter.unusedVariables false
set_option linter.unusedSimpArgs false
set_option maxHeartbeats 16000000
namespace Go.Proofs.YtnpcgejfkonfdabGreatDoor.D
open Go Go.PM Go.Lib
/-! ### Texts -/
/-! ### Names -/
def nm3 (s : List UInt8) : Bool := isNm s && (!(s == [115, 101, 116]) && !(s == [102, 108, 97, 110, 107]))
end Go.Proofs.YtnpcgejfkonfdabGreatDoor.D

-- TabI
set_option linter.unusedVariables false
set_option linter.unusedSimpArgs false
set_option maxHeartbeats 16000000
namespace Go.Proofs.YtnpcgejfkonfdabGreatDoor.D
open Go Go.PM Go.Lib
def NM (ss : List (List UInt8)) : Prop := ∀ i s, ss[i]? = some s → nm3 s = true ∧ s ∉ ss.take i
theorem NM_nil : NM [] := fun i s h => by simp at h
end Go.Proofs.YtnpcgejfkonfdabGreatDoor.D

-- TabJ
set_option linter.unusedVariables false
set_option linter.unusedSimpArgs false
set_option maxHeartbeats 16000000
namespace Go.Proofs.YtnpcgejfkonfdabGreatDoor.D
open Go Go.PM Go.Lib
end Go.Proofs.YtnpcgejfkonfdabGreatDoor.D

-- TabK
set_option linter.unusedVariables false
set_option linter.unusedSimpArgs false
set_option maxHeartbeats 16000000
namespace Go.Proofs.YtnpcgejfkonfdabGreatDoor.D
open Go Go.PM Go.Lib
end Go.Proofs.YtnpcgejfkonfdabGreatDoor.D

-- TabL
set_option linter.unusedVariables false
set_option linter.unusedSimpArgs false
set_option maxHeartbeats 16000000
namespace Go.Proofs.YtnpcgejfkonfdabGreatDoor.D
open Go Go.PM Go.Lib
def PA (secs : Nat) (zs : List Int) : Prop := ∀ (i : Nat) (z : Int), zs[i]? = some z → (0 ≤ z ∧ z < secs) ∧ z ∉ zs.take i
end Go.Proofs.YtnpcgejfkonfdabGreatDoor.D

-- TabM
set_option linter.unusedVariables false
set_option linter.unusedSimpArgs false
set_option maxHeartbeats 4000000
namespace Go.Proofs.YtnpcgejfkonfdabGreatDoor.D
open Go Go.PM
structure Pt where
  name : List UInt8
  sec : Int
  deriving Inhabited
def ivP (x : Pt) : List IV := [.str x.name, .int .i64 x.sec]
structure Rt where
  name : List UInt8
  fr : Int
  to : Int
  pv : IV
  qv : IV
  fv : IV
  path : List Int
  pts : List Need
  flk : List Need
  deriving Inhabited
def ivRt (r : Rt) : List IV := [.str r.name, .int .i64 r.fr, .int .i64 r.to, r.pv, r.qv, r.fv]
structure RtOk (r : Rt) : Prop where
  p : Sl 1 r.pv (r.path.map ivI)
  q : Sl 2 r.qv (r.pts.map ivN)
  f : Sl 2 r.fv (r.flk.map ivN)
  ln : r.name.length ≤ reachBytes
  lp : r.path.length ≤ reachBytes
  lq : r.pts.length ≤ reachBytes
  lf : r.flk.length ≤ reachBytes
structure Lo where
  sv : IV
  pv : IV
  gv : IV
  rv : IV
  secs : List (List UInt8)
  pts : List Pt
  sigs : List (List UInt8)
  rts : List Rt
  deriving Inhabited
abbrev Lo.dv (l : Lo) : DV := .agg [.imm l.sv, .imm l.pv, .imm l.gv, .imm l.rv]
structure LoOk (l : Lo) : Prop where
  s : Sl 1 l.sv (l.secs.map ivS)
  p : Sl 2 l.pv (l.pts.map ivP)
  g : Sl 1 l.gv (l.sigs.map ivS)
  r : Sl 6 l.rv (l.rts.map ivRt)
  ls : l.secs.length ≤ reachBytes
  lp : l.pts.length ≤ reachBytes
  lg : l.sigs.length ≤ reachBytes
  lr : l.rts.length ≤ reachBytes
  os : ∀ x ∈ l.secs, x.length ≤ reachBytes
  op : ∀ x ∈ l.pts, x.name.length ≤ reachBytes
  og : ∀ x ∈ l.sigs, x.length ≤ reachBytes
  or : ∀ x ∈ l.rts, RtOk x
theorem rows_of {α : Type} {ks : List Kd} {iv : IV} (h : FitK (.sl ks) iv) (f : α → List IV) (OK : α → Prop)
    (hrow : ∀ e : List IV, e.length = ks.length → (∀ (j : Nat) (k : Kd) (c : IV), ks[j]? = some k → e[j]? = some c → FitK k c) → ∃ a, e = f a ∧ OK a) :
    ∃ xs : List α, Sl ks.length iv (xs.map f) ∧ xs.length ≤ reachBytes ∧ ∀ x ∈ xs, OK x := by
  cases h with
  | nil => exact ⟨[], Or.inl ⟨rfl, rfl⟩, by simp, fun x h => by cases h⟩
  | sl hm hl hk =>
    rename_i es
    have each : ∀ e ∈ es, ∃ a, e = f a ∧ OK a := fun e he => by
      obtain ⟨i, hi⟩ := List.getElem?_of_mem he
      exact hrow e (hl e he) fun j k c h1 h2 => hk i j e k c hi h1 h2
    have key : ∀ l : List (List IV), (∀ e ∈ l, ∃ a, e = f a ∧ OK a) → ∃ xs : List α, l = xs.map f ∧ ∀ x ∈ xs, OK x := by
      intro l
      induction l with
      | nil => exact fun _ => ⟨[], rfl, fun x h => by cases h⟩
      | cons e l ih =>
        intro hh
        obtain ⟨a, rfl, ha⟩ := hh e (List.mem_cons_self ..)
        obtain ⟨xs, rfl, hx⟩ := ih fun e he => hh e (List.mem_cons_of_mem _ he)
        refine ⟨a :: xs, rfl, fun x hx' => ?_⟩
        rcases List.mem_cons.1 hx' with rfl | hx'
        · exact ha
        · exact hx x hx'
    obtain ⟨xs, rfl, hx⟩ := key es each
    exact ⟨xs, .inr ⟨_, rfl⟩, by simpa using hm, hx⟩
theorem bools_of {iv : IV} (h : FitK (.sl [.b]) iv) : ∃ bs : List Bool, Sl 1 iv (bs.map fun b => [.bool b]) ∧ bs.length ≤ reachBytes ∧ ∀ b ∈ bs, True :=
  rows_of h (fun b : Bool => [.bool b]) _ fun e hl hk => by
    match e, hl with
    | [c], _ =>
      have f0 := hk 0 _ _ rfl rfl
      cases f0 with
      | b => exact ⟨_, rfl, trivial⟩
abbrev kdR : List Kd := [.s, .i .i64, .i .i64, .sl [.i .i64], .sl [.i .i64, .b], .sl [.i .i64, .b]]
abbrev kdL : List Kd := [.sl [.s], .sl [.s, .i .i64], .sl [.s], .sl kdR]
end Go.Proofs.YtnpcgejfkonfdabGreatDoor.D

-- T2
-- TabN
set_option linter.unusedVariables false
set_option linter.unusedSimpArgs false
set_option maxHeartbeats 16000000
namespace Go.Proofs.YtnpcgejfkonfdabGreatDoor.D
open Go Go.PM Go.Lib
def NE1 (pts : List Pt) (xs : List Need) (path : List Int) (w : Bool) (i : Nat) : Prop :=
  InR (nth xs i).pt pts.length ∧ (0 < i → (nth xs (i - 1)).pt < (nth xs i).pt) ∧ ((nth pts (nth xs i).pt.toNat).sec ∈ path ↔ w = true)
def NE (pts : List Pt) (xs : List Need) (path : List Int) (w : Bool) : Prop := ∀ i, i < xs.length → NE1 pts xs path w i
end Go.Proofs.YtnpcgejfkonfdabGreatDoor.D

-- TabO
set_option linter.unusedVariables false
set_option linter.unusedSimpArgs false
set_option maxHeartbeats 16000000
namespace Go.Proofs.YtnpcgejfkonfdabGreatDoor.D
open Go Go.PM Go.Lib
end Go.Proofs.YtnpcgejfkonfdabGreatDoor.D

-- TabP
set_option linter.unusedVariables false
set_option linter.unusedSimpArgs false
set_option maxHeartbeats 16000000
namespace Go.Proofs.YtnpcgejfkonfdabGreatDoor.D
open Go Go.PM Go.Lib
def cnt (pts : List Pt) (path : List Int) : Nat := (pts.filter fun p => decide (p.sec ∈ path)).length
theorem PA_nth {secs : Nat} {zs : List Int} : PA secs zs ↔ ∀ i, i < zs.length → InR (nth zs i) secs ∧ nth zs i ∉ zs.take i := by
  constructor
  · intro h i hi
    have := h i _ (nth_get hi)
    exact ⟨this.1, this.2⟩
  · intro h i z hz
    have hi := (List.getElem?_eq_some_iff.1 hz).1
    rw [nth_get hi] at hz
    cases hz
    have := h i hi
    exact ⟨this.1, this.2⟩
structure RT (l : Lo) (r : Rt) : Prop where
  fr : InR r.fr l.sigs.length
  to : InR r.to l.sigs.length
  ne : ¬ r.fr = r.to
  pa : PA l.secs.length r.path
  p1 : 1 ≤ r.path.length
  p5 : r.path.length ≤ 5
  np : NE l.pts r.pts r.path true
  nf : NE l.pts r.flk r.path false
  ct : cnt l.pts r.path = r.pts.length
end Go.Proofs.YtnpcgejfkonfdabGreatDoor.D

-- TabQ
set_option linter.unusedVariables false
set_option linter.unusedSimpArgs false
set_option maxHeartbeats 16000000
namespace Go.Proofs.YtnpcgejfkonfdabGreatDoor.D
open Go Go.PM Go.Lib
def Box (st : St) (k : Nat) (vs : List IV) : Prop := ∃ id, st.T.get k = some (.lref k id 0) ∧ st.L.get k = some (.box id (imms vs))
abbrev Lo.ivs (l : Lo) : List IV := [l.sv, l.pv, l.gv, l.rv]
end Go.Proofs.YtnpcgejfkonfdabGreatDoor.D

-- TabR
set_option linter.unusedVariables false
set_option linter.unusedSimpArgs false
set_option maxHeartbeats 16000000
namespace Go.Proofs.YtnpcgejfkonfdabGreatDoor.D
open Go Go.PM Go.Lib
/-! ### Rows that grow, two of them -/
def DJ (x y : DV) : Prop := ∀ id r l c id' r' l' c', x = .sl id r l c → y = .sl id' r' l' c' → id ≠ id'
theorem DJ.nil {x : DV} : DJ x (.imm .nils) := fun _ _ _ _ _ _ _ _ _ h => by cases h
theorem DJ.symm {x y : DV} (h : DJ x y) : DJ y x := fun a b c d e f g k h1 h2 => fun e1 => h e f g k a b c d h2 h1 e1.symm
theorem AtS.mono {sz : Nat} {x : DV} {H : PT HB} {n n' : Nat} {rows : List (List IV)} (h : AtS sz x H n rows) (hn : n ≤ n') : AtS sz x H n' rows := by
  rcases h with h | ⟨id, h1, h2⟩
  · exact .inl h
  · exact .inr ⟨id, by omega, h2⟩
/-! ### table.Is -/
def pn (l : Lo) : List (List UInt8) := l.pts.map (·.name)
def rn (l : Lo) : List (List UInt8) := l.rts.map (·.name)
structure ISL (l : Lo) : Prop where
  s1 : 1 ≤ l.secs.length
  s2 : l.secs.length ≤ 10
  g1 : 1 ≤ l.sigs.length
  g2 : l.sigs.length ≤ 6
  p2 : l.pts.length ≤ 5
  r2 : l.rts.length ≤ 6
  ps : ∀ i, i < l.pts.length → InR (nth l.pts i).sec l.secs.length
  ns : NM l.secs
  ng : NM l.sigs
  np : NM (pn l)
  nr : NM (rn l)
  rr : ∀ i, i < l.rts.length → RT l (nth l.rts i)
end Go.Proofs.YtnpcgejfkonfdabGreatDoor.D

-- TabS
set_option linter.unusedVariables false
set_option linter.unusedSimpArgs false
set_option maxHeartbeats 16000000
namespace Go.Proofs.YtnpcgejfkonfdabGreatDoor.D
open Go Go.PM Go.Lib
theorem rb3 : 3000 ≤ reachBytes ∧ reachBytes ≤ 2 ^ 50 := by decide
structure LoSm (l : Lo) : Prop where
  s : ∀ x ∈ l.secs, x.length ≤ 100000
  p : ∀ x ∈ l.pts, x.name.length ≤ 100000
  g : ∀ x ∈ l.sigs, x.length ≤ 100000
  r : ∀ x ∈ l.rts, x.name.length ≤ 100000
end Go.Proofs.YtnpcgejfkonfdabGreatDoor.D

-- T5
set_option linter.unusedVariables false
set_option linter.unusedSimpArgs false
set_option maxHeartbeats 16000000
namespace Go.Proofs.YtnpcgejfkonfdabGreatDoor.D
open Go Go.PM Go.Lib
/-! ### Rows with room -/
def AtC (sz : Nat) (x : DV) (H : PT HB) (n : Nat) (rows : List (List IV)) (cap : Nat) : Prop := (x = .imm .nils ∧ rows = [] ∧ cap = 0) ∨ ∃ id rest, id < n ∧ x = .sl id 0 rows.length cap ∧ H.get id = some ⟨sz, rows.map imms ++ rest⟩ ∧ rows.length + rest.length = cap
theorem src_sl {sz : Nat} {v : IV} {es : List (List IV)} (h : Sl sz v es) (hh : Nat → Option HB) : ∃ sb, srcOf hh (.imm v) = some (none, sb, es.map imms) ∧ (es ≠ [] → sb = sz) := by
  rcases h with ⟨rfl, rfl⟩ | ⟨f, rfl⟩
  · exact ⟨0, rfl, fun h => absurd rfl h⟩
  · exact ⟨sz, rfl, fun _ => rfl⟩
theorem app_cap {sz bytes : Nat} {x : DV} {H : PT HB} {n cap : Nat} {rows es : List (List IV)} {v : IV} (h : AtC sz x H n rows cap) (hs : 0 < sz) (hv : Sl sz v es) (hl : rows.length + es.length ≤ cap) :
    ∃ x' hw acc, appOf H.get n 0 sz bytes x (.imm v) = some { v := x', hw := hw, n' := n, acc := acc } ∧ AtC sz x' (putH H hw) n (rows ++ es) cap := by
  obtain ⟨sb, hsrc, hsb⟩ := src_sl hv H.get
  by_cases he : es = []
  · subst he
    refine ⟨x, [], [], ?_, by simpa [putH] using h⟩
    rcases h with ⟨rfl, rfl, rfl⟩ | ⟨id, rest, h1, rfl, h2, h3⟩
    · simp [appOf, hsrc, raccOf]
    · simp [appOf, hsrc, raccOf]
  · have hpos : 0 < es.length := List.length_pos_iff.2 he
    obtain rfl := hsb he
    rcases h with ⟨rfl, rfl, rfl⟩ | ⟨id, rest, h1, rfl, h2, h3⟩
    · exact absurd (by simpa using hl) he
    · refine ⟨.sl id 0 (rows.length + es.length) cap, [(id, some ⟨sb, rows.map imms ++ es.map imms ++ rest.drop es.length⟩)], .wX id :: raccOf none, ?_, .inr ⟨id, rest.drop es.length, h1, by simp, by simp [putH, PT.get_put], by simp; omega⟩⟩
      have a1 : rows.length + es.length ≤ rows.length + rest.length := by omega
      have a2 : (rows.map imms ++ rest).take rows.length = rows.map imms := by rw [List.take_left' (by simp)]
      have a3 : (rows.map imms ++ rest).drop (rows.length + es.length) = rest.drop es.length := by
        rw [List.drop_append]; simp
      simp [appOf, hsrc, he, hs, h2, hl, a1, a2, a3, raccOf]
theorem frz_cap {sz : Nat} {x : DV} {H : PT HB} {n cap : Nat} {rows : List (List IV)} (h : AtC sz x H n rows cap) : ∃ v, frz H.get 0 x = some (.imm v) ∧ Sl sz v rows := by
  rcases h with ⟨rfl, rfl, rfl⟩ | ⟨id, rest, h1, rfl, h2, h3⟩
  · exact ⟨_, rfl, .inl ⟨rfl, rfl⟩⟩
  · refine ⟨.lst false sz rows, ?_, .inr ⟨_, rfl⟩⟩
    have hf : frzI H.get 0 frzDepth (.sl id 0 rows.length cap) = some (.lst false sz rows) := by
      show (if 0 ≤ id then _ else _) = _
      rw [if_pos (Nat.zero_le _)]
      simp only [h2]
      rw [if_pos (by simp)]
      simp only [List.drop_zero]
      rw [List.take_left' (by simp), mapO_frz2]
      rfl
    have hz : frz H.get 0 (.sl id 0 rows.length cap) = if id < 0 then some (.sl id 0 rows.length cap) else (frzI H.get 0 frzDepth (.sl id 0 rows.length cap)).map .imm := rfl
    rw [hz, if_neg (Nat.not_lt_zero _), hf]
    rfl
theorem AtC.out {sz : Nat} {x : DV} {H : PT HB} {n cap : Nat} {rows : List (List IV)} (h : AtC sz x H n rows cap) : x.out = true := by
  rcases h with ⟨rfl, _⟩ | ⟨id, rest, _, rfl, _⟩ <;> rfl
theorem AtS.out {sz : Nat} {x : DV} {H : PT HB} {n : Nat} {rows : List (List IV)} (h : AtS sz x H n rows) : x.out = true := by
  rcases h with ⟨rfl, _⟩ | ⟨id, _, rfl, _⟩ <;> rfl
/-! ### Rows of values appended to nothing, to a row of the heap -/
theorem app_none {sz bytes : Nat} {x : DV} {h : Nat → Option HB} {n : Nat} {v : IV} (hx : x = .imm .nils ∨ x = .imm (.lst true sz []) ∨ ∃ id k, x = .sl id 0 k k) (hv : Sl sz v []) :
    appOf h n 0 sz bytes x (.imm v) = some { v := x, n' := n, acc := [] } := by
  obtain ⟨sb, hsrc, _⟩ := src_sl hv h
  rcases hx with rfl | rfl | ⟨id, k, rfl⟩ <;> simp [appOf, hsrc, raccOf]
theorem app_new {sz bytes : Nat} {h : Nat → Option HB} {n : Nat} {v : IV} {es : List (List IV)} (hv : Sl sz v es) (he : es ≠ []) (hs : 0 < sz) (hl : es.length ≤ 2 ^ 25) (hb : bytes ≤ 1000) :
    appOf h n 0 sz bytes (.imm (.lst true sz [])) (.imm v) = some { v := .sl n 0 es.length es.length, hw := [(n, some ⟨sz, es.map imms⟩)], n' := n + 1, acc := [.wX n] } := by
  obtain ⟨sb, hsrc, hsb⟩ := src_sl hv h
  obtain rfl := hsb he
  have a1 : es.length ≤ appMax := by unfold appMax; omega
  have a2 : es.length * bytes ≤ appMax := by
    have := Nat.mul_le_mul hl hb
    unfold appMax; omega
  simp [appOf, hsrc, he, hs, a1, a2, raccOf]
/-! ### slices.Grow, slices.Concat -/
theorem grow_run (d : Nat) {k : Nat} (hk : k ≤ 1000) (H : PT HB) (n : Nat) :
    Fe (K DG (d + 1) 180 [.imm .nils, .imm (.int .i64 k)] H n 0) (fun x H' n' => AtC 2 x H' n' [] k) := by
  rw [D.k180]
  refine fn_dw rfl ?_
  have w : IntKind.i64.wrap ((k : Int)) = k := wr_id (by omega) (by omega)
  have w0 : IntKind.i64.wrap 0 = 0 := by decide
  by_cases h0 : k = 0
  · subst h0
    simp [w0, B6, B7]
    exact .inl ⟨rfl, rfl, rfl⟩
  · have hj : ILt 0 (k : Int) = True := ilt_t (by omega)
    have a1 : k ≤ appMax := by unfold appMax; omega
    have a2 : k * 16 ≤ appMax := by unfold appMax; omega
    have a3 : 0 < k := by omega
    simp [w, w0, hj, a1, a2, a3, sliceOf, B6, B7]
    exact .inr ⟨n, List.replicate k (imms [.int .i64 0, .bool false]), by omega, rfl, by simp [PT.get_put, imms], by simp⟩
def ICA (p q : IV) (a b : Nat) (i : Nat) (st : St) : Prop := st.T.get 0 = some (.imm (.lst true 1 [[p], [q]])) ∧ st.T.get 9 = some (.imm (.lst true 1 [[p], [q]])) ∧ st.T.get 10 = some (.imm (.int .i64 2)) ∧ st.T.get 11 = some (.imm (.int .i64 i)) ∧
  st.T.get 3 = some (.imm (.int .i64 (if i = 0 then 0 else if i = 1 then a else a + b : Nat))) ∧ st.H = .lf ∧ st.n = 0
theorem two_loop : (2 : Nat) < LOOP := by unfold LOOP; omega
theorem loopCA {d : Nat} {p q : IV} {xs ys : List (List IV)} (hp : Sl 2 p xs) (hq : Sl 2 q ys) (hx : xs.length ≤ 100) (hy : ys.length ≤ 100) {ks : List Kf} {st : St} {Q : Ex → St → Prop} (h : ICA p q xs.length ys.length 0 st)
    (hk : ∀ st', ICA p q xs.length ys.length 2 st' → Bk DG (K DG d) 0 (.exit 0) ks st' Q) :
    Wp DG (K DG d) 0 D.l172_0 ks st Q := by
  refine dw_loop (N := 2) two_loop (ICA p q xs.length ys.length) (fun e st' => e = .exit 0 ∧ ICA p q xs.length ys.length 2 st') (fun i st hle hI => ?_) h (fun e s' h => by rw [h.1]; exact hk s' h.2)
  obtain ⟨h0, h9, h10, h11, h3, hH, hn⟩ := hI
  have pl := hp.len
  have ql := hq.len
  have w1 : IntKind.i64.wrap (xs.length : Int) = xs.length := wr_id (by omega) (by omega)
  have w2 : IntKind.i64.wrap ((xs.length : Int) + (ys.length : Int)) = (xs.length : Int) + (ys.length : Int) := wr_id (by omega) (by omega)
  have w3 : IntKind.i64.wrap 1 = 1 := by decide
  have w4 : IntKind.i64.wrap 2 = 2 := by decide
  have l02 : ILt 0 2 = True := ilt_t (by omega)
  have l12 : ILt 1 2 = True := ilt_t (by omega)
  have c1 : ILt (xs.length : Int) 0 = False := ilt_f (by omega)
  have c2 : ILt ((xs.length : Int) + (ys.length : Int)) 0 = False := ilt_f (by omega)
  rcases (show i = 0 ∨ i = 1 ∨ i = 2 by omega) with rfl | rfl | rfl
  · generalize hQ : (fun (e : Ex) (s' : St) => _) = Q'
    simp at h3
    simp only [D.l172_0b]
    simp [h0, h9, h10, h11, h3, hH, hn, pl, w1, w3, c1, l02, idxE, B6, B7]
    subst hQ
    simp [ICA, PT.get_put]
  · generalize hQ : (fun (e : Ex) (s' : St) => _) = Q'
    simp at h3
    simp only [D.l172_0b]
    simp [h0, h9, h10, h11, h3, hH, hn, ql, w2, w4, c2, l12, idxE, B6, B7]
    subst hQ
    simp [ICA, PT.get_put]
  · generalize hQ : (fun (e : Ex) (s' : St) => _) = Q'
    simp at h3
    simp only [D.l172_0b]
    simp [h0, h9, h10, h11, h3, hH, hn, B6, B7]
    subst hQ
    simp [ICA, PT.get_put]
def ICB (p q : IV) (xs ys : List (List IV)) (i : Nat) (st : St) : Prop := ∃ x, st.T.get 6 = some x ∧ st.T.get 25 = some (.imm (.lst true 1 [[p], [q]])) ∧ st.T.get 26 = some (.imm (.int .i64 2)) ∧ st.T.get 27 = some (.imm (.int .i64 i)) ∧
  AtC 2 x st.H st.n (if i = 0 then [] else if i = 1 then xs else xs ++ ys) (xs.length + ys.length)
theorem loopCB {d : Nat} {p q : IV} {xs ys : List (List IV)} (hp : Sl 2 p xs) (hq : Sl 2 q ys) {ks : List Kf} {st : St} {Q : Ex → St → Prop} (h : ICB p q xs ys 0 st)
    (hk : ∀ st', ICB p q xs ys 2 st' → Bk DG (K DG d) 0 (.exit 2) ks st' Q) :
    Wp DG (K DG d) 0 D.l172_1 ks st Q := by
  refine dw_loop (N := 2) two_loop (ICB p q xs ys) (fun e st' => e = .exit 2 ∧ ICB p q xs ys 2 st') (fun i st hle hI => ?_) h (fun e s' h => by rw [h.1]; exact hk s' h.2)
  obtain ⟨x, h6, h25, h26, h27, hat⟩ := hI
  have w3 : IntKind.i64.wrap 1 = 1 := by decide
  have w4 : IntKind.i64.wrap 2 = 2 := by decide
  have l02 : ILt 0 2 = True := ilt_t (by omega)
  have l12 : ILt 1 2 = True := ilt_t (by omega)
  rcases (show i = 0 ∨ i = 1 ∨ i = 2 by omega) with rfl | rfl | rfl
  · obtain ⟨x', hw, acc, p1, p2⟩ := app_cap (bytes := 16) hat (by omega) hp (by simp)
    generalize hQ : (fun (e : Ex) (s' : St) => _) = Q'
    simp only [D.l172_1b]
    simp [h6, h25, h26, h27, p1, w3, l02, idxE, B6, B7]
    subst hQ
    simp at p2
    simp
    exact ⟨x', by simp [PT.get_put], by simp [PT.get_put], by simp [PT.get_put], by simp [PT.get_put], by simpa using p2⟩
  · obtain ⟨x', hw, acc, p1, p2⟩ := app_cap (bytes := 16) hat (by omega) hq (by simp)
    generalize hQ : (fun (e : Ex) (s' : St) => _) = Q'
    simp only [D.l172_1b]
    simp [h6, h25, h26, h27, p1, w4, l12, idxE, B6, B7]
    subst hQ
    simp at p2
    simp
    exact ⟨x', by simp [PT.get_put], by simp [PT.get_put], by simp [PT.get_put], by simp [PT.get_put], by simpa using p2⟩
  · generalize hQ : (fun (e : Ex) (s' : St) => _) = Q'
    simp only [D.l172_1b]
    simp [h6, h25, h26, h27, B6, B7]
    subst hQ
    simp
    exact ⟨x, by simp [PT.get_put], by simp [PT.get_put], by simp [PT.get_put], by simp [PT.get_put], by simpa using hat⟩
theorem concat_bl {D : Nat} (hD : 2 ≤ D) {p q : IV} {xs ys : List (List IV)} (hp : Sl 2 p xs) (hq : Sl 2 q ys) (hx : xs.length ≤ 100) (hy : ys.length ≤ 100) :
    ∃ v, bl (K DG D) 172 [.imm (.lst true 1 [[p], [q]])] = some (.imm v) ∧ Sl 2 v (xs ++ ys) := by
  obtain ⟨d, rfl⟩ : ∃ d, D = d + 2 := ⟨D - 2, by omega⟩
  have key : Fe (K DG (d + 2) 172 [.imm (.lst true 1 [[p], [q]])] .lf 0 0) (fun x H n => x.out = true ∧ AtC 2 x H n (xs ++ ys) (xs.length + ys.length)) := by
    rw [D.k172]
    refine fn_dw rfl ?_
    simp [B6, B7]
    refine loopCA hp hq hx hy ⟨by simp [PT.get_put], by simp [PT.get_put], by simp [PT.get_put], by simp [PT.get_put], by simp [PT.get_put], rfl, rfl⟩ ?_
    rintro st' ⟨h0, h9, h10, h11, h3, hH, hn⟩
    obtain ⟨x, H1, n1, e1, hat⟩ := grow_run d (k := xs.length + ys.length) (by omega) .lf 0
    simp at h3
    rw [show ((xs.length + ys.length : Nat) : Int) = (xs.length : Int) + (ys.length : Int) by omega] at e1
    simp [h0, h3, hH, hn, e1, B6, B7]
    refine loopCB hp hq ⟨x, by simp [PT.get_put], by simp [PT.get_put, h0], by simp [PT.get_put], by simp [PT.get_put], by simpa using hat⟩ ?_
    rintro st2 ⟨x2, g6, g25, g26, g27, gat⟩
    simp at gat
    simp [g6, gat.out, B6, B7]
    exact gat
  obtain ⟨x, H, n, e, ho, hat⟩ := key
  obtain ⟨v, e2, hv⟩ := frz_cap hat
  exact ⟨v, bl_of e e2, hv⟩
/-! ### table.Needs -/
def nd (r : Rt) : List Need := r.pts ++ r.flk
theorem NE_pt {pts : List Pt} {xs : List Need} {path : List Int} {w : Bool} (h : NE pts xs path w) : ∀ i, i < xs.length → (i : Int) ≤ (nth xs i).pt := by
  intro i
  induction i with
  | zero => exact fun hi => (h 0 hi).1.1
  | succ i ih =>
    intro hi
    have h1 := ih (by omega)
    have h2 := (h (i + 1) hi).2.1 (by omega)
    simp at h2
    omega
theorem NE_len {pts : List Pt} {xs : List Need} {path : List Int} {w : Bool} (h : NE pts xs path w) : xs.length ≤ pts.length := by
  by_cases h0 : xs.length = 0
  · omega
  · have h1 := NE_pt h (xs.length - 1) (by omega)
    have h2 := (h (xs.length - 1) (by omega)).1.2
    omega
theorem ISL.lq {l : Lo} (h : ISL l) {r : Nat} (hr : r < l.rts.length) : (nth l.rts r).pts.length ≤ 5 := Nat.le_trans (NE_len (h.rr r hr).np) h.p2
theorem ISL.lf {l : Lo} (h : ISL l) {r : Nat} (hr : r < l.rts.length) : (nth l.rts r).flk.length ≤ 5 := Nat.le_trans (NE_len (h.rr r hr).nf) h.p2
theorem Needs_bl {D : Nat} (hD : 3 ≤ D) {l : Lo} (ok : LoOk l) {r : Nat} (hr : r < l.rts.length) (hq : (nth l.rts r).pts.length ≤ 100) (hf : (nth l.rts r).flk.length ≤ 100) :
    ∃ v, bl (K DG D) 146 [l.dv, .imm (.int .i64 r)] = some (.imm v) ∧ Sl 2 v ((nd (nth l.rts r)).map ivN) := by
  obtain ⟨d, rfl⟩ : ∃ d, D = d + 1 := ⟨D - 1, by omega⟩
  have rk := ok.or _ (nth_mem hr)
  obtain ⟨v, e, hv⟩ := concat_bl (D := d) (by omega) rk.q rk.f (by simpa using hq) (by simpa using hf)
  refine ⟨v, bl_fe ?_, by simpa [nd] using hv⟩
  rw [D.k146]
  refine fn_dw rfl ?_
  have ix := fun {h : Nat → Option HB} {n : Nat} => idx_sl (h := h) (n := n) ok.r (by omega) (k := .i64) (z := (r : Int)) (by omega) (by omega)
  simp [ok.s.scal, ok.p.scal, ok.g.scal, ok.r.scal, rk.q.scal, rk.f.scal, ix, e, ivRt, evParts, evParts2, lay, unImms, unImm, mapO, rowsN, B6, B7]
end Go.Proofs.YtnpcgejfkonfdabGreatDoor.D

-- T6
set_option linter.unusedVariables false
set_option linter.unusedSimpArgs false
set_option maxHeartbeats 16000000
namespace Go.Proofs.YtnpcgejfkonfdabGreatDoor.D
open Go Go.PM Go.Lib
/-! ### Needs among needs -/
def NEq (a : Int) (b : Bool) (a' : Int) (b' : Bool) : Prop := a = a' ∧ b = b'
theorem eq_need {a a' : Int} {b b' : Bool} : eqSt [.i, .b] [.imm (.int .i64 a), .imm (.bool b)] [.imm (.int .i64 a'), .imm (.bool b')] = some (dec (NEq a b a' b')) := by
  simp only [eqSt, eqSc, if_true]
  by_cases h : NEq a b a' b'
  · rw [dec_t h]; obtain ⟨rfl, rfl⟩ := h; simp
  · rw [dec_f h]
    by_cases h1 : a = a'
    · have : ¬ b = b' := fun h2 => h ⟨h1, h2⟩
      simp [h1, this]
    · simp [h1]
theorem NEq_iff {a : Int} {b : Bool} {x : Need} : NEq a b x.pt x.rev ↔ (⟨a, b⟩ : Need) = x := ⟨fun h => by cases x; obtain ⟨rfl, rfl⟩ := h; rfl, fun h => by subst h; exact ⟨rfl, rfl⟩⟩
def IIN (v : IV) (a : Int) (b : Bool) (xs : List Need) (i : Nat) (st : St) : Prop := st.T.get 0 = some (.imm v) ∧ Box st 3 [.int .i64 a, .bool b] ∧ st.T.get 7 = some (.imm (.int .i64 xs.length)) ∧ st.T.get 8 = some (.imm (.int .i64 i)) ∧ ∀ j, j < i → (⟨a, b⟩ : Need) ≠ nth xs j
theorem loopIN {d : Nat} {v : IV} {a : Int} {b : Bool} {xs : List Need} (hv : Sl 2 v (xs.map ivN)) (hl : xs.length ≤ reachBytes) {ks : List Kf} {st : St} {Q : Ex → St → Prop} (h : IIN v a b xs 0 st)
    (hk : ∀ e st', (e = .ret ∧ (∃ r : Nat, st'.T.get 4 = some (.imm (.int .i64 r))) ∧ (⟨a, b⟩ : Need) ∈ xs) ∨ (e = .exit 0 ∧ (⟨a, b⟩ : Need) ∉ xs) → Bk DG (K DG d) 0 e ks st' Q) :
    Wp DG (K DG d) 0 D.l173_0 ks st Q := by
  refine dw_loop (N := xs.length) (small hl) (IIN v a b xs) (fun e st' => (e = .ret ∧ (∃ r : Nat, st'.T.get 4 = some (.imm (.int .i64 r))) ∧ (⟨a, b⟩ : Need) ∈ xs) ∨ (e = .exit 0 ∧ (⟨a, b⟩ : Need) ∉ xs)) (fun i st hle hI => ?_) h (fun e s' h => hk e s' h)
  obtain ⟨h0, ⟨id, h3, hL⟩, h7, h8, hall⟩ := hI
  by_cases hi : i < xs.length
  · have hi' : (i : Int) < xs.length := by omega
    have hj' := ilt_t hi'
    have hw8 : IntKind.i64.wrap ((i : Int) + 1) = (i : Int) + 1 := wr_succ hi hl
    have ix := fun {h : Nat → Option HB} {n : Nat} => idx_sl (h := h) (n := n) hv (by omega) (k := .i64) (z := (i : Int)) (by omega) hi'
    have yes : NEq a b (nth xs i).pt (nth xs i).rev → (⟨a, b⟩ : Need) ∈ xs := fun h => NEq_iff.1 h ▸ nth_mem hi
    have no : ¬ NEq a b (nth xs i).pt (nth xs i).rev → ∀ j, j < i + 1 → (⟨a, b⟩ : Need) ≠ nth xs j := fun h j hj => by
      rcases Nat.lt_or_eq_of_le (Nat.le_of_lt_succ hj) with hj | rfl
      · exact hall j hj
      · exact fun e => h (NEq_iff.2 e)
    generalize hQ : (fun (e : Ex) (s' : St) => _) = Q'
    simp only [D.l173_0b]
    simp (config := {contextual := true, maxSteps := 2000000}) [h0, h3, h7, h8, hL, hj', hw8, ix, ivN, eq_need, B6, B7]
    subst hQ
    simp only [IIN]
    refine ⟨fun a => .inr ⟨by simp, .inl ⟨trivial, ⟨i, by simp [PT.get_put]⟩, yes a⟩⟩, fun a => .inl ⟨trivial, hi, by simp [PT.get_put], ⟨id, by simp [PT.get_put], by simp [PT.get_put, imms]⟩, by simp [PT.get_put], by simp [PT.get_put], no a⟩⟩
  · obtain rfl : i = xs.length := by omega
    generalize hQ : (fun (e : Ex) (s' : St) => _) = Q'
    simp only [D.l173_0b]
    simp [h0, h3, h7, h8, hL, B6, B7]
    subst hQ
    simp
    intro hm
    obtain ⟨j, hj, e⟩ := mem_nth hm
    exact hall j hj e.symm
theorem index_needs {D : Nat} (hD : 1 ≤ D) {v : IV} {xs : List Need} (hv : Sl 2 v (xs.map ivN)) (hl : xs.length ≤ reachBytes) (a : Int) (b : Bool) :
    ∃ r : Int, bl (K DG D) 173 [.imm v, .agg [.imm (.int .i64 a), .imm (.bool b)]] = some (.imm (.int .i64 r)) ∧ (0 ≤ r ↔ (⟨a, b⟩ : Need) ∈ xs) := by
  obtain ⟨d, rfl⟩ : ∃ d, D = d + 1 := ⟨D - 1, by omega⟩
  have vl := hv.len
  simp only [List.length_map] at vl
  have key : Fe (K DG (d + 1) 173 [.imm v, .agg [.imm (.int .i64 a), .imm (.bool b)]] .lf 0 0) (fun x _ _ => ∃ r : Int, x = .imm (.int .i64 r) ∧ (0 ≤ r ↔ (⟨a, b⟩ : Need) ∈ xs)) := by
    rw [D.k173]
    refine fn_dw rfl ?_
    simp [vl, B6, B7]
    refine loopIN hv hl (a := a) (b := b) ⟨by simp [PT.get_put], ⟨0, by simp [PT.get_put], by simp [PT.get_put, imms]⟩, by simp [PT.get_put], by simp [PT.get_put], fun j hj => by omega⟩ ?_
    rintro e st' (⟨rfl, ⟨r, h4⟩, hm⟩ | ⟨rfl, hm⟩)
    · simp [h4, hm, B6, B7]
    · simp [hm, B6, B7]
  obtain ⟨x, H, n, e, r, rfl, hr⟩ := key
  exact ⟨r, bl_imm e, hr⟩
theorem contains_needs {D : Nat} (hD : 2 ≤ D) {v : IV} {xs : List Need} (hv : Sl 2 v (xs.map ivN)) (hl : xs.length ≤ reachBytes) (a : Int) (b : Bool) :
    bl (K DG D) 148 [.imm v, .agg [.imm (.int .i64 a), .imm (.bool b)]] = some (.imm (.bool (dec ((⟨a, b⟩ : Need) ∈ xs)))) := by
  obtain ⟨d, rfl⟩ : ∃ d, D = d + 1 := ⟨D - 1, by omega⟩
  obtain ⟨r, e1, e2⟩ := index_needs (D := d) (by omega) hv hl a b
  refine bl_fe ?_
  rw [D.k148]
  refine fn_dw rfl ?_
  rw [← dec_congr e2]
  simp [e1, B6, B7]
  rw [dec_d, ← dec_d, ← dec_d]
  by_cases h : 0 ≤ r
  · simp [h, ilt_f h]
  · simp [h, ilt_t (show r < 0 by omega)]
/-! ### ContainsFunc -/
/-- What a function that is handed in says of each thing, whatever the number that is next. -/
def Says {α : Type} (d : Nat) (f : FuncId) (caps : List DV) (H : PT HB) (n0 : Nat) (arg : α → DV) (P : α → Prop) (OK : α → Prop) : Prop :=
  ∀ x, OK x → ∀ n, n0 ≤ n → ∃ H1 n1, K DG d f (arg x :: caps) H n n = some (.imm (.bool (dec (P x))), H1, n1) ∧ n ≤ n1
theorem Says.all {α : Type} {d : Nat} {f : FuncId} {caps : List DV} {H : PT HB} {n0 : Nat} {arg : α → DV} {P OK : α → Prop} (h : Says d f caps H n0 arg P (fun _ => True)) : Says d f caps H n0 arg P OK := fun x _ n hn => h x trivial n hn
def IIF {α : Type} [Inhabited α] (v : IV) (f : FuncId) (caps : List DV) (H : PT HB) (n0 : Nat) (P : α → Prop) (xs : List α) (i : Nat) (st : St) : Prop := st.T.get 0 = some (.imm v) ∧ st.T.get 1 = some (.fnc f caps) ∧ st.T.get 7 = some (.imm (.int .i64 xs.length)) ∧ st.T.get 8 = some (.imm (.int .i64 i)) ∧
  st.H = H ∧ n0 ≤ st.n ∧ ∀ j, j < i → ¬ P (nth xs j)
theorem loopIF {d : Nat} {v : IV} {f : FuncId} {caps : List DV} {H : PT HB} {n0 : Nat} {P : Int → Prop} {zs : List Int} (ho : DV.out.outs caps = true) (hs : Says d f caps H n0 (fun z : Int => .imm (.int .i64 z)) P (fun z => z ∈ zs)) (hv : Sl 1 v (zs.map ivI)) (hl : zs.length ≤ reachBytes) {lo : Nat} {ks : List Kf} {st : St} {Q : Ex → St → Prop} (h : IIF v f caps H n0 P zs 0 st)
    (hk : ∀ e st', n0 ≤ st'.n → (e = .ret ∧ (∃ r : Nat, st'.T.get 4 = some (.imm (.int .i64 r))) ∧ (∃ z ∈ zs, P z)) ∨ (e = .exit 0 ∧ ¬ ∃ z ∈ zs, P z) → Bk DG (K DG d) lo e ks st' Q) :
    Wp DG (K DG d) lo D.l169_0 ks st Q := by
  refine dw_loop (N := zs.length) (small hl) (IIF v f caps H n0 P zs) (fun e st' => n0 ≤ st'.n ∧ ((e = .ret ∧ (∃ r : Nat, st'.T.get 4 = some (.imm (.int .i64 r))) ∧ (∃ z ∈ zs, P z)) ∨ (e = .exit 0 ∧ ¬ ∃ z ∈ zs, P z))) (fun i st hle hI => ?_) h (fun e s' h => hk e s' h.1 h.2)
  obtain ⟨h0, h1, h7, h8, hH, hn, hall⟩ := hI
  by_cases hi : i < zs.length
  · have hi' : (i : Int) < zs.length := by omega
    have hj' := ilt_t hi'
    have hw8 : IntKind.i64.wrap ((i : Int) + 1) = (i : Int) + 1 := wr_succ hi hl
    have ix := fun {h : Nat → Option HB} {n : Nat} => idx_sl (h := h) (n := n) hv (by omega) (k := .i64) (z := (i : Int)) (by omega) hi'
    obtain ⟨H1, n1, e1, e2⟩ := hs (nth zs i) (nth_mem hi) st.n hn
    have no : ¬ P (nth zs i) → ∀ j, j < i + 1 → ¬ P (nth zs j) := fun h j hj => by
      rcases Nat.lt_or_eq_of_le (Nat.le_of_lt_succ hj) with hj | rfl
      · exact hall j hj
      · exact h
    generalize hQ : (fun (e : Ex) (s' : St) => _) = Q'
    simp only [D.l169_0b]
    simp (config := {contextual := true, maxSteps := 2000000}) [h0, h1, h7, h8, hH, hj', hw8, ix, ivI, ho, e1, B6, B7]
    subst hQ
    simp only [IIF]
    refine ⟨fun a => .inr ⟨by simp, by omega, .inl ⟨trivial, ⟨i, by simp [PT.get_put]⟩, _, nth_mem hi, a⟩⟩, fun a => .inl ⟨trivial, hi, by simp [PT.get_put], by simp [PT.get_put], by simp [PT.get_put], by simp [PT.get_put], trivial, by omega, no a⟩⟩
  · obtain rfl : i = zs.length := by omega
    generalize hQ : (fun (e : Ex) (s' : St) => _) = Q'
    simp only [D.l169_0b]
    simp [h0, h1, h7, h8, B6, B7]
    subst hQ
    simp
    refine ⟨hn, fun z hm hp => ?_⟩
    obtain ⟨j, hj, e⟩ := mem_nth hm
    exact hall j hj (e ▸ hp)
theorem indexF_ints {d : Nat} {v : IV} {f : FuncId} {caps : List DV} {H : PT HB} {n : Nat} {P : Int → Prop} {zs : List Int} (ho : DV.out.outs caps = true) (hs : Says d f caps H n (fun z : Int => .imm (.int .i64 z)) P (fun z => z ∈ zs)) (hv : Sl 1 v (zs.map ivI)) (hl : zs.length ≤ reachBytes) (lo : Nat) :
    Fe (K DG (d + 1) 169 [.imm v, .fnc f caps] H n lo) (fun x _ n' => n ≤ n' ∧ ∃ r : Int, x = .imm (.int .i64 r) ∧ (0 ≤ r ↔ ∃ z ∈ zs, P z)) := by
  have vl := hv.len
  simp only [List.length_map] at vl
  rw [D.k169]
  refine fn_dw rfl ?_
  simp [vl, B6, B7]
  refine loopIF (P := P) ho hs hv hl ⟨by simp [PT.get_put], by simp [PT.get_put], by simp [PT.get_put], by simp [PT.get_put], rfl, Nat.le_refl _, fun j hj => by omega⟩ ?_
  rintro e st' hn (⟨rfl, ⟨r, h4⟩, hm⟩ | ⟨rfl, hm⟩)
  · simp [h4, hn, B6, B7]
    exact hm
  · simp [hn, B6, B7]
    simpa using hm
theorem containsF_ints {d : Nat} {v : IV} {f : FuncId} {caps : List DV} {H : PT HB} {n : Nat} {P : Int → Prop} {zs : List Int} (ho : DV.out.outs caps = true) (hs : Says d f caps H n (fun z : Int => .imm (.int .i64 z)) P (fun z => z ∈ zs)) (hv : Sl 1 v (zs.map ivI)) (hl : zs.length ≤ reachBytes) (lo : Nat) :
    Fe (K DG (d + 2) 142 [.imm v, .fnc f caps] H n lo) (fun x _ n' => n ≤ n' ∧ x = .imm (.bool (dec (∃ z ∈ zs, P z)))) := by
  obtain ⟨x, H1, n1, e, hn, r, rfl, hr⟩ := indexF_ints ho hs hv hl n
  rw [D.k142]
  refine fn_dw rfl ?_
  rw [← dec_congr hr]
  simp [ho, e, B6, B7]
  refine ⟨hn, ?_⟩
  by_cases h : 0 ≤ r
  · simp [h, ilt_f h, dec_true]
  · simp [h, ilt_t (show r < 0 by omega), dec_false]
theorem loopIFn {d : Nat} {v : IV} {f : FuncId} {caps : List DV} {H : PT HB} {n0 : Nat} {P : Need → Prop} {xs : List Need} (ho : DV.out.outs caps = true) (hs : Says d f caps H n0 (fun x : Need => .agg [.imm (.int .i64 x.pt), .imm (.bool x.rev)]) P (fun x => x ∈ xs)) (hv : Sl 2 v (xs.map ivN)) (hl : xs.length ≤ reachBytes) {lo : Nat} {ks : List Kf} {st : St} {Q : Ex → St → Prop} (h : IIF v f caps H n0 P xs 0 st)
    (hk : ∀ e st', n0 ≤ st'.n → (e = .ret ∧ (∃ r : Nat, st'.T.get 4 = some (.imm (.int .i64 r))) ∧ (∃ x ∈ xs, P x)) ∨ (e = .exit 0 ∧ ¬ ∃ x ∈ xs, P x) → Bk DG (K DG d) lo e ks st' Q) :
    Wp DG (K DG d) lo D.l171_0 ks st Q := by
  refine dw_loop (N := xs.length) (small hl) (IIF v f caps H n0 P xs) (fun e st' => n0 ≤ st'.n ∧ ((e = .ret ∧ (∃ r : Nat, st'.T.get 4 = some (.imm (.int .i64 r))) ∧ (∃ x ∈ xs, P x)) ∨ (e = .exit 0 ∧ ¬ ∃ x ∈ xs, P x))) (fun i st hle hI => ?_) h (fun e s' h => hk e s' h.1 h.2)
  obtain ⟨h0, h1, h7, h8, hH, hn, hall⟩ := hI
  by_cases hi : i < xs.length
  · have hi' : (i : Int) < xs.length := by omega
    have hj' := ilt_t hi'
    have hw8 : IntKind.i64.wrap ((i : Int) + 1) = (i : Int) + 1 := wr_succ hi hl
    have ix := fun {h : Nat → Option HB} {n : Nat} => idx_sl (h := h) (n := n) hv (by omega) (k := .i64) (z := (i : Int)) (by omega) hi'
    obtain ⟨H1, n1, e1, e2⟩ := hs (nth xs i) (nth_mem hi) st.n hn
    have no : ¬ P (nth xs i) → ∀ j, j < i + 1 → ¬ P (nth xs j) := fun h j hj => by
      rcases Nat.lt_or_eq_of_le (Nat.le_of_lt_succ hj) with hj | rfl
      · exact hall j hj
      · exact h
    generalize hQ : (fun (e : Ex) (s' : St) => _) = Q'
    simp only [D.l171_0b]
    simp (config := {contextual := true, maxSteps := 2000000}) [h0, h1, h7, h8, hH, hj', hw8, ix, ivN, ho, e1, B6, B7]
    subst hQ
    simp only [IIF]
    refine ⟨fun a => .inr ⟨by simp, by omega, .inl ⟨trivial, ⟨i, by simp [PT.get_put]⟩, _, nth_mem hi, a⟩⟩, fun a => .inl ⟨trivial, hi, by simp [PT.get_put], by simp [PT.get_put], by simp [PT.get_put], by simp [PT.get_put], trivial, by omega, no a⟩⟩
  · obtain rfl : i = xs.length := by omega
    generalize hQ : (fun (e : Ex) (s' : St) => _) = Q'
    simp only [D.l171_0b]
    simp [h0, h1, h7, h8, B6, B7]
    subst hQ
    simp
    refine ⟨hn, fun z hm hp => ?_⟩
    obtain ⟨j, hj, e⟩ := mem_nth hm
    exact hall j hj (e ▸ hp)
theorem containsF_needs {d : Nat} {v : IV} {f : FuncId} {caps : List DV} {H : PT HB} {n : Nat} {P : Need → Prop} {xs : List Need} (ho : DV.out.outs caps = true) (hs : Says d f caps H n (fun x : Need => .agg [.imm (.int .i64 x.pt), .imm (.bool x.rev)]) P (fun x => x ∈ xs)) (hv : Sl 2 v (xs.map ivN)) (hl : xs.length ≤ reachBytes) (lo : Nat) :
    Fe (K DG (d + 2) 145 [.imm v, .fnc f caps] H n lo) (fun x _ n' => n ≤ n' ∧ x = .imm (.bool (dec (∃ x ∈ xs, P x)))) := by
  have key : Fe (K DG (d + 1) 171 [.imm v, .fnc f caps] H n n) (fun x _ n' => n ≤ n' ∧ ∃ r : Int, x = .imm (.int .i64 r) ∧ (0 ≤ r ↔ ∃ x ∈ xs, P x)) := by
    have vl := hv.len
    simp only [List.length_map] at vl
    rw [D.k171]
    refine fn_dw rfl ?_
    simp [vl, B6, B7]
    refine loopIFn (P := P) ho hs hv hl ⟨by simp [PT.get_put], by simp [PT.get_put], by simp [PT.get_put], by simp [PT.get_put], rfl, Nat.le_refl _, fun j hj => by omega⟩ ?_
    rintro e st' hn (⟨rfl, ⟨r, h4⟩, hm⟩ | ⟨rfl, hm⟩)
    · simp [h4, hn, B6, B7]
      exact hm
    · simp [hn, B6, B7]
      simpa using hm
  obtain ⟨x, H1, n1, e, hn, r, rfl, hr⟩ := key
  rw [D.k145]
  refine fn_dw rfl ?_
  rw [← dec_congr hr]
  simp [ho, e, B6, B7]
  refine ⟨hn, ?_⟩
  by_cases h : 0 ≤ r
  · simp [h, ilt_f h, dec_true]
  · simp [h, ilt_t (show r < 0 by omega), dec_false]
/-! ### table.Conflict -/
def CF (l : Lo) (r s : Nat) : Prop := r = s ∨ (nth l.rts r).fr = (nth l.rts s).fr ∨ (∃ z ∈ (nth l.rts r).path, z ∈ (nth l.rts s).path) ∨ ∃ x ∈ nd (nth l.rts r), (⟨x.pt, !x.rev⟩ : Need) ∈ nd (nth l.rts s)
/-- Routes with few needs. -/
def Few (l : Lo) : Prop := ∀ r, r < l.rts.length → (nth l.rts r).pts.length ≤ 100 ∧ (nth l.rts r).flk.length ≤ 100
theorem ISL.few {l : Lo} (h : ISL l) : Few l := fun r hr => ⟨by have := h.lq hr; omega, by have := h.lf hr; omega⟩
theorem says1 {d : Nat} (hd : 3 ≤ d) {r : Rt} (rk : RtOk r) {H : PT HB} {b n0 : Nat} (hb : H.get b = some ⟨6, [imms (ivRt r)]⟩) :
    Says d 143 [.ptr b 0 0] H n0 (fun z : Int => .imm (.int .i64 z)) (fun z => z ∈ r.path) (fun _ => True) := fun z _ n hn => by
  obtain ⟨d, rfl⟩ : ∃ d', d = d' + 1 := ⟨d - 1, by omega⟩
  have hc := contains_ints DG (D := d) (by omega) rk.p rk.lp z
  rw [dec_d] at hc
  have key : Fe (K DG (d + 1) 143 [.imm (.int .i64 z), .ptr b 0 0] H n n) (fun x _ n' => n ≤ n' ∧ x = .imm (.bool (dec (z ∈ r.path)))) := by
    rw [D.k143]
    refine fn_dw rfl ?_
    simp [hb, hc, ivRt, B6, B7]
  obtain ⟨x, H1, n1, e, h1, rfl⟩ := key
  exact ⟨H1, n1, e, h1⟩
theorem says2 {d : Nat} (hd : 5 ≤ d) {l : Lo} (ok : LoOk l) (fw : Few l) {s : Nat} (hs : s < l.rts.length) {H : PT HB} {a b n0 : Nat} (ha : H.get a = some ⟨4, [imms l.ivs]⟩) (hb : H.get b = some ⟨1, [[.imm (.int .i64 s)]]⟩) :
    Says d 147 [.ptr a 0 0, .ptr b 0 0] H n0 (fun x : Need => .agg [.imm (.int .i64 x.pt), .imm (.bool x.rev)]) (fun x => (⟨x.pt, !x.rev⟩ : Need) ∈ nd (nth l.rts s)) (fun _ => True) := fun x _ n hn => by
  obtain ⟨d, rfl⟩ : ∃ d', d = d' + 1 := ⟨d - 1, by omega⟩
  have hrb := rb3
  obtain ⟨v, e, hv⟩ := Needs_bl (D := d) (by omega) ok hs (fw s hs).1 (fw s hs).2
  have hl : (nd (nth l.rts s)).length ≤ reachBytes := by have := fw s hs; simp [nd]; omega
  have hc := contains_needs (D := d) (by omega) hv hl x.pt (!x.rev)
  have key : Fe (K DG (d + 1) 147 [.agg [.imm (.int .i64 x.pt), .imm (.bool x.rev)], .ptr a 0 0, .ptr b 0 0] H n n) (fun y _ n' => n ≤ n' ∧ y = .imm (.bool (dec ((⟨x.pt, !x.rev⟩ : Need) ∈ nd (nth l.rts s))))) := by
    rw [D.k147]
    refine fn_dw rfl ?_
    simp [ha, hb, hc, e, evParts, lay, B6, B7]
  obtain ⟨y, H1, n1, e, h1, rfl⟩ := key
  exact ⟨H1, n1, e, h1⟩
theorem Conflict_bl {D : Nat} (hD : 9 ≤ D) {l : Lo} (ok : LoOk l) (fw : Few l) {r s : Nat} (hr : r < l.rts.length) (hs : s < l.rts.length) :
    bl (K DG D) 97 [l.dv, .imm (.int .i64 r), .imm (.int .i64 s)] = some (.imm (.bool (dec (CF l r s)))) := by
  obtain ⟨d, rfl⟩ : ∃ d, D = d + 3 := ⟨D - 3, by omega⟩
  have hrb := rb3
  have rk := ok.or _ (nth_mem hr)
  have sk := ok.or _ (nth_mem hs)
  have hr' : (r : Int) < l.rts.length := by omega
  have hs' : (s : Int) < l.rts.length := by omega
  have ix := fun {h : Nat → Option HB} {n : Nat} => idx_sl (h := h) (n := n) ok.r (by omega) (k := .i64) (z := (r : Int)) (by omega) hr'
  have iy := fun {h : Nat → Option HB} {n : Nat} => idx_sl (h := h) (n := n) ok.r (by omega) (k := .i64) (z := (s : Int)) (by omega) hs'
  obtain ⟨vr, er, hvr⟩ := Needs_bl (D := d + 2) (by omega) ok hr (fw r hr).1 (fw r hr).2
  have hlr : (nd (nth l.rts r)).length ≤ reachBytes := by have := fw r hr; simp [nd]; omega
  refine bl_fe ?_
  rw [D.k97]
  refine fn_dw rfl ?_
  simp [ok.s.scal, ok.p.scal, ok.g.scal, ok.r.scal, rk.p.scal, rk.q.scal, rk.f.scal, sk.p.scal, sk.q.scal, sk.f.scal, ix, iy, er, ivRt, B6, B7]
  generalize hHc : (PT.put (PT.put (PT.put (PT.put PT.lf 0 _) 1 _) 3 _) 3 _ : PT HB) = Hc
  have g0 : Hc.get 0 = some ⟨4, [imms l.ivs]⟩ := by rw [← hHc]; simp [PT.get_put, imms]
  have g1 : Hc.get 1 = some ⟨1, [[.imm (.int .i64 s)]]⟩ := by rw [← hHc]; simp [PT.get_put]
  have g3 : Hc.get 3 = some ⟨6, [imms (ivRt (nth l.rts s))]⟩ := by rw [← hHc]; simp [PT.get_put, imms, ivRt]
  obtain ⟨x1, H1, n1, e1, hn1, rfl⟩ := containsF_ints (d := d) (n := 4) rfl (Says.all (says1 (by omega) sk g3)) rk.p rk.lp 4
  obtain ⟨x2, H2, n2, e2, hn2, rfl⟩ := containsF_needs (d := d) (n := n1) rfl (Says.all (says2 (by omega) ok fw hs g0 g1)) hvr hlr n1
  have hct : CF l r s ↔ (r = s ∨ (nth l.rts r).fr = (nth l.rts s).fr ∨ (∃ z ∈ (nth l.rts r).path, z ∈ (nth l.rts s).path) ∨ ∃ x ∈ nd (nth l.rts r), (⟨x.pt, !x.rev⟩ : Need) ∈ nd (nth l.rts s)) := Iff.rfl
  rw [dec_congr hct]
  generalize (∃ z ∈ (nth l.rts r).path, z ∈ (nth l.rts s).path) = P1 at e1 ⊢
  generalize (∃ x ∈ nd (nth l.rts r), (⟨x.pt, !x.rev⟩ : Need) ∈ nd (nth l.rts s)) = P2 at e2 ⊢
  have i0 : ((r : Int) = (s : Int)) = (r = s) := propext ⟨fun h => by omega, fun h => by omega⟩
  generalize hQ : Fin _ _ = Q
  simp (config := {contextual := true, maxSteps := 2000000}) [e1, e2, er, g0, g1, g3, i0, ivRt, B6, B7]
  subst hQ
  simp (config := {contextual := true}) [B6, B7]
end Go.Proofs.YtnpcgejfkonfdabGreatDoor.D

-- K4
-- K1
set_option linter.unusedVariables false
set_option linter.unusedSimpArgs false
set_option maxHeartbeats 16000000
namespace Go.Proofs.YtnpcgejfkonfdabGreatDoor.D
open Go Go.PM Go.Lib
/-! ### slices.Clone -/
/-- What a copy is: nothing, an empty row, a row of the heap. -/
def Cl (sz : Nat) (x : DV) (H : PT HB) (n : Nat) (es : List (List IV)) : Prop := (x = .imm .nils ∧ es = []) ∨ (x = .imm (.lst true sz []) ∧ es = []) ∨ AtS sz x H n es
theorem Cl.frz {sz : Nat} {x : DV} {H : PT HB} {n : Nat} {es : List (List IV)} (h : Cl sz x H n es) : ∃ v, PM.frz H.get 0 x = some (.imm v) ∧ Sl sz v es := by
  rcases h with ⟨rfl, rfl⟩ | ⟨rfl, rfl⟩ | h
  · exact ⟨_, rfl, .inl ⟨rfl, rfl⟩⟩
  · exact ⟨_, rfl, .inr ⟨_, rfl⟩⟩
  · exact frz_row h
theorem clone_s {D : Nat} (hD : 1 ≤ D) {v : IV} {es : List (List IV)} (hv : Sl 1 v es) (hl : es.length ≤ 2 ^ 25) : ∃ v', bl (K DG D) 121 [.imm v] = some (.imm v') ∧ Sl 1 v' es := by
  obtain ⟨d, rfl⟩ : ∃ d, D = d + 1 := ⟨D - 1, by omega⟩
  have hv0 := hv
  have key : Fe (K DG (d + 1) 121 [.imm v] .lf 0 0) (fun x H n => Cl 1 x H n es) := by
    rw [D.k121]
    refine fn_dw rfl ?_
    rcases hv with ⟨rfl, rfl⟩ | ⟨f, rfl⟩
    · simp [B6, B7]
      exact .inl ⟨rfl, rfl⟩
    · by_cases he : es = []
      · have p1 := fun {h : Nat → Option HB} {n : Nat} {x : DV} hx => app_none (bytes := 16) (h := h) (n := n) (x := x) hx (he ▸ hv0)
        subst he
        simp [p1, evParts2, lay, unImms, unImm, mapO, rowsN, B6, B7]
        exact .inr (.inl ⟨rfl, rfl⟩)
      · have p1 := fun {h : Nat → Option HB} {n : Nat} => app_new (bytes := 16) (h := h) (n := n) hv0 he (by omega) hl (by omega)
        simp [p1, evParts2, lay, unImms, unImm, mapO, rowsN, B6, B7]
        exact .inr (.inr (.inr ⟨_, by omega, rfl, by simp [PT.get_put]⟩))
  obtain ⟨x, H, n, e, hc⟩ := key
  obtain ⟨v', e2, h2⟩ := hc.frz
  exact ⟨v', bl_of e e2, h2⟩
theorem clone_p {D : Nat} (hD : 1 ≤ D) {v : IV} {es : List (List IV)} (hv : Sl 2 v es) (hl : es.length ≤ 2 ^ 25) : ∃ v', bl (K DG D) 122 [.imm v] = some (.imm v') ∧ Sl 2 v' es := by
  obtain ⟨d, rfl⟩ : ∃ d, D = d + 1 := ⟨D - 1, by omega⟩
  have hv0 := hv
  have key : Fe (K DG (d + 1) 122 [.imm v] .lf 0 0) (fun x H n => Cl 2 x H n es) := by
    rw [D.k122]
    refine fn_dw rfl ?_
    rcases hv with ⟨rfl, rfl⟩ | ⟨f, rfl⟩
    · simp [B6, B7]
      exact .inl ⟨rfl, rfl⟩
    · by_cases he : es = []
      · have p1 := fun {h : Nat → Option HB} {n : Nat} {x : DV} hx => app_none (bytes := 24) (h := h) (n := n) (x := x) hx (he ▸ hv0)
        subst he
        simp [p1, evParts2, lay, unImms, unImm, mapO, rowsN, B6, B7]
        exact .inr (.inl ⟨rfl, rfl⟩)
      · have p1 := fun {h : Nat → Option HB} {n : Nat} => app_new (bytes := 24) (h := h) (n := n) hv0 he (by omega) hl (by omega)
        simp [p1, evParts2, lay, unImms, unImm, mapO, rowsN, B6, B7]
        exact .inr (.inr (.inr ⟨_, by omega, rfl, by simp [PT.get_put]⟩))
  obtain ⟨x, H, n, e, hc⟩ := key
  obtain ⟨v', e2, h2⟩ := hc.frz
  exact ⟨v', bl_of e e2, h2⟩
theorem clone_i {D : Nat} (hD : 1 ≤ D) {v : IV} {es : List (List IV)} (hv : Sl 1 v es) (hl : es.length ≤ 2 ^ 25) : ∃ v', bl (K DG D) 124 [.imm v] = some (.imm v') ∧ Sl 1 v' es := by
  obtain ⟨d, rfl⟩ : ∃ d, D = d + 1 := ⟨D - 1, by omega⟩
  have hv0 := hv
  have key : Fe (K DG (d + 1) 124 [.imm v] .lf 0 0) (fun x H n => Cl 1 x H n es) := by
    rw [D.k124]
    refine fn_dw rfl ?_
    rcases hv with ⟨rfl, rfl⟩ | ⟨f, rfl⟩
    · simp [B6, B7]
      exact .inl ⟨rfl, rfl⟩
    · by_cases he : es = []
      · have p1 := fun {h : Nat → Option HB} {n : Nat} {x : DV} hx => app_none (bytes := 8) (h := h) (n := n) (x := x) hx (he ▸ hv0)
        subst he
        simp [p1, evParts2, lay, unImms, unImm, mapO, rowsN, B6, B7]
        exact .inr (.inl ⟨rfl, rfl⟩)
      · have p1 := fun {h : Nat → Option HB} {n : Nat} => app_new (bytes := 8) (h := h) (n := n) hv0 he (by omega) hl (by omega)
        simp [p1, evParts2, lay, unImms, unImm, mapO, rowsN, B6, B7]
        exact .inr (.inr (.inr ⟨_, by omega, rfl, by simp [PT.get_put]⟩))
  obtain ⟨x, H, n, e, hc⟩ := key
  obtain ⟨v', e2, h2⟩ := hc.frz
  exact ⟨v', bl_of e e2, h2⟩
theorem clone_n {D : Nat} (hD : 1 ≤ D) {v : IV} {es : List (List IV)} (hv : Sl 2 v es) (hl : es.length ≤ 2 ^ 25) : ∃ v', bl (K DG D) 125 [.imm v] = some (.imm v') ∧ Sl 2 v' es := by
  obtain ⟨d, rfl⟩ : ∃ d, D = d + 1 := ⟨D - 1, by omega⟩
  have hv0 := hv
  have key : Fe (K DG (d + 1) 125 [.imm v] .lf 0 0) (fun x H n => Cl 2 x H n es) := by
    rw [D.k125]
    refine fn_dw rfl ?_
    rcases hv with ⟨rfl, rfl⟩ | ⟨f, rfl⟩
    · simp [B6, B7]
      exact .inl ⟨rfl, rfl⟩
    · by_cases he : es = []
      · have p1 := fun {h : Nat → Option HB} {n : Nat} {x : DV} hx => app_none (bytes := 16) (h := h) (n := n) (x := x) hx (he ▸ hv0)
        subst he
        simp [p1, evParts2, lay, unImms, unImm, mapO, rowsN, B6, B7]
        exact .inr (.inl ⟨rfl, rfl⟩)
      · have p1 := fun {h : Nat → Option HB} {n : Nat} => app_new (bytes := 16) (h := h) (n := n) hv0 he (by omega) hl (by omega)
        simp [p1, evParts2, lay, unImms, unImm, mapO, rowsN, B6, B7]
        exact .inr (.inr (.inr ⟨_, by omega, rfl, by simp [PT.get_put]⟩))
  obtain ⟨x, H, n, e, hc⟩ := key
  obtain ⟨v', e2, h2⟩ := hc.frz
  exact ⟨v', bl_of e e2, h2⟩
theorem clone_r {d : Nat} {v : IV} {es : List (List IV)} (hv : Sl 6 v es) (hl : es.length ≤ 2 ^ 25) (H : PT HB) (n : Nat) :
    Fe (K DG (d + 1) 123 [.imm v] H n 0) (fun x H' n' => n ≤ n' ∧ ((es = [] ∧ H' = H ∧ ∃ u, x = .imm u ∧ Sl 6 u []) ∨ (es ≠ [] ∧ x = .sl n 0 es.length es.length ∧ H' = H.put n (some ⟨6, es.map imms⟩) ∧ n' = n + 1))) := by
  have hv0 := hv
  rw [D.k123]
  refine fn_dw rfl ?_
  rcases hv with ⟨rfl, rfl⟩ | ⟨f, rfl⟩
  · simp [B6, B7]
    exact .inl ⟨rfl, rfl⟩
  · by_cases he : es = []
    · have p1 := fun {h : Nat → Option HB} {n : Nat} {x : DV} hx => app_none (bytes := 104) (h := h) (n := n) (x := x) hx (he ▸ hv0)
      subst he
      simp [p1, evParts2, lay, unImms, unImm, mapO, rowsN, B6, B7]
      exact .inr ⟨_, rfl⟩
    · have p1 := fun {h : Nat → Option HB} {n : Nat} => app_new (bytes := 104) (h := h) (n := n) hv0 he (by omega) hl (by omega)
      simp [p1, he, evParts2, lay, unImms, unImm, mapO, rowsN, B6, B7]
end Go.Proofs.YtnpcgejfkonfdabGreatDoor.D

-- K2
set_option linter.unusedVariables false
set_option linter.unusedSimpArgs false
set_option maxHeartbeats 16000000
namespace Go.Proofs.YtnpcgejfkonfdabGreatDoor.D
open Go Go.PM Go.Lib
/-! ### Layouts that say the same -/
structure RtEq (r r' : Rt) : Prop where
  name : r'.name = r.name
  fr : r'.fr = r.fr
  to : r'.to = r.to
  path : r'.path = r.path
  pts : r'.pts = r.pts
  flk : r'.flk = r.flk
structure LoEq (l l' : Lo) : Prop where
  secs : l'.secs = l.secs
  pts : l'.pts = l.pts
  sigs : l'.sigs = l.sigs
  len : l'.rts.length = l.rts.length
  rts : ∀ i, i < l.rts.length → RtEq (nth l.rts i) (nth l'.rts i)
theorem RtEq.rt {l l' : Lo} (e : LoEq l l') {r r' : Rt} (h : RtEq r r') (hr : RT l r) : RT l' r' := by
  obtain ⟨h1, h2, h3, h4, h5, h6⟩ := h
  obtain ⟨e1, e2, e3, e4, _⟩ := e
  refine ⟨?_, ?_, ?_, ?_, ?_, ?_, ?_, ?_, ?_⟩
  · rw [h2, e3]; exact hr.fr
  · rw [h3, e3]; exact hr.to
  · rw [h2, h3]; exact hr.ne
  · rw [e1, h4]; exact hr.pa
  · rw [h4]; exact hr.p1
  · rw [h4]; exact hr.p5
  · rw [e2, h4, h5]; exact hr.np
  · rw [e2, h4, h6]; exact hr.nf
  · rw [e2, h4, h5]; exact hr.ct
theorem map_nth {α β : Type} [Inhabited α] {f : α → β} {xs ys : List α} (hl : ys.length = xs.length) (h : ∀ i, i < xs.length → f (nth ys i) = f (nth xs i)) : ys.map f = xs.map f := by
  apply List.ext_getElem?
  intro i
  rw [List.getElem?_map, List.getElem?_map]
  by_cases hi : i < xs.length
  · rw [nth_get hi, nth_get (hl ▸ hi)]
    simp [h i hi]
  · rw [List.getElem?_eq_none (by omega), List.getElem?_eq_none (by omega)]
theorem LoEq.is {l l' : Lo} (e : LoEq l l') (h : ISL l) : ISL l' := by
  have e0 := e
  obtain ⟨e1, e2, e3, e4, e5⟩ := e
  refine ⟨by rw [e1]; exact h.s1, by rw [e1]; exact h.s2, by rw [e3]; exact h.g1, by rw [e3]; exact h.g2, by rw [e2]; exact h.p2, by rw [e4]; exact h.r2, ?_, by rw [e1]; exact h.ns, by rw [e3]; exact h.ng, ?_, ?_, ?_⟩
  · rw [e2, e1]; exact h.ps
  · have : pn l' = pn l := by simp [pn, e2]
    rw [this]; exact h.np
  · have : rn l' = rn l := map_nth e4 fun i hi => (e5 i hi).name
    rw [this]; exact h.nr
  · rw [e4]
    exact fun i hi => (e5 i hi).rt e0 (h.rr i hi)
theorem LoEq.cf {l l' : Lo} (e : LoEq l l') {r s : Nat} (hr : r < l.rts.length) (hs : s < l.rts.length) : CF l' r s = CF l r s := by
  have a := e.rts r hr
  have b := e.rts s hs
  simp only [CF, nd, a.fr, b.fr, a.path, b.path, a.pts, b.pts, a.flk, b.flk]
/-! ### lock.copied -/
def BoxD (st : St) (k : Nat) (vs : List DV) : Prop := ∃ id, st.T.get k = some (.lref k id 0) ∧ st.L.get k = some (.box id vs)
structure ICo (sv pv gv : IV) (l : Lo) (id k : Nat) (i : Nat) (news : List Rt) (st : St) : Prop where
  b1 : BoxD st 1 [.imm sv, .imm pv, .imm gv, .sl id 0 k k]
  b2 : BoxD st 2 [.imm .nils, .imm .nils, .imm .nils, .imm .nils]
  h22 : st.T.get 22 = some (.sl id 0 k k)
  h23 : st.T.get 23 = some (.imm (.int .i64 k))
  h24 : st.T.get 24 = some (.imm (.int .i64 i))
  hh : st.H.get id = some ⟨6, ((news ++ l.rts.drop i).map ivRt).map imms⟩
  nl : news.length = i
  ok : ∀ j, j < i → RtEq (nth l.rts j) (nth news j) ∧ RtOk (nth news j)
theorem drop_nth {α : Type} [Inhabited α] {xs : List α} {i : Nat} (h : i < xs.length) : xs.drop i = nth xs i :: xs.drop (i + 1) := by
  rw [List.drop_eq_getElem_cons h]
  congr 1
  have := nth_get h
  rw [List.getElem?_eq_getElem h] at this
  exact Option.some.inj this
theorem nth_app {α : Type} [Inhabited α] {xs ys : List α} {i : Nat} (h : i < xs.length) : nth (xs ++ ys) i = nth xs i := by
  have h1 : i < (xs ++ ys).length := by simp; omega
  have a := nth_get h1
  rw [List.getElem?_append_left h, nth_get h] at a
  exact (Option.some.inj a).symm
theorem nth_end {α : Type} [Inhabited α] {xs : List α} {y : α} : nth (xs ++ [y]) xs.length = y := by simp [nth]
theorem loopCo {d : Nat} (hd : 1 ≤ d) {sv pv gv : IV} {l : Lo} (ok : LoOk l) (fw : Few l) (hp : ∀ r, r < l.rts.length → (nth l.rts r).path.length ≤ 100) {id k : Nat} (hk : k = l.rts.length) (k6 : k ≤ 1000) {ks : List Kf} {st : St} {Q : Ex → St → Prop} (h : ICo sv pv gv l id k 0 [] st)
    (hq : ∀ st' news, ICo sv pv gv l id k k news st' → Bk DG (K DG d) 0 (.exit 0) ks st' Q) : Wp DG (K DG d) 0 D.l78_0 ks st Q := by
  have hrb := rb3
  refine dw_loop (N := k) (small (by omega)) (fun i st => ∃ news, ICo sv pv gv l id k i news st) (fun e st' => e = .exit 0 ∧ ∃ news, ICo sv pv gv l id k k news st') (fun i st hle hI => ?_) ⟨[], h⟩ (fun e s' h => by obtain ⟨rfl, news, h⟩ := h; exact hq s' news h)
  obtain ⟨news, ⟨i1, h1, L1⟩, ⟨i2, h2, L2⟩, h22, h23, h24, hh, nl, hok⟩ := hI
  by_cases hi : i < k
  · have hi1 : (i : Int) < k := by omega
    have hi' := ilt_t hi1
    have hw8 : IntKind.i64.wrap ((i : Int) + 1) = (i : Int) + 1 := wr_succ hi (by omega)
    have hil : i < l.rts.length := by omega
    have rk := ok.or _ (nth_mem hil)
    obtain ⟨p', ep, sp⟩ := clone_i (D := d) hd rk.p (by have := hp i hil; simp; omega)
    obtain ⟨q', eq', sq⟩ := clone_n (D := d) hd rk.q (by have := fw i hil; simp; omega)
    obtain ⟨f', ef, sf⟩ := clone_n (D := d) hd rk.f (by have := fw i hil; simp; omega)
    have e0 : ((news ++ l.rts.drop i).map ivRt).map imms = (news.map ivRt).map imms ++ imms (ivRt (nth l.rts i)) :: ((l.rts.drop (i + 1)).map ivRt).map imms := by rw [drop_nth hil]; simp
    have hln : ((news.map ivRt).map imms).length = i := by simp [nl]
    generalize hr : ((news ++ l.rts.drop i).map ivRt).map imms = rows at hh e0
    have hrow : rows[i]? = some (imms (ivRt (nth l.rts i))) := by rw [e0, ← hln]; simp
    have iy := fun {n : Nat} => idx_hp (h := st.H.get) (n := n) (id := id) (row := 0) (len := k) (cap := k) hh rfl (k := .i64) (z := (i : Int)) (by omega) hi1
    have hlt : i < rows.length := by rw [e0]; simp [nl]
    have hset : rows.set i (imms (ivRt { nth l.rts i with pv := p', qv := q', fv := f' })) = ((news ++ [{ nth l.rts i with pv := p', qv := q', fv := f' }] ++ l.rts.drop (i + 1)).map ivRt).map imms := by
      rw [e0, ← hln]; simp
    simp only [ivRt, imms, List.map_cons, List.map_nil, Int.toNat_natCast, Nat.zero_add] at hrow hset iy
    generalize hQ : (fun (e : Ex) (s' : St) => _) = Q'
    simp only [D.l78_0b]
    simp [h1, h2, L1, L2, h22, h23, h24, hi', hw8, iy, hh, hrow, ep, eq', ef, rk.p.scal, rk.q.scal, rk.f.scal, sp.scal, sq.scal, sf.scal, B6, B7]
    subst hQ
    refine .inl ⟨rfl, hi, news ++ [{ nth l.rts i with pv := p', qv := q', fv := f' }], ⟨i1, by simp [PT.get_put], by simp [PT.get_put]⟩, ⟨i2, by simp [PT.get_put], by simp [PT.get_put]⟩, by simp [PT.get_put], by simp [PT.get_put], by simp [PT.get_put], ?_, by simp [nl], fun j hj => ?_⟩
    · simp only [PT.get_put, if_true]
      rw [hset]
    · rcases Nat.lt_or_eq_of_le (Nat.le_of_lt_succ hj) with hj | rfl
      · rw [nth_app (by omega)]; exact hok j hj
      · subst nl
        rw [nth_end]
        exact ⟨⟨rfl, rfl, rfl, rfl, rfl, rfl⟩, ⟨sp, sq, sf, rk.ln, rk.lp, rk.lq, rk.lf⟩⟩
  · obtain rfl : i = k := by omega
    generalize hQ : (fun (e : Ex) (s' : St) => _) = Q'
    simp only [D.l78_0b]
    simp [h1, h2, L1, L2, h22, h23, h24, B6, B7]
    subst hQ
    exact .inr ⟨nofun, rfl, news, ⟨i1, by simp [PT.get_put, h1], by simp [PT.get_put, L1]⟩, ⟨i2, by simp [PT.get_put, h2], by simp [PT.get_put, L2]⟩, by simp [PT.get_put], by simp [PT.get_put], by simp [PT.get_put], hh, nl, hok⟩
theorem copied_bl {D : Nat} (hD : 2 ≤ D) {l : Lo} (ok : LoOk l) (is : ISL l) : ∃ l', bl (K DG D) 78 [l.dv] = some l'.dv ∧ LoOk l' ∧ LoEq l l' := by
  obtain ⟨d, rfl⟩ : ∃ d, D = d + 2 := ⟨D - 2, by omega⟩
  have hrb := rb3
  have r6 := is.r2
  obtain ⟨sv, es, ss⟩ := clone_s (D := d + 1) (by omega) ok.s (by have := is.s2; simp; omega)
  obtain ⟨pv, ep, sp⟩ := clone_p (D := d + 1) (by omega) ok.p (by have := is.p2; simp; omega)
  obtain ⟨gv, eg, sg⟩ := clone_s (D := d + 1) (by omega) ok.g (by have := is.g2; simp; omega)
  obtain ⟨x, H1, n1, e1, hn1, hx⟩ := clone_r (d := d) ok.r (by simp; omega) .lf 2
  have key : Fe (K DG (d + 2) 78 [l.dv] .lf 0 0) (fun v H n => (∃ u, v = .agg [.imm sv, .imm pv, .imm gv, .imm u] ∧ Sl 6 u [] ∧ l.rts = []) ∨
      ∃ id news, v = .agg [.imm sv, .imm pv, .imm gv, .sl id 0 l.rts.length l.rts.length] ∧ H.get id = some ⟨6, (news.map ivRt).map imms⟩ ∧ news.length = l.rts.length ∧ ∀ j, j < l.rts.length → RtEq (nth l.rts j) (nth news j) ∧ RtOk (nth news j)) := by
    rw [D.k78]
    refine fn_dw rfl ?_
    rcases hx with ⟨h0, rfl, u, rfl, hu⟩ | ⟨h0, rfl, rfl, rfl⟩
    · have hr0 : l.rts = [] := by simpa using h0
      have ul := hu.len
      obtain ⟨k, hL⟩ : ∃ k, LOOP = k + 1 := ⟨2 ^ 62 - 1, rfl⟩
      have l0 : ILt 0 0 = False := ilt_f (by omega)
      simp [ok.s.scal, ok.p.scal, ok.g.scal, ok.r.scal, ss.scal, sp.scal, sg.scal, hu.scal, es, ep, eg, e1, ul, B6, B7]
      refine dw_loop (N := 0) (by unfold LOOP; omega) (fun i st => BoxD st 1 [.imm sv, .imm pv, .imm gv, .imm u] ∧ BoxD st 2 [.imm .nils, .imm .nils, .imm .nils, .imm .nils] ∧ st.T.get 23 = some (.imm (.int .i64 0)) ∧ st.T.get 24 = some (.imm (.int .i64 0))) (fun e st => e = .exit 0 ∧ BoxD st 1 [.imm sv, .imm pv, .imm gv, .imm u] ∧ BoxD st 2 [.imm .nils, .imm .nils, .imm .nils, .imm .nils]) (fun i st hle hI => ?_) ⟨⟨0, by simp [PT.get_put], by simp [PT.get_put]⟩, ⟨1, by simp [PT.get_put], by simp [PT.get_put, imms]⟩, by simp [PT.get_put], by simp [PT.get_put]⟩ ?_
      · obtain ⟨⟨i1, h1, L1⟩, ⟨i2, h2, L2⟩, h23, h24⟩ := hI
        generalize hQ : (fun (e : Ex) (s' : St) => _) = Q'
        simp only [D.l78_0b]
        simp [h1, h2, L1, L2, h23, h24, l0, B6, B7]
        subst hQ
        exact .inr ⟨nofun, rfl, ⟨i1, by simp [PT.get_put, h1], by simp [PT.get_put, L1]⟩, ⟨i2, by simp [PT.get_put, h2], by simp [PT.get_put, L2]⟩⟩
      · rintro e st' ⟨rfl, ⟨i1, h1, L1⟩, ⟨i2, h2, L2⟩⟩
        simp [h1, h2, L1, L2, ss.scal, sp.scal, sg.scal, hu.scal, B6, B7]
        exact ⟨hu, hr0⟩
    · have fw := is.few
      simp [ok.s.scal, ok.p.scal, ok.g.scal, ok.r.scal, ss.scal, sp.scal, sg.scal, es, ep, eg, e1, B6, B7]
      refine loopCo (sv := sv) (pv := pv) (gv := gv) (l := l) (id := 2) (k := l.rts.length) (by omega) ok fw (fun r hr => by have := (is.rr r hr).p5; omega) rfl (by omega) ⟨⟨0, by simp [PT.get_put], by simp [PT.get_put]⟩, ⟨1, by simp [PT.get_put], by simp [PT.get_put, imms]⟩, by simp [PT.get_put], by simp [PT.get_put], by simp [PT.get_put], by simp [PT.get_put], rfl, fun j hj => by omega⟩ ?_
      rintro st' news ⟨⟨i1, h1, L1⟩, ⟨i2, h2, L2⟩, h22, h23, h24, hh, nl, hok⟩
      simp [h1, h2, L1, L2, ss.scal, sp.scal, sg.scal, B6, B7]
      refine ⟨news, ?_, nl, hok⟩
      rw [hh]; simp
  obtain ⟨v, H, n, e, hv⟩ := key
  rcases hv with ⟨u, rfl, hu, h0⟩ | ⟨id, news, rfl, hh, nl, hok⟩
  · refine ⟨⟨sv, pv, gv, u, l.secs, l.pts, l.sigs, l.rts⟩, bl_of e rfl, ⟨ss, sp, sg, by rw [h0]; exact hu, ok.ls, ok.lp, ok.lg, ok.lr, ok.os, ok.op, ok.og, ok.or⟩, ⟨rfl, rfl, rfl, rfl, fun i hi => ⟨rfl, rfl, rfl, rfl, rfl, rfl⟩⟩⟩
  · refine ⟨⟨sv, pv, gv, .lst false 6 (news.map ivRt), l.secs, l.pts, l.sigs, news⟩, bl_of e ?_, ⟨ss, sp, sg, .inr ⟨_, rfl⟩, ok.ls, ok.lp, ok.lg, by rw [nl]; exact ok.lr, ok.os, ok.op, ok.og, fun x hx => ?_⟩, ⟨rfl, rfl, rfl, nl, fun i hi => (hok i hi).1⟩⟩
    · have hf : frzI H.get 0 frzDepth (.sl id 0 l.rts.length l.rts.length) = some (.lst false 6 (news.map ivRt)) := by
        show (if 0 ≤ id then _ else _) = _
        rw [if_pos (Nat.zero_le _)]
        simp only [hh]
        rw [if_pos (by simp [nl])]
        simp only [List.drop_zero]
        rw [List.take_of_length_le (by simp [nl]), mapO_frz2]
        rfl
      have hz : frz H.get 0 (.sl id 0 l.rts.length l.rts.length) = some (.imm (.lst false 6 (news.map ivRt))) := by
        have hz0 : frz H.get 0 (.sl id 0 l.rts.length l.rts.length) = if id < 0 then some (.sl id 0 l.rts.length l.rts.length) else (frzI H.get 0 frzDepth (.sl id 0 l.rts.length l.rts.length)).map .imm := rfl
        rw [hz0, if_neg (Nat.not_lt_zero _), hf]
        rfl
      show (frz.frzs H.get 0 _).map DV.agg = _
      simp only [frz.frzs, hz]
      rfl
    · obtain ⟨j, hj, rfl⟩ := mem_nth hx
      have hj' : j < news.length := hj
      exact (hok j (by omega)).2
end Go.Proofs.YtnpcgejfkonfdabGreatDoor.D

-- K3
set_option linter.unusedVariables false
set_option linter.unusedSimpArgs false
set_option maxHeartbeats 16000000
namespace Go.Proofs.YtnpcgejfkonfdabGreatDoor.D
open Go Go.PM Go.Lib
/-! ### How routes stand -/
structure Rst where
  mode : Int
  timer : Int
  gone : Int
  seen : Bool
  deriving Inhabited
abbrev rowRS (x : Rst) : List DV := [.imm (.int .i64 x.mode), .imm (.int .i64 x.timer), .imm (.int .i64 x.gone), .imm (.bool x.seen)]
def RsAt (H : PT HB) (x : DV) (own : List Nat) (rs : List Rst) : Prop := (rs = [] ∧ own = [] ∧ ∃ v, x = .imm v ∧ Sl 4 v []) ∨ ∃ id, own = [id] ∧ x = .sl id 0 rs.length rs.length ∧ H.get id = some ⟨4, rs.map rowRS⟩
def LkAt (H : PT HB) (p : Nat) (own : List Nat) (l : Lo) (rs : List Rst) : Prop := ∃ x, H.get p = some ⟨5, [[.imm l.sv, .imm l.pv, .imm l.gv, .imm l.rv, x]]⟩ ∧ RsAt H x own rs ∧ p ∉ own ∧ rs.length = l.rts.length
theorem RsAt.mono {H H' : PT HB} {x : DV} {own : List Nat} {rs : List Rst} (h : RsAt H x own rs) (hf : ∀ i ∈ own, H'.get i = H.get i) : RsAt H' x own rs := by
  rcases h with h | ⟨id, rfl, h1, h2⟩
  · exact .inl h
  · exact .inr ⟨id, rfl, h1, by rw [hf id (by simp)]; exact h2⟩
theorem LkAt.mono {H H' : PT HB} {p : Nat} {own : List Nat} {l : Lo} {rs : List Rst} (h : LkAt H p own l rs) (hf : ∀ i ∈ p :: own, H'.get i = H.get i) : LkAt H' p own l rs := by
  obtain ⟨x, h1, h2, h3, h4⟩ := h
  exact ⟨x, by rw [hf p (by simp)]; exact h1, h2.mono fun i hi => hf i (by simp [hi]), h3, h4⟩
abbrev rs0 : Rst := ⟨0, 0, 0, false⟩
theorem LockNew_of {d : Nat} (hd : 2 ≤ d) {l : Lo} (ok : LoOk l) (is : ISL l) (e1 : bl (K DG d) 77 [l.dv] = some (.imm (.bool true))) (H : PT HB) (n : Nat) :
    Fe (K DG (d + 1) 37 [l.dv] H n 0) (fun v H' n' => ∃ p own l', v = .tup [.ptr p 0 0, .imm (.int .i64 0)] ∧ LoOk l' ∧ LoEq l l' ∧ LkAt H' p own l' (List.replicate l.rts.length rs0) ∧ (∀ i ∈ p :: own, n ≤ i ∧ i < n') ∧ ∀ j, j < n → H'.get j = H.get j) := by
  obtain ⟨l', e2, ok', eq⟩ := copied_bl (D := d) (by omega) ok is
  have rl := ok.r.len
  simp only [List.length_map] at rl
  have r6 := is.r2
  have a1 : l.rts.length ≤ appMax := by unfold appMax; omega
  have a2 : l.rts.length * 32 ≤ appMax := by unfold appMax; omega
  rw [D.k37]
  refine fn_dw rfl ?_
  have b1 : ¬ n + 2 = n + 1 := by omega
  have b2 : ¬ n + 1 = n + 2 := by omega
  simp [ok.s.scal, ok.p.scal, ok.g.scal, ok.r.scal, ok'.s.scal, ok'.p.scal, ok'.g.scal, ok'.r.scal, e1, e2, rl, a1, a2, evParts, lay, B6, B7]
  refine ⟨[n + 1], l', ok', eq, ⟨_, by simp [PT.get_put], .inr ⟨n + 1, rfl, rfl, ?_⟩, by simp, by simp [eq.len]⟩, ?_, fun j hj => ?_⟩
  · simp [PT.get_put, imms]
  · simp
    omega
  · have c1 : ¬ j = n + 1 := by omega
    have c2 : ¬ j = n + 2 := by omega
    have c3 : ¬ j = n + 1 + 1 := by omega
    simp [PT.get_put, c1, c2, c3]
/-! ### What the field tells -/
def ivB1 (b : Bool) : List IV := [.bool b]
structure InOk (ov lv : IV) (os : List Bool) (ls : List Int) : Prop where
  o : Sl 1 ov (os.map ivB1)
  l : Sl 1 lv (ls.map ivI)
  lo : os.length ≤ reachBytes
  ll : ls.length ≤ reachBytes
abbrev inD (ov lv : IV) : DV := .agg [.imm ov, .imm lv]
def MI (l : Lo) (os : List Bool) (ls : List Int) : Prop := os.length = l.secs.length ∧ ls.length = l.pts.length ∧ ¬ ∃ z ∈ ls, z < 0 ∨ 2 < z
theorem saysMI {d : Nat} (hd : 1 ≤ d) {H : PT HB} {n0 : Nat} {ls : List Int} : Says d 159 [] H n0 (fun z : Int => .imm (.int .i64 z)) (fun z => z < 0 ∨ 2 < z) (fun z => z ∈ ls) := fun z _ n hn => by
  obtain ⟨d, rfl⟩ : ∃ d', d = d' + 1 := ⟨d - 1, by omega⟩
  have key : Fe (K DG (d + 1) 159 [.imm (.int .i64 z)] H n n) (fun x _ n' => n ≤ n' ∧ x = .imm (.bool (dec (z < 0 ∨ 2 < z)))) := by
    rw [D.k159]
    refine fn_dw rfl ?_
    by_cases h0 : z < 0
    · simp [ilt_t h0, dec_t (show z < 0 ∨ 2 < z from .inl h0), h0, B6, B7]
    · by_cases h2 : 2 < z
      · simp [ilt_f (show 0 ≤ z by omega), ilt_t h2, h2, B6, B7]
      · simp [ilt_f (show 0 ≤ z by omega), ilt_f (show z ≤ 2 by omega), B6, B7]
        omega
  obtain ⟨x, H1, n1, e, h1, rfl⟩ := key
  exact ⟨H1, n1, e, h1⟩
theorem MayIn_bl {D : Nat} (hD : 4 ≤ D) {l : Lo} (ok : LoOk l) {ov lv : IV} {os : List Bool} {ls : List Int} (io : InOk ov lv os ls) :
    bl (K DG D) 126 [l.dv, inD ov lv] = some (.imm (.bool (dec (MI l os ls)))) := by
  obtain ⟨d, rfl⟩ : ∃ d, D = d + 3 := ⟨D - 3, by omega⟩
  have sl := ok.s.len
  have pl := ok.p.len
  have ol := io.o.len
  have il := io.l.len
  simp only [List.length_map] at sl pl ol il
  obtain ⟨x1, H1, n1, e1, hn1, rfl⟩ := containsF_ints (d := d) (n := 2) (H := .lf) (f := 159) (caps := []) rfl (saysMI (by omega)) io.l io.ll 2
  have c1 : ((os.length : Int) = (l.secs.length : Int)) = (os.length = l.secs.length) := propext ⟨fun h => by omega, fun h => by omega⟩
  have c2 : ((ls.length : Int) = (l.pts.length : Int)) = (ls.length = l.pts.length) := propext ⟨fun h => by omega, fun h => by omega⟩
  have hm : MI l os ls ↔ os.length = l.secs.length ∧ ls.length = l.pts.length ∧ ¬ ∃ z ∈ ls, z < 0 ∨ 2 < z := Iff.rfl
  rw [dec_congr hm]
  generalize (∃ z ∈ ls, z < 0 ∨ 2 < z) = P at e1 ⊢
  refine bl_fe ?_
  rw [D.k126]
  refine fn_dw rfl ?_
  generalize hQ : Fin _ _ = Q
  simp (config := {contextual := true, maxSteps := 2000000}) [ok.s.scal, ok.p.scal, ok.g.scal, ok.r.scal, io.o.scal, io.l.scal, sl, pl, ol, il, c1, c2, e1, B6, B7]
  subst hQ
  by_cases hP : P
  · simp (config := {contextual := true}) [hP, dec_t, B6, B7]
  · simp (config := {contextual := true}) [hP, dec_f, B6, B7]
end Go.Proofs.YtnpcgejfkonfdabGreatDoor.D

-- K4
set_option linter.unusedVariables false
set_option linter.unusedSimpArgs false
set_option maxHeartbeats 16000000
namespace Go.Proofs.YtnpcgejfkonfdabGreatDoor.D
open Go Go.PM Go.Lib
/-! ### Safe -/
theorem Safe_run {d : Nat} {H : PT HB} {p : Nat} {own : List Nat} {l : Lo} {rs : List Rst} (ok : LoOk l) (p5 : l.pts.length ≤ 5) (g6 : l.sigs.length ≤ 6) (lk : LkAt H p own l rs) {n lo : Nat} (hpn : p < n) :
    Fe (K DG (d + 1) 44 [.ptr p 0 0] H n lo) (fun v H' n' => v = .agg [.sl (n + 1) 0 l.pts.length l.pts.length, .sl (n + 2) 0 l.sigs.length l.sigs.length] ∧ n' = n + 3 ∧
      H' = (H.put (n + 1) (some ⟨1, List.replicate l.pts.length (imms [.int .i64 0])⟩)).put (n + 2) (some ⟨1, List.replicate l.sigs.length (imms [.bool false])⟩)) := by
  obtain ⟨x, h1, h2, h3, h4⟩ := lk
  have pl := ok.p.len
  have gl := ok.g.len
  simp only [List.length_map] at pl gl
  have a1 : l.pts.length ≤ appMax := by unfold appMax; omega
  have a2 : l.pts.length * 8 ≤ appMax := by unfold appMax; omega
  have a3 : l.sigs.length ≤ appMax := by unfold appMax; omega
  rw [D.k44]
  refine fn_dw rfl ?_
  have b1 : ¬ p = n + 1 := by omega
  have b2 : ¬ n + 1 = p := by omega
  have b3 : ¬ p = n + 1 + 1 := by omega
  simp [h1, pl, gl, a1, a2, a3, b1, b2, b3, evParts, lay, B6, B7]
theorem zeros_sl {sz k id n lo : Nat} {H : PT HB} {r : List IV} (h : H.get id = some ⟨sz, List.replicate k (imms r)⟩) (hlo : lo ≤ id) : frz H.get lo (.sl id 0 k k) = some (.imm (.lst false sz (List.replicate k r))) := by
  have hf : frzI H.get lo frzDepth (.sl id 0 k k) = some (.lst false sz (List.replicate k r)) := by
    show (if lo ≤ id then _ else _) = _
    rw [if_pos hlo]
    simp only [h]
    rw [if_pos (by simp)]
    simp only [List.drop_zero]
    rw [List.take_of_length_le (by simp), show List.replicate k (imms r) = (List.replicate k r).map imms by simp, mapO_frz2]
    rfl
  have hz0 : frz H.get lo (.sl id 0 k k) = if id < lo then some (.sl id 0 k k) else (frzI H.get lo frzDepth (.sl id 0 k k)).map .imm := rfl
  rw [hz0, if_neg (by omega), hf]
  rfl
/-- What tells the field nothing, as a value. -/
abbrev safeV (l : Lo) : DV := .agg [.imm (.lst false 1 (List.replicate l.pts.length [.int .i64 0])), .imm (.lst false 1 (List.replicate l.sigs.length [.bool false]))]
theorem Safe_ro {d : Nat} {H : PT HB} {p : Nat} {own : List Nat} {l : Lo} {rs : List Rst} (ok : LoOk l) (p5 : l.pts.length ≤ 5) (g6 : l.sigs.length ≤ 6) (lk : LkAt H p own l rs) {n lo : Nat} (hpn : p < n) :
    callM (K DG (d + 1)) .ro 44 [.ptr p 0 0] H n lo = some ⟨safeV l, H, n + 3, [.rA]⟩ := by
  obtain ⟨v, H1, n1, e, rfl, rfl, rfl⟩ := Safe_run (d := d) ok p5 g6 lk (n := n) (lo := n) hpn
  have z1 := zeros_sl (n := n) (lo := n) (id := n + 1) (k := l.pts.length) (sz := 1) (r := [.int .i64 0]) (H := (H.put (n + 1) (some ⟨1, List.replicate l.pts.length (imms [.int .i64 0])⟩)).put (n + 2) (some ⟨1, List.replicate l.sigs.length (imms [.bool false])⟩)) (by
    have : ¬ n + 1 = n + 2 := by omega
    simp [PT.get_put, this]) (by omega)
  have z2 := zeros_sl (n := n) (lo := n) (id := n + 2) (k := l.sigs.length) (sz := 1) (r := [.bool false]) (H := (H.put (n + 1) (some ⟨1, List.replicate l.pts.length (imms [.int .i64 0])⟩)).put (n + 2) (some ⟨1, List.replicate l.sigs.length (imms [.bool false])⟩)) (by
    simp [PT.get_put]) (by omega)
  have ho : DV.out.outs [DV.ptr p 0 0] = true := rfl
  rw [callM_ro, if_pos ho, e]
  simp only
  show ((frz.frzs _ n _).map DV.agg).map _ = _
  simp only [frz.frzs, z1, z2]
  rfl
/-! ### SameOut -/
structure OutV (v : DV) (ds : List Int) (ps : List Bool) : Prop where
  ex : ∃ a b, v = .agg [.imm a, .imm b] ∧ Sl 1 a (ds.map ivI) ∧ Sl 1 b (ps.map ivB1)
/-! ### What may not be -/
theorem Cycle_err {d : Nat} (hd : 4 ≤ d) {H : PT HB} {p : Nat} {own : List Nat} {l : Lo} {rs : List Rst} (ok : LoOk l) (p5 : l.pts.length ≤ 5) (g6 : l.sigs.length ≤ 6) (lk : LkAt H p own l rs) {ov lv : IV} {os : List Bool} {ls : List Int} (io : InOk ov lv os ls) (hm : ¬ MI l os ls) {n : Nat} (hpn : ∀ i ∈ p :: own, i < n) :
    Fe (K DG (d + 1) 80 [.ptr p 0 0, inD ov lv] H n 0) (fun v H' n' => v = .agg [.sl (n + 2 + 1) 0 l.pts.length l.pts.length, .sl (n + 2 + 2) 0 l.sigs.length l.sigs.length] ∧ n' = n + 2 + 3 + 1 ∧
      H' = (H.put (n + 2 + 1) (some ⟨1, List.replicate l.pts.length (imms [.int .i64 0])⟩)).put (n + 2 + 2) (some ⟨1, List.replicate l.sigs.length (imms [.bool false])⟩)) := by
  have hp := hpn p (by simp)
  obtain ⟨d, rfl⟩ : ∃ d', d = d' + 1 := ⟨d - 1, by omega⟩
  obtain ⟨v, H1, n1, e1, rfl, rfl, rfl⟩ := Safe_run (d := d) ok p5 g6 lk (n := n + 2) (lo := 0) (by omega)
  obtain ⟨x, h1, h2, h3, h4⟩ := lk
  have e := MayIn_bl (D := d + 1) (by omega) ok io
  rw [dec_f hm] at e
  have b1 : ¬ p = n + 2 + 1 := by omega
  have b2 : ¬ p = n + 2 + 2 := by omega
  generalize hH1 : ((H.put (n + 2 + 1) (some ⟨1, List.replicate l.pts.length (imms [.int .i64 0])⟩)).put (n + 2 + 2) (some ⟨1, List.replicate l.sigs.length (imms [.bool false])⟩)) = H1 at e1
  have g1 : H1.get p = some ⟨5, [[.imm l.sv, .imm l.pv, .imm l.gv, .imm l.rv, x]]⟩ := by rw [← hH1]; simp [PT.get_put, b1, b2, h1]
  rw [D.k80]
  refine fn_dw rfl ?_
  simp [io.o.scal, io.l.scal, e1, g1, e, B6, B7]
end Go.Proofs.YtnpcgejfkonfdabGreatDoor.D

-- K7
-- K5
set_option linter.unusedVariables false
set_option linter.unusedSimpArgs false
set_option maxHeartbeats 16000000
namespace Go.Proofs.YtnpcgejfkonfdabGreatDoor.D
open Go Go.PM Go.Lib
/-- A slice behind its first cells. -/
def dropV (v : IV) (i : Nat) : IV := match v with
  | .lst full sz es => .lst (full && decide (es.length = es.length)) sz ((es.take es.length).drop i)
  | v => v
theorem dropV_sl {α : Type} {s : Nat} {v : IV} {xs : List α} {f : α → List IV} (hv : Sl s v (xs.map f)) (i : Nat) : Sl s (dropV v i) ((xs.drop i).map f) := by
  rcases hv with ⟨rfl, hn⟩ | ⟨g, rfl⟩
  · have : xs = [] := by simpa using hn
    subst this
    exact .inl ⟨rfl, by simp⟩
  · refine .inr ⟨g && decide ((xs.map f).length = (xs.map f).length), ?_⟩
    simp only [dropV]
    rw [List.take_length, List.map_drop]
theorem slc_from {α : Type} {s : Nat} {v : IV} {xs : List α} {f : α → List IV} (hv : Sl s v (xs.map f)) {z : Int} (h0 : 0 ≤ z) (hz : z ≤ xs.length) {h : Nat → Option HB} {n : Nat} :
    sliceOf h n s (.imm v) (some (.imm (.int .i64 z))) none none = some { v := .imm (dropV v z.toNat), n' := n } := by
  rcases hv with ⟨rfl, hn⟩ | ⟨g, rfl⟩
  · have : xs = [] := by simpa using hn
    subst this
    have : z = 0 := by simp at hz; omega
    subst this
    rfl
  · have h1 : natOr (some (.imm (.int .i64 z))) 0 = some z.toNat := by simp [natOr, asNat, h0]
    have h2 : z.toNat ≤ (xs.map f).length := by simp; omega
    have h3 : natOr none (xs.map f).length = some (xs.map f).length := rfl
    simp only [sliceOf, h1, h3, dropV, if_true]
    rw [if_pos ⟨h2, Nat.le_refl _⟩]
def hld (l : Lo) (rs : List Rst) (r : Nat) : List Int :=
  if (nth rs r).mode = 1 ∨ (nth rs r).mode = 2 ∨ (nth rs r).mode = 4 then (nth l.rts r).path else if (nth rs r).mode = 3 then (nth l.rts r).path.drop (nth rs r).gone.toNat else []
/-- A route that is used has a section before it. -/
def GoneOk (l : Lo) (rs : List Rst) : Prop := ∀ r, r < l.rts.length → (nth rs r).mode = 3 → 0 ≤ (nth rs r).gone ∧ (nth rs r).gone ≤ (nth l.rts r).path.length
theorem hld_sub {l : Lo} {rs : List Rst} {r : Nat} {z : Int} (h : z ∈ hld l rs r) : z ∈ (nth l.rts r).path := by
  unfold hld at h
  split at h
  · exact h
  · split at h
    · exact List.mem_of_mem_drop h
    · cases h
theorem RsAt.sl {H : PT HB} {x : DV} {own : List Nat} {rs : List Rst} (h : RsAt H x own rs) (h0 : 0 < rs.length) : ∃ id, own = [id] ∧ x = .sl id 0 rs.length rs.length ∧ H.get id = some ⟨4, rs.map rowRS⟩ := by
  rcases h with ⟨rfl, _⟩ | h
  · simp at h0
  · exact h
theorem RsAt.len {H : PT HB} {x : DV} {own : List Nat} {rs : List Rst} (h : RsAt H x own rs) : lenOf x = some rs.length := by
  rcases h with ⟨rfl, _, v, rfl, hv⟩ | ⟨id, _, rfl, _⟩
  · exact hv.len
  · rfl
theorem held_run {d : Nat} {H : PT HB} {p : Nat} {own : List Nat} {l : Lo} {rs : List Rst} (ok : LoOk l) (lk : LkAt H p own l rs) (go : GoneOk l rs) {r : Nat} (hr : r < l.rts.length) {n lo : Nat} :
    ∃ u n', K DG (d + 1) 179 [.ptr p 0 0, .imm (.int .i64 r)] H n lo = some (.imm u, H, n') ∧ n ≤ n' ∧ Sl 1 u ((hld l rs r).map ivI) := by
  obtain ⟨x, h1, h2, h3, h4⟩ := lk
  obtain ⟨id, rfl, rfl, hrs⟩ := h2.sl (by omega)
  have rk := ok.or _ (nth_mem hr)
  have hr1 : (r : Int) < l.rts.length := by omega
  have ix := fun {h : Nat → Option HB} {n : Nat} => idx_sl (h := h) (n := n) ok.r (by omega) (k := .i64) (z := (r : Int)) (by omega) hr1
  have iy := fun {n : Nat} => idx_hp (h := H.get) (n := n) (id := id) (row := 0) (len := rs.length) (cap := rs.length) hrs rfl (k := .i64) (z := (r : Int)) (by omega) (by omega)
  have hrow : (rs.map rowRS)[r]? = some (rowRS (nth rs r)) := by rw [List.getElem?_map, nth_get (by omega)]; rfl
  generalize hrr : rs.map rowRS = rows at hrs hrow
  simp only [Int.toNat_natCast, Nat.zero_add] at iy
  have key : Fe (K DG (d + 1) 179 [.ptr p 0 0, .imm (.int .i64 r)] H n lo) (fun v H' n' => H' = H ∧ n ≤ n' ∧ ∃ u, v = .imm u ∧ Sl 1 u ((hld l rs r).map ivI)) := by
    rw [D.k179]
    refine fn_dw rfl ?_
    have hpne : ¬ id = p := fun e => by subst e; simp at h3
    by_cases m1 : (nth rs r).mode = 1
    · have e : hld l rs r = (nth l.rts r).path := by simp [hld, m1]
      rw [e]
      simp [h1, hrs, ix, iy, hrow, m1, ivRt, B6, B7]
      exact rk.p
    · by_cases m2 : (nth rs r).mode = 2
      · have e : hld l rs r = (nth l.rts r).path := by simp [hld, m2]
        rw [e]
        simp [h1, hrs, ix, iy, hrow, m1, m2, ivRt, B6, B7]
        exact rk.p
      · by_cases m4 : (nth rs r).mode = 4
        · have e : hld l rs r = (nth l.rts r).path := by simp [hld, m4]
          rw [e]
          simp [h1, hrs, ix, iy, hrow, m1, m2, m4, ivRt, B6, B7]
          exact rk.p
        · by_cases m3 : (nth rs r).mode = 3
          · have e : hld l rs r = (nth l.rts r).path.drop (nth rs r).gone.toNat := by simp [hld, m3]
            obtain ⟨g0, g1⟩ := go r hr m3
            have sc := fun {h : Nat → Option HB} {n : Nat} => slc_from (h := h) (n := n) rk.p g0 g1
            rw [e]
            simp [h1, hrs, ix, iy, hrow, m1, m2, m3, m4, sc, ivRt, B6, B7]
            have := dropV_sl rk.p (nth rs r).gone.toNat
            simpa [List.map_drop] using this
          · have e : hld l rs r = [] := by simp [hld, m1, m2, m3, m4]
            rw [e]
            simp [h1, hrs, ix, iy, hrow, m1, m2, m3, m4, ivRt, B6, B7]
            exact .inl ⟨rfl, rfl⟩
  obtain ⟨v, H', n', e, rfl, hn, u, rfl, hu⟩ := key
  exact ⟨u, n', e, hn, hu⟩
/-- Who holds a section: the first one; below 0: none does. -/
noncomputable def hol (l : Lo) (rs : List Rst) (z : Int) : Int := match (List.range l.rts.length).find? (fun r => decide (z ∈ hld l rs r)) with
  | some r => (r : Int)
  | none => -1
theorem hol_none {l : Lo} {rs : List Rst} {z : Int} (h : ∀ j, j < l.rts.length → z ∉ hld l rs j) : hol l rs z = -1 := by
  have : (List.range l.rts.length).find? (fun r => decide (z ∈ hld l rs r)) = none := List.find?_eq_none.2 fun r hr => by simpa using h r (List.mem_range.1 hr)
  simp only [hol, this]
theorem hol_some {l : Lo} {rs : List Rst} {z : Int} {i : Nat} (hi : i < l.rts.length) (hm : z ∈ hld l rs i) (h : ∀ j, j < i → z ∉ hld l rs j) : hol l rs z = (i : Int) := by
  have : (List.range l.rts.length).find? (fun r => decide (z ∈ hld l rs r)) = some i := by
    rw [List.find?_range_eq_some]
    exact ⟨by simpa using hm, List.mem_range.2 hi, fun j hj => by simpa using h j hj⟩
  simp only [hol, this]
def IHo (p : Nat) (l : Lo) (rs : List Rst) (H : PT HB) (n0 : Nat) (z : Int) (i : Nat) (st : St) : Prop := st.T.get 0 = some (.ptr p 0 0) ∧ st.T.get 1 = some (.imm (.int .i64 z)) ∧ st.T.get 12 = some (.imm (.int .i64 l.rts.length)) ∧ st.T.get 13 = some (.imm (.int .i64 i)) ∧ st.H = H ∧ n0 ≤ st.n ∧ ∀ j, j < i → z ∉ hld l rs j
theorem loopHo {d : Nat} (hd : 2 ≤ d) {H : PT HB} {p n0 : Nat} {own : List Nat} {l : Lo} {rs : List Rst} (ok : LoOk l) (lk : LkAt H p own l rs) (go : GoneOk l rs) (hp : ∀ r, r < l.rts.length → (nth l.rts r).path.length ≤ 100) {z : Int} {lo : Nat} {ks : List Kf} {st : St} {Q : Ex → St → Prop} (h : IHo p l rs H n0 z 0 st)
    (hk : ∀ e st', st'.H = H → n0 ≤ st'.n → (e = .ret ∧ ∃ i, st'.T.get 4 = some (.imm (.int .i64 i)) ∧ i = hol l rs z) ∨ (e = .exit 0 ∧ hol l rs z = -1) → Bk DG (K DG d) lo e ks st' Q) : Wp DG (K DG d) lo D.l163_0 ks st Q := by
  have hrb := rb3
  obtain ⟨d, rfl⟩ : ∃ d', d = d' + 1 := ⟨d - 1, by omega⟩
  refine dw_loop (N := l.rts.length) (small ok.lr) (IHo p l rs H n0 z) (fun e st' => st'.H = H ∧ n0 ≤ st'.n ∧ ((e = .ret ∧ ∃ i, st'.T.get 4 = some (.imm (.int .i64 i)) ∧ i = hol l rs z) ∨ (e = .exit 0 ∧ hol l rs z = -1))) (fun i st hle hI => ?_) h (fun e s' h => hk e s' h.1 h.2.1 h.2.2)
  obtain ⟨h0, h1, h12, h13, hH, hn, hall⟩ := hI
  by_cases hi : i < l.rts.length
  · have hi1 : (i : Int) < l.rts.length := by omega
    have hi' := ilt_t hi1
    have hw8 : IntKind.i64.wrap ((i : Int) + 1) = (i : Int) + 1 := wr_succ hi ok.lr
    obtain ⟨u, n1, e1, hn1, hu⟩ := held_run (d := d) ok lk go hi (n := st.n) (lo := st.n)
    have hlen : (hld l rs i).length ≤ reachBytes := by
      have : (hld l rs i).length ≤ (nth l.rts i).path.length := by
        unfold hld
        split
        · omega
        · split <;> simp
      have := hp i hi
      omega
    have hc := contains_ints DG (D := d + 1) (by omega) hu hlen z
    generalize hQ : (fun (e : Ex) (s' : St) => _) = Q'
    simp only [D.l163_0b]
    by_cases hm : z ∈ hld l rs i
    · simp [h0, h1, h12, h13, hH, hi', e1, hc, hm, B6, B7]
      subst hQ
      exact .inr ⟨nofun, rfl, by simp; omega, .inl ⟨rfl, (i : Int), by simp [PT.get_put], (hol_some hi hm hall).symm⟩⟩
    · simp [h0, h1, h12, h13, hH, hi', hw8, e1, hc, hm, B6, B7]
      subst hQ
      refine .inl ⟨rfl, hi, by simp [PT.get_put], by simp [PT.get_put], by simp [PT.get_put], by simp [PT.get_put], rfl, by simp; omega, fun j hj => ?_⟩
      rcases Nat.lt_or_eq_of_le (Nat.le_of_lt_succ hj) with hj | rfl
      · exact hall j hj
      · exact hm
  · obtain rfl : i = l.rts.length := by omega
    generalize hQ : (fun (e : Ex) (s' : St) => _) = Q'
    simp only [D.l163_0b]
    simp [h0, h1, h12, h13, hH, B6, B7]
    subst hQ
    exact .inr ⟨nofun, rfl, hn, .inr ⟨rfl, hol_none hall⟩⟩
theorem Holder_run {d : Nat} (hd : 2 ≤ d) {H : PT HB} {p : Nat} {own : List Nat} {l : Lo} {rs : List Rst} (ok : LoOk l) (lk : LkAt H p own l rs) (go : GoneOk l rs) (hp : ∀ r, r < l.rts.length → (nth l.rts r).path.length ≤ 100) (z : Int) {n lo : Nat} :
    ∃ n', K DG (d + 1) 163 [.ptr p 0 0, .imm (.int .i64 z)] H n lo = some (.imm (.int .i64 (hol l rs z)), H, n') ∧ n ≤ n' := by
  have lk0 := lk
  obtain ⟨x, h1, h2, h3, h4⟩ := lk
  have xl := h2.len
  rw [h4] at xl
  have key : Fe (K DG (d + 1) 163 [.ptr p 0 0, .imm (.int .i64 z)] H n lo) (fun v H' n' => v = .imm (.int .i64 (hol l rs z)) ∧ H' = H ∧ n ≤ n') := by
    rw [D.k163]
    refine fn_dw rfl ?_
    simp [h1, xl, B6, B7]
    refine loopHo (l := l) (rs := rs) (z := z) hd ok lk0 go hp ⟨by simp [PT.get_put], by simp [PT.get_put], by simp [PT.get_put], by simp [PT.get_put], rfl, Nat.le_refl _, fun j hj => by omega⟩ ?_
    rintro e st' hH hn (⟨rfl, i, h4, rfl⟩ | ⟨rfl, he⟩)
    · simp [h4, hH, hn, B6, B7]
    · simp [he, hH, hn, B6, B7]
  obtain ⟨v, H', n', e, rfl, rfl, hn⟩ := key
  exact ⟨n', e, hn⟩
/-! ### How a point lies -/
def pos (x : Need) : Int := if x.rev then 2 else 1
theorem position_bl {D : Nat} (hD : 1 ≤ D) (a : Int) (b : Bool) : bl (K DG D) 165 [.agg [.imm (.int .i64 a), .imm (.bool b)]] = some (.imm (.int .i64 (pos ⟨a, b⟩))) := by
  obtain ⟨d, rfl⟩ : ∃ d, D = d + 1 := ⟨D - 1, by omega⟩
  refine bl_fe ?_
  rw [D.k165]
  refine fn_dw rfl ?_
  cases b <;> simp [pos, B6, B7]
theorem lies_bl {D : Nat} (hD : 2 ≤ D) {ov lv : IV} {os : List Bool} {ls : List Int} (io : InOk ov lv os ls) {x : Need} (hx : InR x.pt ls.length) :
    bl (K DG D) 164 [inD ov lv, .agg [.imm (.int .i64 x.pt), .imm (.bool x.rev)]] = some (.imm (.bool (dec (nth ls x.pt.toNat = pos x)))) := by
  obtain ⟨d, rfl⟩ : ∃ d, D = d + 1 := ⟨D - 1, by omega⟩
  have e := position_bl (D := d) (by omega) x.pt x.rev
  have ix := fun {h : Nat → Option HB} {n : Nat} => idx_sl (h := h) (n := n) io.l (by omega) (k := .i64) (z := x.pt) hx.1 hx.2
  refine bl_fe ?_
  rw [D.k164]
  refine fn_dw rfl ?_
  simp [io.o.scal, io.l.scal, e, ix, ivI, B6, B7]
  exact dec_d
theorem saysOc {d : Nat} (hd : 1 ≤ d) {ov lv : IV} {os : List Bool} {ls : List Int} (io : InOk ov lv os ls) {H : PT HB} {a n0 : Nat} (ha : H.get a = some ⟨2, [[.imm ov, .imm lv]]⟩) {path : List Int} (hp : ∀ z ∈ path, InR z os.length) :
    Says d 166 [.ptr a 0 0] H n0 (fun z : Int => .imm (.int .i64 z)) (fun z => nth os z.toNat = true) (fun z => z ∈ path) := fun z hz n hn => by
  obtain ⟨d, rfl⟩ : ∃ d', d = d' + 1 := ⟨d - 1, by omega⟩
  have ix := fun {h : Nat → Option HB} {n : Nat} => idx_sl (h := h) (n := n) io.o (by omega) (k := .i64) (z := z) (hp z hz).1 (hp z hz).2
  have key : Fe (K DG (d + 1) 166 [.imm (.int .i64 z), .ptr a 0 0] H n n) (fun x _ n' => n ≤ n' ∧ x = .imm (.bool (dec (nth os z.toNat = true)))) := by
    rw [D.k166]
    refine fn_dw rfl ?_
    simp [ha, ix, ivB1, B6, B7]
    cases nth os z.toNat with
    | true => exact (dec_t rfl).symm
    | false => exact (dec_f (by simp)).symm
  obtain ⟨x, H1, n1, e, h1, rfl⟩ := key
  exact ⟨H1, n1, e, h1⟩
theorem isOcc_bl {D : Nat} (hD : 4 ≤ D) {ov lv : IV} {os : List Bool} {ls : List Int} (io : InOk ov lv os ls) {pv : IV} {path : List Int} (hv : Sl 1 pv (path.map ivI)) (hl : path.length ≤ reachBytes) (hp : ∀ z ∈ path, InR z os.length) :
    bl (K DG D) 131 [inD ov lv, .imm pv] = some (.imm (.bool (dec (∃ z ∈ path, nth os z.toNat = true)))) := by
  obtain ⟨d, rfl⟩ : ∃ d, D = d + 3 := ⟨D - 3, by omega⟩
  obtain ⟨x1, H1, n1, e1, hn1, rfl⟩ := containsF_ints (d := d) (n := 1) (H := PT.lf.put 0 (some ⟨2, [[.imm ov, .imm lv]]⟩)) (f := 166) (caps := [.ptr 0 0 0]) rfl (saysOc (by omega) io (by simp [PT.get_put]) hp) hv hl 1
  generalize (∃ z ∈ path, nth os z.toNat = true) = P at e1 ⊢
  refine bl_fe ?_
  rw [D.k131]
  refine fn_dw rfl ?_
  simp [io.o.scal, io.l.scal, e1, B6, B7]
end Go.Proofs.YtnpcgejfkonfdabGreatDoor.D

-- K6
set_option linter.unusedVariables false
set_option linter.unusedSimpArgs false
set_option maxHeartbeats 16000000
namespace Go.Proofs.YtnpcgejfkonfdabGreatDoor.D
open Go Go.PM Go.Lib
theorem ISL.p5 {l : Lo} (h : ISL l) : ∀ r, r < l.rts.length → (nth l.rts r).path.length ≤ 100 := fun r hr => by have := (h.rr r hr).p5; omega
theorem nd_in {l : Lo} (is : ISL l) {r : Nat} (hr : r < l.rts.length) {x : Need} (hx : x ∈ nd (nth l.rts r)) : InR x.pt l.pts.length := by
  rcases List.mem_append.1 hx with h | h
  · obtain ⟨i, hi, rfl⟩ := mem_nth h
    exact ((is.rr r hr).np i hi).1
  · obtain ⟨i, hi, rfl⟩ := mem_nth h
    exact ((is.rr r hr).nf i hi).1
def secOf (l : Lo) (x : Need) : Int := (nth l.pts x.pt.toNat).sec
theorem sec_in {l : Lo} (is : ISL l) {r : Nat} (hr : r < l.rts.length) {x : Need} (hx : x ∈ nd (nth l.rts r)) : InR (secOf l x) l.secs.length := by
  have h := nd_in is hr hx
  exact is.ps _ (by have := h.1; have := h.2; omega)
theorem path_in {l : Lo} (is : ISL l) {r : Nat} (hr : r < l.rts.length) {z : Int} (hz : z ∈ (nth l.rts r).path) : InR z l.secs.length := by
  obtain ⟨i, hi, rfl⟩ := mem_nth hz
  exact (PA_nth.1 (is.rr r hr).pa i hi).1
/-- Does nothing stand against a need? -/
def NFree (l : Lo) (rs : List Rst) (os : List Bool) (ls : List Int) (x : Need) : Prop := nth ls x.pt.toNat = pos x ∨ (nth os (secOf l x).toNat = false ∧ hol l rs (secOf l x) < 0)
structure FRE (l : Lo) (rs : List Rst) (os : List Bool) (ls : List Int) (r : Nat) : Prop where
  cf : ∀ s, s < l.rts.length → (nth rs s).mode ≠ 0 → ¬ CF l r s
  nf : ∀ i, i < (nd (nth l.rts r)).length → NFree l rs os ls (nth (nd (nth l.rts r)) i)
  oc : ¬ ∃ z ∈ (nth l.rts r).path, nth os z.toNat = true
structure IF0 (H : PT HB) (p n0 : Nat) (x : DV) (ov lv : IV) (l : Lo) (rs : List Rst) (r : Nat) (i : Nat) (st : St) : Prop where
  h0 : st.T.get 0 = some (.ptr p 0 0)
  h2 : st.T.get 2 = some (.imm (.int .i64 r))
  b4 : Box st 4 [ov, lv]
  h15 : st.T.get 15 = some x
  h16 : st.T.get 16 = some (.imm (.int .i64 l.rts.length))
  h17 : st.T.get 17 = some (.imm (.int .i64 i))
  hh : st.H = H
  hn : n0 ≤ st.n
  all : ∀ s, s < i → (nth rs s).mode ≠ 0 → ¬ CF l r s
theorem loopF0 {d : Nat} (hd : 9 ≤ d) {H : PT HB} {p n0 : Nat} {x : DV} {own : List Nat} {l : Lo} {rs : List Rst} (ok : LoOk l) (is : ISL l) (h1 : H.get p = some ⟨5, [[.imm l.sv, .imm l.pv, .imm l.gv, .imm l.rv, x]]⟩) (h2 : RsAt H x own rs) (h4 : rs.length = l.rts.length) {ov lv : IV} {r : Nat} (hr : r < l.rts.length) {os : List Bool} {ls : List Int} {lo : Nat} {ks : List Kf} {st : St} {Q : Ex → St → Prop}
    (h : IF0 H p n0 x ov lv l rs r 0 st) (hk : ∀ e st', (e = .ret ∧ st'.H = H ∧ n0 ≤ st'.n ∧ st'.T.get 6 = some (.imm (.bool false)) ∧ ¬ FRE l rs os ls r) ∨ (e = .exit 0 ∧ IF0 H p n0 x ov lv l rs r l.rts.length st') → Bk DG (K DG d) lo e ks st' Q) :
    Wp DG (K DG d) lo D.l160_0 ks st Q := by
  refine dw_loop (N := l.rts.length) (small ok.lr) (IF0 H p n0 x ov lv l rs r) (fun e st' => (e = .ret ∧ st'.H = H ∧ n0 ≤ st'.n ∧ st'.T.get 6 = some (.imm (.bool false)) ∧ ¬ FRE l rs os ls r) ∨ (e = .exit 0 ∧ IF0 H p n0 x ov lv l rs r l.rts.length st')) (fun i st hle hI => ?_) h (fun e s' h => hk e s' h)
  obtain ⟨g0, g2, ⟨i4, g4, L4⟩, g15, g16, g17, hH, hn, hall⟩ := hI
  by_cases hi : i < l.rts.length
  · have hi1 : (i : Int) < l.rts.length := by omega
    have hi' := ilt_t hi1
    have hw8 : IntKind.i64.wrap ((i : Int) + 1) = (i : Int) + 1 := wr_succ hi ok.lr
    obtain ⟨id, rfl, rfl, hrs⟩ := h2.sl (by omega)
    have iy := fun {n : Nat} => idx_hp (h := H.get) (n := n) (id := id) (row := 0) (len := rs.length) (cap := rs.length) hrs rfl (k := .i64) (z := (i : Int)) (by omega) (by omega)
    have hrow : (rs.map rowRS)[i]? = some (rowRS (nth rs i)) := by rw [List.getElem?_map, nth_get (by omega)]; rfl
    generalize hrr : rs.map rowRS = rows at hrs hrow
    simp only [Int.toNat_natCast, Nat.zero_add] at iy
    have hc := Conflict_bl (D := d) hd ok is.few hr hi
    have no : (nth rs i).mode ≠ 0 → CF l r i → ¬ FRE l rs os ls r := fun a b h => h.cf i hi a b
    generalize hQ : (fun (e : Ex) (s' : St) => _) = Q'
    simp only [D.l160_0b]
    by_cases hm : (nth rs i).mode = 0
    · simp [g0, g2, g4, L4, g15, g16, g17, hH, hi', hw8, iy, hrs, hrow, hm, B6, B7]
      subst hQ
      refine .inl ⟨rfl, hi, by simp [PT.get_put], by simp [PT.get_put], ⟨i4, by simp [PT.get_put], by simp [PT.get_put, imms]⟩, by simp [PT.get_put], by simp [PT.get_put], by simp [PT.get_put], rfl, by simp; omega, fun s hs => ?_⟩
      rcases Nat.lt_or_eq_of_le (Nat.le_of_lt_succ hs) with hs | rfl
      · exact hall s hs
      · exact fun h => absurd hm h
    · by_cases hcf : CF l r i
      · rw [dec_t hcf] at hc
        simp [g0, g2, g4, L4, g15, g16, g17, hH, hi', hw8, iy, hrs, hrow, hm, h1, hc, B6, B7]
        subst hQ
        exact .inr ⟨nofun, .inl ⟨rfl, rfl, by simp; omega, by simp [PT.get_put], no hm hcf⟩⟩
      · rw [dec_f hcf] at hc
        simp [g0, g2, g4, L4, g15, g16, g17, hH, hi', hw8, iy, hrs, hrow, hm, h1, hc, B6, B7]
        subst hQ
        refine .inl ⟨rfl, hi, by simp [PT.get_put], by simp [PT.get_put], ⟨i4, by simp [PT.get_put], by simp [PT.get_put, imms]⟩, by simp [PT.get_put], by simp [PT.get_put], by simp [PT.get_put], rfl, by simp; omega, fun s hs => ?_⟩
        rcases Nat.lt_or_eq_of_le (Nat.le_of_lt_succ hs) with hs | rfl
        · exact hall s hs
        · exact fun _ => hcf
  · obtain rfl : i = l.rts.length := by omega
    generalize hQ : (fun (e : Ex) (s' : St) => _) = Q'
    simp only [D.l160_0b]
    simp [g0, g2, g4, L4, g15, g16, g17, hH, B6, B7]
    subst hQ
    exact .inr ⟨nofun, .inr ⟨rfl, by simp [PT.get_put], by simp [PT.get_put], ⟨i4, by simp [PT.get_put, g4], by simp [PT.get_put, L4, imms]⟩, by simp [PT.get_put], by simp [PT.get_put], by simp [PT.get_put], rfl, hn, hall⟩⟩
structure IF1 (H : PT HB) (p n0 : Nat) (nv ov lv : IV) (l : Lo) (rs : List Rst) (os : List Bool) (ls : List Int) (r : Nat) (i : Nat) (st : St) : Prop where
  h0 : st.T.get 0 = some (.ptr p 0 0)
  h2 : st.T.get 2 = some (.imm (.int .i64 r))
  b4 : Box st 4 [ov, lv]
  h40 : st.T.get 40 = some (.imm nv)
  h41 : st.T.get 41 = some (.imm (.int .i64 (nd (nth l.rts r)).length))
  h42 : st.T.get 42 = some (.imm (.int .i64 i))
  hh : st.H = H
  hn : n0 ≤ st.n
  all : ∀ j, j < i → NFree l rs os ls (nth (nd (nth l.rts r)) j)
theorem loopF1 {d : Nat} (hd : 9 ≤ d) {H : PT HB} {p n0 : Nat} {own : List Nat} {l : Lo} {rs : List Rst} (ok : LoOk l) (is : ISL l) (lk : LkAt H p own l rs) (go : GoneOk l rs) {ov lv : IV} {os : List Bool} {ls : List Int} (io : InOk ov lv os ls) (mi : MI l os ls) {r : Nat} (hr : r < l.rts.length) {nv : IV} (hv : Sl 2 nv ((nd (nth l.rts r)).map ivN)) {lo : Nat} {ks : List Kf} {st : St} {Q : Ex → St → Prop}
    (h : IF1 H p n0 nv ov lv l rs os ls r 0 st) (hk : ∀ e st', (e = .ret ∧ st'.H = H ∧ n0 ≤ st'.n ∧ st'.T.get 6 = some (.imm (.bool false)) ∧ ¬ FRE l rs os ls r) ∨ (e = .exit 2 ∧ IF1 H p n0 nv ov lv l rs os ls r (nd (nth l.rts r)).length st') → Bk DG (K DG d) lo e ks st' Q) :
    Wp DG (K DG d) lo D.l160_1 ks st Q := by
  have hrb := rb3
  obtain ⟨d, rfl⟩ : ∃ d', d = d' + 1 := ⟨d - 1, by omega⟩
  have hnl : (nd (nth l.rts r)).length ≤ reachBytes := by have := is.few r hr; simp [nd]; omega
  refine dw_loop (N := (nd (nth l.rts r)).length) (small hnl) (IF1 H p n0 nv ov lv l rs os ls r) (fun e st' => (e = .ret ∧ st'.H = H ∧ n0 ≤ st'.n ∧ st'.T.get 6 = some (.imm (.bool false)) ∧ ¬ FRE l rs os ls r) ∨ (e = .exit 2 ∧ IF1 H p n0 nv ov lv l rs os ls r (nd (nth l.rts r)).length st')) (fun i st hle hI => ?_) h (fun e s' h => hk e s' h)
  obtain ⟨g0, g2, ⟨i4, g4, L4⟩, g40, g41, g42, hH, hn, hall⟩ := hI
  have lk0 := lk
  obtain ⟨x, h1, h2, h3, h4⟩ := lk
  by_cases hi : i < (nd (nth l.rts r)).length
  · have hi1 : (i : Int) < (nd (nth l.rts r)).length := by omega
    have hi' := ilt_t hi1
    have hw8 : IntKind.i64.wrap ((i : Int) + 1) = (i : Int) + 1 := wr_succ hi hnl
    have ix := fun {h : Nat → Option HB} {n : Nat} => idx_sl (h := h) (n := n) hv (by omega) (k := .i64) (z := (i : Int)) (by omega) hi1
    have no : ¬ NFree l rs os ls (nth (nd (nth l.rts r)) i) → ¬ FRE l rs os ls r := fun a h => a (h.nf i hi)
    have hmem := nth_mem hi
    have yes : NFree l rs os ls (nth (nd (nth l.rts r)) i) → ∀ j, j < i + 1 → NFree l rs os ls (nth (nd (nth l.rts r)) j) := fun h j hj => by
      rcases Nat.lt_or_eq_of_le (Nat.le_of_lt_succ hj) with hj | rfl
      · exact hall j hj
      · exact h
    simp only [Int.toNat_natCast] at ix
    generalize hgx : nth (nd (nth l.rts r)) i = y at *
    have hpt := nd_in is hr hmem
    have hsec := sec_in is hr hmem
    have ip := fun {h : Nat → Option HB} {n : Nat} => idx_in (h := h) (n := n) ok.p (by omega) (k := .i64) (z := y.pt) hpt
    have io' := fun {h : Nat → Option HB} {n : Nat} => idx_in (h := h) (n := n) io.o (by omega) (k := .i64) (z := secOf l y) (by rw [mi.1]; exact hsec)
    have hl := lies_bl (D := d + 1) (by omega) io (x := y) (by rw [mi.2.1]; exact hpt)
    have ho := fun n lo => Holder_run (d := d) (by omega) ok lk0 go is.p5 (secOf l y) (n := n) (lo := lo)
    have nfr : NFree l rs os ls y ↔ (nth ls y.pt.toNat = pos y ∨ (nth os (secOf l y).toNat = false ∧ hol l rs (secOf l y) < 0)) := Iff.rfl
    simp only [secOf] at io' ho nfr
    generalize hQ : (fun (e : Ex) (s' : St) => _) = Q'
    simp only [D.l160_1b]
    by_cases hly : nth ls y.pt.toNat = pos y
    · rw [dec_t hly] at hl
      simp [g0, g2, g4, L4, g40, g41, g42, hH, hi', hw8, ix, ip, h1, hl, ivN, ivP, B6, B7]
      subst hQ
      exact .inl ⟨rfl, hi, by simp [PT.get_put], by simp [PT.get_put], ⟨i4, by simp [PT.get_put], by simp [PT.get_put, imms]⟩, by simp [PT.get_put], by simp [PT.get_put], by simp [PT.get_put], rfl, by simp; omega, yes (.inl hly)⟩
    · rw [dec_f hly] at hl
      cases hoc : nth os (nth l.pts y.pt.toNat).sec.toNat with
      | true =>
        simp [g0, g2, g4, L4, g40, g41, g42, hH, hi', hw8, ix, ip, io', hoc, h1, hl, ivN, ivP, ivB1, B6, B7]
        subst hQ
        exact .inr ⟨nofun, .inl ⟨rfl, rfl, by simp; omega, by simp [PT.get_put], no fun h => (nfr.1 h).elim hly fun h => by rw [hoc] at h; cases h.1⟩⟩
      | false =>
        obtain ⟨n2, e2, hn2⟩ := ho (st.n + 1) (st.n + 1)
        by_cases hho : hol l rs (nth l.pts y.pt.toNat).sec < 0
        · have hj := ilt_t hho
          simp [g0, g2, g4, L4, g40, g41, g42, hH, hi', hw8, ix, ip, io', hoc, h1, hl, e2, hj, ivN, ivP, ivB1, B6, B7]
          subst hQ
          exact .inl ⟨rfl, hi, by simp [PT.get_put], by simp [PT.get_put], ⟨i4, by simp [PT.get_put], by simp [PT.get_put, imms]⟩, by simp [PT.get_put], by simp [PT.get_put], by simp [PT.get_put], rfl, by simp; omega, yes (.inr ⟨hoc, hho⟩)⟩
        · have hj := ilt_f (show 0 ≤ hol l rs (nth l.pts y.pt.toNat).sec by omega)
          simp [g0, g2, g4, L4, g40, g41, g42, hH, hi', hw8, ix, ip, io', hoc, h1, hl, e2, hj, ivN, ivP, ivB1, B6, B7]
          subst hQ
          exact .inr ⟨nofun, .inl ⟨rfl, rfl, by simp; omega, by simp [PT.get_put], no fun h => (nfr.1 h).elim hly fun h => hho h.2⟩⟩
  · obtain rfl : i = (nd (nth l.rts r)).length := by omega
    generalize hQ : (fun (e : Ex) (s' : St) => _) = Q'
    simp only [D.l160_1b]
    simp [g0, g2, g4, L4, g40, g41, g42, hH, B6, B7]
    subst hQ
    exact .inr ⟨nofun, .inr ⟨rfl, by simp [PT.get_put], by simp [PT.get_put], ⟨i4, by simp [PT.get_put, g4], by simp [PT.get_put, L4, imms]⟩, by simp [PT.get_put], by simp [PT.get_put], by simp [PT.get_put], rfl, hn, hall⟩⟩
theorem isFree_run {d : Nat} (hd : 9 ≤ d) {H : PT HB} {p : Nat} {own : List Nat} {l : Lo} {rs : List Rst} (ok : LoOk l) (is : ISL l) (lk : LkAt H p own l rs) (go : GoneOk l rs) {ov lv : IV} {os : List Bool} {ls : List Int} (io : InOk ov lv os ls) (mi : MI l os ls) {r : Nat} (hr : r < l.rts.length) {n lo : Nat} :
    ∃ n', K DG (d + 1) 160 [.ptr p 0 0, inD ov lv, .imm (.int .i64 r)] H n lo = some (.imm (.bool (dec (FRE l rs os ls r))), H, n') ∧ n ≤ n' := by
  have lk0 := lk
  obtain ⟨x, h1, h2, h3, h4⟩ := lk
  have xl := h2.len
  rw [h4] at xl
  have rk := ok.or _ (nth_mem hr)
  obtain ⟨nv, en, hv⟩ := Needs_bl (D := d) (by omega) ok hr (is.few r hr).1 (is.few r hr).2
  have vl := hv.len
  simp only [List.length_map] at vl
  have oc := isOcc_bl (D := d) (by omega) io rk.p rk.lp fun z hz => by rw [mi.1]; exact path_in is hr hz
  have ix := fun {h : Nat → Option HB} {n : Nat} => idx_sl (h := h) (n := n) ok.r (by omega) (k := .i64) (z := (r : Int)) (by omega) (show (r : Int) < l.rts.length by omega)
  have key : Fe (K DG (d + 1) 160 [.ptr p 0 0, inD ov lv, .imm (.int .i64 r)] H n lo) (fun v H' n' => v = .imm (.bool (dec (FRE l rs os ls r))) ∧ H' = H ∧ n ≤ n') := by
    rw [D.k160]
    refine fn_dw rfl ?_
    simp [io.o.scal, io.l.scal, h1, xl, B6, B7]
    refine loopF0 (n0 := n) (os := os) (ls := ls) (ov := ov) (lv := lv) (r := r) hd ok is h1 h2 h4 hr ⟨by simp [PT.get_put], by simp [PT.get_put], ⟨n, by simp [PT.get_put], by simp [PT.get_put, imms]⟩, by simp [PT.get_put], by simp [PT.get_put], by simp [PT.get_put], rfl, by simp, fun s hs => by omega⟩ ?_
    rintro e st' (⟨rfl, hH, hn, g6, hno⟩ | ⟨rfl, g0, g2, ⟨i4, g4, L4⟩, g15, g16, g17, hH, hn, hcf⟩)
    · simp [g6, hH, hn, hno, B6, B7]
    simp [g0, g2, g4, L4, hH, h1, en, vl, B6, B7]
    refine loopF1 (n0 := n) hd ok is lk0 go io mi hr hv ⟨by simp [PT.get_put, g0], by simp [PT.get_put, g2], ⟨i4, by simp [PT.get_put, g4], by simp [PT.get_put, L4, imms]⟩, by simp [PT.get_put], by simp [PT.get_put], by simp [PT.get_put], rfl, by simp; omega, fun j hj => by omega⟩ ?_
    rintro e st2 (⟨rfl, hH2, hn2, g6, hno⟩ | ⟨rfl, f0, f2, ⟨i5, f4, M4⟩, f40, f41, f42, hH2, hn2, hnf⟩)
    · simp [g6, hH2, hn2, hno, B6, B7]
    have hct : FRE l rs os ls r ↔ ¬ ∃ z ∈ (nth l.rts r).path, nth os z.toNat = true := ⟨fun h => h.oc, fun h => ⟨hcf, hnf, h⟩⟩
    rw [dec_congr hct]
    generalize (∃ z ∈ (nth l.rts r).path, nth os z.toNat = true) = P at oc ⊢
    simp [f0, f2, f4, M4, hH2, h1, ix, oc, hn2, ivRt, B6, B7]
    by_cases hP : P
    · simp [hP, dec_true, dec_false]
    · simp [hP, dec_true, dec_false]
  obtain ⟨v, H', n', e, rfl, rfl, hn⟩ := key
  exact ⟨n', e, hn⟩
end Go.Proofs.YtnpcgejfkonfdabGreatDoor.D

-- K7
set_option linter.unusedVariables false
set_option linter.unusedSimpArgs false
set_option maxHeartbeats 16000000
namespace Go.Proofs.YtnpcgejfkonfdabGreatDoor.D
open Go Go.PM Go.Lib
noncomputable def callF (l : Lo) (rs : List Rst) (os : List Bool) (ls : List Int) (r : Nat) : Int × List Rst :=
  bif dec ((nth rs r).mode = 0) then (bif dec (FRE l rs os ls r) then (0, rs.set r ⟨1, 0, 0, false⟩) else (8, rs)) else (7, rs)
noncomputable def cancelF (rs : List Rst) (r : Nat) : Int × List Rst :=
  bif dec ((nth rs r).mode = 1) then (0, rs.set r rs0) else bif dec ((nth rs r).mode = 2) then (0, rs.set r ⟨4, 0, 0, false⟩) else (7, rs)
noncomputable def cmdF (l : Lo) (rs : List Rst) (os : List Bool) (ls : List Int) (c r : Int) : Int × List Rst :=
  bif dec (¬ MI l os ls ∨ (c ≠ 1 ∧ c ≠ 2)) then (1, rs) else bif dec (InR r l.rts.length) then (bif dec (c = 1) then callF l rs os ls r.toNat else cancelF rs r.toNat) else (5, rs)
/-- What a call of the Lock does: an answer, how routes stand, nothing else. -/
def Does (K : Option (DV × PT HB × Nat)) (H : PT HB) (n : Nat) (p : Nat) (own : List Nat) (l : Lo) (v : DV) (rs' : List Rst) : Prop := ∃ H' n', K = some (v, H', n') ∧ LkAt H' p own l rs' ∧ n ≤ n' ∧ ∀ j, j ∉ own → H'.get j = H.get j
theorem set_lk {H : PT HB} {p id : Nat} {l : Lo} {rs : List Rst} (h1 : H.get p = some ⟨5, [[.imm l.sv, .imm l.pv, .imm l.gv, .imm l.rv, .sl id 0 rs.length rs.length]]⟩) (h3 : p ∉ [id]) (h4 : rs.length = l.rts.length) {r : Nat} (hr : r < rs.length) (y : Rst) :
    LkAt (H.put id (some ⟨4, (rs.map rowRS).set r (rowRS y)⟩)) p [id] l (rs.set r y) := by
  have hp : ¬ p = id := fun e => h3 (by simp [e])
  refine ⟨.sl id 0 rs.length rs.length, by simp [PT.get_put, hp, h1], .inr ⟨id, rfl, by simp, ?_⟩, h3, by simp [h4]⟩
  simp [PT.get_put, List.map_set]
theorem call_run {d : Nat} (hd : 10 ≤ d) {H : PT HB} {p : Nat} {own : List Nat} {l : Lo} {rs : List Rst} (ok : LoOk l) (is : ISL l) (lk : LkAt H p own l rs) (go : GoneOk l rs) {ov lv : IV} {os : List Bool} {ls : List Int} (io : InOk ov lv os ls) (mi : MI l os ls) {r : Nat} (hr : r < l.rts.length) {n : Nat} :
    Does (K DG (d + 1) 127 [.ptr p 0 0, inD ov lv, .imm (.int .i64 r)] H n 0) H n p own l (.imm (.int .i64 (callF l rs os ls r).1)) (callF l rs os ls r).2 := by
  obtain ⟨d, rfl⟩ : ∃ d', d = d' + 1 := ⟨d - 1, by omega⟩
  have lk0 := lk
  obtain ⟨x, h1, h2, h3, h4⟩ := lk
  obtain ⟨id, rfl, rfl, hrs⟩ := h2.sl (by omega)
  have hrl : r < rs.length := by omega
  have iy := fun {n : Nat} => idx_hp (h := H.get) (n := n) (id := id) (row := 0) (len := rs.length) (cap := rs.length) hrs rfl (k := .i64) (z := (r : Int)) (by omega) (by omega)
  have hrow : (rs.map rowRS)[r]? = some (rowRS (nth rs r)) := by rw [List.getElem?_map, nth_get (by omega)]; rfl
  have hset := set_lk h1 h3 h4 hrl ⟨1, 0, 0, false⟩
  obtain ⟨n1, e1, hn1⟩ := isFree_run (d := d) (by omega) ok is lk0 go io mi hr (n := n + 1) (lo := n + 1)
  generalize hrr : rs.map rowRS = rows at hrs hrow hset
  simp only [Int.toNat_natCast, Nat.zero_add] at iy
  have hid : ∀ j, j ∉ [id] → ¬ j = id := fun j hj e => hj (by simp [e])
  have key : Fe (K DG (d + 1 + 1) 127 [.ptr p 0 0, inD ov lv, .imm (.int .i64 r)] H n 0) (fun v H' n' => v = .imm (.int .i64 (callF l rs os ls r).1) ∧ LkAt H' p [id] l (callF l rs os ls r).2 ∧ n ≤ n' ∧ ∀ j, j ∉ [id] → H'.get j = H.get j) := by
    rw [D.k127]
    refine fn_dw rfl ?_
    by_cases hm : (nth rs r).mode = 0
    · by_cases hf : FRE l rs os ls r
      · have ec : callF l rs os ls r = (0, rs.set r ⟨1, 0, 0, false⟩) := by simp [callF, dec_t hm, dec_t hf]
        rw [dec_t hf] at e1
        rw [ec]
        simp [io.o.scal, io.l.scal, h1, hrs, iy, hrow, hm, e1, evParts, lay, B6, B7]
        refine ⟨hset, by omega, fun j hj => by simp [PT.get_put, hj]⟩
      · have ec : callF l rs os ls r = (8, rs) := by simp [callF, dec_t hm, dec_f hf]
        rw [dec_f hf] at e1
        rw [ec]
        simp [io.o.scal, io.l.scal, h1, hrs, iy, hrow, hm, e1, B6, B7]
        exact ⟨lk0, by omega⟩
    · have ec : callF l rs os ls r = (7, rs) := by simp [callF, dec_f hm]
      rw [ec]
      simp [io.o.scal, io.l.scal, h1, hrs, iy, hrow, hm, B6, B7]
      exact lk0
  obtain ⟨v, H', n', e, rfl, a, b, c⟩ := key
  exact ⟨H', n', e, a, b, c⟩
theorem cancel_run {d : Nat} {H : PT HB} {p : Nat} {own : List Nat} {l : Lo} {rs : List Rst} (lk : LkAt H p own l rs) {r : Nat} (hr : r < l.rts.length) {n : Nat} :
    Does (K DG (d + 1) 128 [.ptr p 0 0, .imm (.int .i64 r)] H n 0) H n p own l (.imm (.int .i64 (cancelF rs r).1)) (cancelF rs r).2 := by
  have lk0 := lk
  obtain ⟨x, h1, h2, h3, h4⟩ := lk
  obtain ⟨id, rfl, rfl, hrs⟩ := h2.sl (by omega)
  have hrl : r < rs.length := by omega
  have iy := fun {n : Nat} => idx_hp (h := H.get) (n := n) (id := id) (row := 0) (len := rs.length) (cap := rs.length) hrs rfl (k := .i64) (z := (r : Int)) (by omega) (by omega)
  have hrow : (rs.map rowRS)[r]? = some (rowRS (nth rs r)) := by rw [List.getElem?_map, nth_get (by omega)]; rfl
  have hset := set_lk h1 h3 h4 hrl rs0
  have hset4 := set_lk h1 h3 h4 hrl ⟨4, 0, 0, false⟩
  generalize hrr : rs.map rowRS = rows at hrs hrow hset hset4
  simp only [Int.toNat_natCast, Nat.zero_add] at iy
  have key : Fe (K DG (d + 1) 128 [.ptr p 0 0, .imm (.int .i64 r)] H n 0) (fun v H' n' => v = .imm (.int .i64 (cancelF rs r).1) ∧ LkAt H' p [id] l (cancelF rs r).2 ∧ n ≤ n' ∧ ∀ j, j ∉ [id] → H'.get j = H.get j) := by
    rw [D.k128]
    refine fn_dw rfl ?_
    by_cases m1 : (nth rs r).mode = 1
    · have ec : cancelF rs r = (0, rs.set r rs0) := by simp [cancelF, dec_t m1]
      rw [ec]
      simp [h1, hrs, iy, hrow, m1, evParts, lay, B6, B7]
      exact ⟨hset, fun j hj => by simp [PT.get_put, hj]⟩
    · by_cases m2 : (nth rs r).mode = 2
      · have ec : cancelF rs r = (0, rs.set r ⟨4, 0, 0, false⟩) := by simp [cancelF, dec_f m1, dec_t m2]
        rw [ec]
        simp [h1, hrs, iy, hrow, m1, m2, evParts, lay, B6, B7]
        exact ⟨hset4, fun j hj => by simp [PT.get_put, hj]⟩
      · have ec : cancelF rs r = (7, rs) := by simp [cancelF, dec_f m1, dec_f m2]
        rw [ec]
        simp [h1, hrs, iy, hrow, m1, m2, B6, B7]
        exact lk0
  obtain ⟨v, H', n', e, rfl, a, b, c⟩ := key
  exact ⟨H', n', e, a, b, c⟩
theorem Command_run {d : Nat} (hd : 11 ≤ d) {H : PT HB} {p : Nat} {own : List Nat} {l : Lo} {rs : List Rst} (ok : LoOk l) (is : ISL l) (lk : LkAt H p own l rs) (go : GoneOk l rs) {ov lv : IV} {os : List Bool} {ls : List Int} (io : InOk ov lv os ls) (c r : Int) {n : Nat} :
    Does (K DG (d + 1) 79 [.ptr p 0 0, inD ov lv, .agg [.imm (.int .i64 c), .imm (.int .i64 r)]] H n 0) H n p own l (.imm (.int .i64 (cmdF l rs os ls c r).1)) (cmdF l rs os ls c r).2 := by
  obtain ⟨d, rfl⟩ : ∃ d', d = d' + 1 := ⟨d - 1, by omega⟩
  have lk0 := lk
  obtain ⟨x, h1, h2, h3, h4⟩ := lk
  have xl := h2.len
  rw [h4] at xl
  have e := MayIn_bl (D := d + 1) (by omega) ok io
  have key : Fe (K DG (d + 1 + 1) 79 [.ptr p 0 0, inD ov lv, .agg [.imm (.int .i64 c), .imm (.int .i64 r)]] H n 0) (fun v H' n' => v = .imm (.int .i64 (cmdF l rs os ls c r).1) ∧ LkAt H' p own l (cmdF l rs os ls c r).2 ∧ n ≤ n' ∧ ∀ j, j ∉ own → H'.get j = H.get j) := by
    rw [D.k79]
    refine fn_dw rfl ?_
    by_cases mi : MI l os ls
    · rw [dec_t mi] at e
      by_cases hc : c = 1 ∨ c = 2
      · have n1 : ¬ (¬ MI l os ls ∨ (c ≠ 1 ∧ c ≠ 2)) := by
          rintro (h | h)
          · exact h mi
          · omega
        by_cases hr : InR r l.rts.length
        · have hrl : r.toNat < l.rts.length := by have := hr.1; have := hr.2; omega
          have er : ((r.toNat : Nat) : Int) = r := by have := hr.1; omega
          have j0 : ILt r 0 = False := ilt_f hr.1
          have j1 : ILt r l.rts.length = True := ilt_t hr.2
          rcases hc with rfl | rfl
          · have ec : cmdF l rs os ls 1 r = callF l rs os ls r.toNat := by simp only [cmdF, dec_f n1, dec_t hr, dec_true, cond_true, cond_false]
            obtain ⟨H', n', e1, a1, a2, a3⟩ := call_run (d := d) (by omega) ok is lk0 go io mi hrl (n := n + 2)
            rw [er] at e1
            rw [ec]
            simp [io.o.scal, io.l.scal, h1, e, xl, j0, j1, e1, B6, B7]
            exact ⟨a1, by omega, a3⟩
          · have ec : cmdF l rs os ls 2 r = cancelF rs r.toNat := by simp only [cmdF, dec_f n1, dec_t hr, dec_f (show ¬ (2 : Int) = 1 by decide), cond_true, cond_false]
            obtain ⟨H', n', e1, a1, a2, a3⟩ := cancel_run (d := d) lk0 hrl (n := n + 2)
            rw [er] at e1
            rw [ec]
            simp [io.o.scal, io.l.scal, h1, e, xl, j0, j1, e1, B6, B7]
            exact ⟨a1, by omega, a3⟩
        · have ec : cmdF l rs os ls c r = (5, rs) := by simp only [cmdF, dec_f n1, dec_f hr, cond_false]
          rw [ec]
          by_cases r0 : r < 0
          · have j0 : ILt r 0 = True := ilt_t r0
            rcases hc with rfl | rfl
            · simp [io.o.scal, io.l.scal, h1, e, xl, j0, B6, B7]
              exact ⟨lk0, by omega⟩
            · simp [io.o.scal, io.l.scal, h1, e, xl, j0, B6, B7]
              exact ⟨lk0, by omega⟩
          · have j0 : ILt r 0 = False := ilt_f (by omega)
            have j1 : ILt r l.rts.length = False := ilt_f (by unfold InR at hr; omega)
            rcases hc with rfl | rfl
            · simp [io.o.scal, io.l.scal, h1, e, xl, j0, j1, B6, B7]
              exact ⟨lk0, by omega⟩
            · simp [io.o.scal, io.l.scal, h1, e, xl, j0, j1, B6, B7]
              exact ⟨lk0, by omega⟩
      · have n1 : ¬ MI l os ls ∨ (c ≠ 1 ∧ c ≠ 2) := .inr (by omega)
        have ec : cmdF l rs os ls c r = (1, rs) := by simp only [cmdF, dec_t n1, cond_true]
        have c1 : ¬ c = 1 := by omega
        have c2 : ¬ c = 2 := by omega
        rw [ec]
        simp [io.o.scal, io.l.scal, h1, e, c1, c2, B6, B7]
        exact ⟨lk0, by omega⟩
    · have n1 : ¬ MI l os ls ∨ (c ≠ 1 ∧ c ≠ 2) := .inl mi
      have ec : cmdF l rs os ls c r = (1, rs) := by simp only [cmdF, dec_t n1, cond_true]
      rw [dec_f mi] at e
      rw [ec]
      simp [io.o.scal, io.l.scal, h1, e, B6, B7]
      exact ⟨lk0, by omega⟩
  obtain ⟨v, H', n', e, rfl, a, b, c⟩ := key
  exact ⟨H', n', e, a, b, c⟩
end Go.Proofs.YtnpcgejfkonfdabGreatDoor.D

-- K14
-- K8
set_option linter.unusedVariables false
set_option linter.unusedSimpArgs false
set_option maxHeartbeats 16000000
namespace Go.Proofs.YtnpcgejfkonfdabGreatDoor.D
open Go Go.PM Go.Lib
/-! ### All points lie as a route needs them -/
def Lie (l : Lo) (ls : List Int) (r : Nat) : Prop := ∀ x ∈ nd (nth l.rts r), nth ls x.pt.toNat = pos x
theorem saysLie {d : Nat} (hd : 3 ≤ d) {ov lv : IV} {os : List Bool} {ls : List Int} (io : InOk ov lv os ls) {H : PT HB} {a n0 : Nat} (ha : H.get a = some ⟨2, [[.imm ov, .imm lv]]⟩) {xs : List Need} (hx : ∀ x ∈ xs, InR x.pt ls.length) :
    Says d 167 [.ptr a 0 0] H n0 (fun x : Need => .agg [.imm (.int .i64 x.pt), .imm (.bool x.rev)]) (fun x => ¬ nth ls x.pt.toNat = pos x) (fun x => x ∈ xs) := fun x hm n hn => by
  obtain ⟨d, rfl⟩ : ∃ d', d = d' + 1 := ⟨d - 1, by omega⟩
  have hl := lies_bl (D := d) (by omega) io (hx x hm)
  have key : Fe (K DG (d + 1) 167 [.agg [.imm (.int .i64 x.pt), .imm (.bool x.rev)], .ptr a 0 0] H n n) (fun y _ n' => n ≤ n' ∧ y = .imm (.bool (dec (¬ nth ls x.pt.toNat = pos x)))) := by
    rw [D.k167]
    refine fn_dw rfl ?_
    by_cases h : nth ls x.pt.toNat = pos x
    · rw [dec_t h] at hl
      simp [ha, hl, h, dec_true, dec_false, B6, B7]
    · rw [dec_f h] at hl
      simp [ha, hl, h, dec_true, dec_false, B6, B7]
  obtain ⟨y, H1, n1, e, h1, rfl⟩ := key
  exact ⟨H1, n1, e, h1⟩
theorem allLie_run {d : Nat} (hd : 6 ≤ d) {H : PT HB} {p : Nat} {own : List Nat} {l : Lo} {rs : List Rst} (ok : LoOk l) (is : ISL l) (lk : LkAt H p own l rs) {ov lv : IV} {os : List Bool} {ls : List Int} (io : InOk ov lv os ls) (mi : MI l os ls) {r : Nat} (hr : r < l.rts.length) {n lo : Nat} (hpn : p < n) :
    ∃ n' H', K DG (d + 1) 132 [.ptr p 0 0, inD ov lv, .imm (.int .i64 r)] H n lo = some (.imm (.bool (dec (Lie l ls r))), H', n') ∧ n ≤ n' := by
  obtain ⟨d, rfl⟩ : ∃ d', d = d' + 2 := ⟨d - 2, by omega⟩
  obtain ⟨x, h1, h2, h3, h4⟩ := lk
  have hrb := rb3
  obtain ⟨nv, en, hv⟩ := Needs_bl (D := d + 2) (by omega) ok hr (is.few r hr).1 (is.few r hr).2
  have hnl : (nd (nth l.rts r)).length ≤ reachBytes := by have := is.few r hr; simp [nd]; omega
  have hpn' : ¬ p = n := by omega
  obtain ⟨x1, H1, n1, e1, hn1, rfl⟩ := containsF_needs (d := d) (n := n + 1) (H := H.put n (some ⟨2, [[.imm ov, .imm lv]]⟩)) (f := 167) (caps := [.ptr n 0 0]) rfl (saysLie (by omega) io (by simp [PT.get_put]) fun x hx => by rw [mi.2.1]; exact nd_in is hr hx) hv hnl (n + 1)
  have hL : Lie l ls r ↔ ¬ ∃ x ∈ nd (nth l.rts r), ¬ nth ls x.pt.toNat = pos x := ⟨fun h ⟨x, hx, hn⟩ => hn (h x hx), fun h x hx => Classical.byContradiction fun hn => h ⟨x, hx, hn⟩⟩
  rw [dec_congr hL]
  generalize (∃ x ∈ nd (nth l.rts r), ¬ nth ls x.pt.toNat = pos x) = P at e1 ⊢
  have key : Fe (K DG (d + 2 + 1) 132 [.ptr p 0 0, inD ov lv, .imm (.int .i64 r)] H n lo) (fun v H' n' => v = .imm (.bool (dec (¬ P))) ∧ n ≤ n') := by
    rw [D.k132]
    refine fn_dw rfl ?_
    simp [io.o.scal, io.l.scal, hpn', h1, en, e1, B6, B7]
    by_cases hP : P
    · simp [hP, dec_true, dec_false]; omega
    · simp [hP, dec_true, dec_false]; omega
  obtain ⟨v, H', n', e, rfl, hn⟩ := key
  exact ⟨n', H', e, hn⟩
/-! ### How a route stands next -/
/-- What a route's state may be. -/
structure RsOk (l : Lo) (r : Nat) (x : Rst) : Prop where
  md : 0 ≤ x.mode ∧ x.mode ≤ 4
  t0 : 0 ≤ x.timer
  t8 : x.mode = 1 → x.timer ≤ 8
  t6 : x.mode = 4 → x.timer < 6
  tz : ¬ x.mode = 1 → ¬ x.mode = 4 → x.timer = 0
  g3 : x.mode = 3 → 0 ≤ x.gone ∧ x.gone < (nth l.rts r).path.length
  gz : ¬ x.mode = 3 → x.gone = 0 ∧ x.seen = false
noncomputable def laterF (x : Rst) (m : Int) : Rst := bif dec (m < x.timer + 1) then rs0 else ⟨x.mode, x.timer + 1, x.gone, x.seen⟩
noncomputable def usedF (l : Lo) (os : List Bool) (r : Nat) (x : Rst) : Rst :=
  bif nth os (nth (nth l.rts r).path x.gone.toNat).toNat then ⟨x.mode, x.timer, x.gone, true⟩
  else bif x.seen then (bif dec (x.gone + 1 < (nth l.rts r).path.length) then ⟨x.mode, x.timer, x.gone + 1, false⟩ else rs0) else x
noncomputable def stepF (l : Lo) (os : List Bool) (ls : List Int) (r : Nat) (x : Rst) : Rst :=
  bif dec (x.mode = 1) then (bif dec (Lie l ls r) then ⟨2, 0, 0, false⟩ else laterF x 8)
  else bif dec (x.mode = 2 ∨ x.mode = 4) then (bif nth os (nth (nth l.rts r).path 0).toNat then ⟨3, 0, 0, true⟩ else bif dec (x.mode = 4) then laterF x 5 else x)
  else bif dec (x.mode = 3) then usedF l os r x else x
theorem later_bl {D : Nat} (hD : 1 ≤ D) (x : Rst) (h0 : 0 ≤ x.timer) (h1 : x.timer ≤ 100) (m : Int) : bl (K DG D) 161 [.agg (rowRS x), .imm (.int .i64 m)] = some (.agg (rowRS (laterF x m))) := by
  obtain ⟨d, rfl⟩ : ∃ d, D = d + 1 := ⟨D - 1, by omega⟩
  have hw : IntKind.i64.wrap (x.timer + 1) = x.timer + 1 := wr_id (by omega) (by omega)
  have key : Fe (K DG (d + 1) 161 [.agg (rowRS x), .imm (.int .i64 m)] .lf 0 0) (fun v _ _ => v = .agg (rowRS (laterF x m))) := by
    rw [D.k161]
    refine fn_dw rfl ?_
    by_cases h : m < x.timer + 1
    · have e : laterF x m = rs0 := by simp [laterF, dec_t h]
      rw [e]
      simp [hw, ilt_t h, evParts, lay, B6, B7]
    · have e : laterF x m = ⟨x.mode, x.timer + 1, x.gone, x.seen⟩ := by simp [laterF, dec_f h]
      rw [e]
      simp [hw, ilt_f (show x.timer + 1 ≤ m by omega), evParts, lay, B6, B7]
  obtain ⟨v, H, n, e, rfl⟩ := key
  exact bl_of e rfl
theorem used_run {d : Nat} {H : PT HB} {p : Nat} {own : List Nat} {l : Lo} {rs : List Rst} (ok : LoOk l) (is : ISL l) (lk : LkAt H p own l rs) {ov lv : IV} {os : List Bool} {ls : List Int} (io : InOk ov lv os ls) (mi : MI l os ls) {r : Nat} (hr : r < l.rts.length) (ro : RsOk l r (nth rs r)) (h3' : (nth rs r).mode = 3) {n lo : Nat} :
    ∃ n', K DG (d + 1) 162 [.ptr p 0 0, inD ov lv, .imm (.int .i64 r)] H n lo = some (.agg (rowRS (usedF l os r (nth rs r))), H, n') ∧ n ≤ n' := by
  obtain ⟨x, h1, h2, h3, h4⟩ := lk
  obtain ⟨id, rfl, rfl, hrs⟩ := h2.sl (by omega)
  have rk := ok.or _ (nth_mem hr)
  have pl := rk.p.len
  simp only [List.length_map] at pl
  have hr1 : (r : Int) < l.rts.length := by omega
  have ix := fun {h : Nat → Option HB} {n : Nat} => idx_sl (h := h) (n := n) ok.r (by omega) (k := .i64) (z := (r : Int)) (by omega) hr1
  have iy := fun {n : Nat} => idx_hp (h := H.get) (n := n) (id := id) (row := 0) (len := rs.length) (cap := rs.length) hrs rfl (k := .i64) (z := (r : Int)) (by omega) (by omega)
  have hrow : (rs.map rowRS)[r]? = some (rowRS (nth rs r)) := by rw [List.getElem?_map, nth_get (by omega)]; rfl
  generalize hrr : rs.map rowRS = rows at hrs hrow
  generalize nth rs r = y at *
  simp only [Int.toNat_natCast, Nat.zero_add] at iy
  obtain ⟨g0, g1⟩ := ro.g3 h3'
  have p5 := is.p5 r hr
  have ip := fun {h : Nat → Option HB} {n : Nat} => idx_sl (h := h) (n := n) rk.p (by omega) (k := .i64) (z := y.gone) g0 g1
  have hpin := path_in is hr (nth_mem (xs := (nth l.rts r).path) (i := y.gone.toNat) (by omega))
  have io' := fun {h : Nat → Option HB} {n : Nat} => idx_in (h := h) (n := n) io.o (by omega) (k := .i64) (z := nth (nth l.rts r).path y.gone.toNat) (by rw [mi.1]; exact hpin)
  have hw : IntKind.i64.wrap (y.gone + 1) = y.gone + 1 := wr_id (by omega) (by omega)
  have j1 := ilt_t g1
  have key : Fe (K DG (d + 1) 162 [.ptr p 0 0, inD ov lv, .imm (.int .i64 r)] H n lo) (fun v H' n' => v = .agg (rowRS (usedF l os r y)) ∧ H' = H ∧ n ≤ n') := by
    rw [D.k162]
    refine fn_dw rfl ?_
    cases ho : nth os (nth (nth l.rts r).path y.gone.toNat).toNat with
    | true =>
      have e : usedF l os r y = ⟨y.mode, y.timer, y.gone, true⟩ := by simp [usedF, ho]
      rw [e]
      simp [io.o.scal, io.l.scal, h1, hrs, ix, iy, ip, io', hrow, ho, j1, pl, ivRt, ivI, ivB1, evParts, lay, B6, B7]
      omega
    | false =>
      cases hse : y.seen with
      | true =>
        by_cases hg : y.gone + 1 < (nth l.rts r).path.length
        · have e : usedF l os r y = ⟨y.mode, y.timer, y.gone + 1, false⟩ := by simp [usedF, ho, hse, dec_t hg]
          rw [e]
          simp [io.o.scal, io.l.scal, h1, hrs, ix, iy, ip, io', hrow, ho, hse, hw, ilt_t hg, pl, ivRt, ivI, ivB1, evParts, lay, B6, B7]
          omega
        · have e : usedF l os r y = rs0 := by simp [usedF, ho, hse, dec_f hg]
          rw [e]
          simp [io.o.scal, io.l.scal, h1, hrs, ix, iy, ip, io', hrow, ho, hse, hw, ilt_f (show ((nth l.rts r).path.length : Int) ≤ y.gone + 1 by omega), pl, ivRt, ivI, ivB1, evParts, lay, B6, B7]
          omega
      | false =>
        have e : usedF l os r y = y := by simp [usedF, ho, hse]
        rw [e]
        simp [io.o.scal, io.l.scal, h1, hrs, ix, iy, ip, io', hrow, ho, hse, j1, pl, ivRt, ivI, ivB1, evParts, lay, B6, B7]
        omega
  obtain ⟨v, H', n', e, rfl, rfl, hn⟩ := key
  exact ⟨n', e, hn⟩
end Go.Proofs.YtnpcgejfkonfdabGreatDoor.D

-- K9
set_option linter.unusedVariables false
set_option linter.unusedSimpArgs false
set_option maxHeartbeats 16000000
namespace Go.Proofs.YtnpcgejfkonfdabGreatDoor.D
open Go Go.PM Go.Lib
theorem step_run {d : Nat} (hd : 8 ≤ d) {H : PT HB} {p : Nat} {own : List Nat} {l : Lo} {rs : List Rst} (ok : LoOk l) (is : ISL l) (lk : LkAt H p own l rs) {ov lv : IV} {os : List Bool} {ls : List Int} (io : InOk ov lv os ls) (mi : MI l os ls) {r : Nat} (hr : r < l.rts.length) (ro : RsOk l r (nth rs r)) {n lo : Nat} (hpn : p < n) :
    ∃ n', K DG (d + 1) 129 [.ptr p 0 0, inD ov lv, .imm (.int .i64 r)] H n lo = some (.agg (rowRS (stepF l os ls r (nth rs r))), H, n') ∧ n ≤ n' := by
  obtain ⟨d, rfl⟩ : ∃ d', d = d' + 1 := ⟨d - 1, by omega⟩
  have lk0 := lk
  obtain ⟨x, h1, h2, h3, h4⟩ := lk
  obtain ⟨id, rfl, rfl, hrs⟩ := h2.sl (by omega)
  have rk := ok.or _ (nth_mem hr)
  have pl := rk.p.len
  simp only [List.length_map] at pl
  have hr1 : (r : Int) < l.rts.length := by omega
  have hr2 : (r : Int) < (rs.length : Int) := by omega
  have p1 := (is.rr r hr).p1
  have ix := fun {h : Nat → Option HB} {n : Nat} => idx_sl (h := h) (n := n) ok.r (by omega) (k := .i64) (z := (r : Int)) (by omega) hr1
  have iy := fun {n : Nat} => idx_hp (h := H.get) (n := n) (id := id) (row := 0) (len := rs.length) (cap := rs.length) hrs rfl (k := .i64) (z := (r : Int)) (by omega) (by omega)
  have ip := fun {h : Nat → Option HB} {n : Nat} => idx_sl (h := h) (n := n) rk.p (by omega) (k := .i64) (z := (0 : Int)) (by omega) (by omega)
  have hpin := path_in is hr (nth_mem (xs := (nth l.rts r).path) (i := 0) (by omega))
  have io' := fun {h : Nat → Option HB} {n : Nat} => idx_in (h := h) (n := n) io.o (by omega) (k := .i64) (z := nth (nth l.rts r).path 0) (by rw [mi.1]; exact hpin)
  obtain ⟨na, Ha, ea, hna⟩ := allLie_run (d := d) (by omega) ok is lk0 io mi hr (n := n + 1 + 1 + 1) (lo := n + 1 + 1 + 1) (by omega)
  have lt := later_bl (D := d + 1) (by omega) (nth rs r) ro.t0 (by
    by_cases m1 : (nth rs r).mode = 1
    · have := ro.t8 m1; omega
    by_cases m4 : (nth rs r).mode = 4
    · have := ro.t6 m4; omega
    have := ro.tz m1 m4; omega)
  have us := fun (h : (nth rs r).mode = 3) => used_run (d := d) ok is lk0 io mi hr ro h (n := n + 1 + 1 + 1) (lo := n + 1 + 1 + 1)
  have hrow : (rs.map rowRS)[r]? = some (rowRS (nth rs r)) := by rw [List.getElem?_map, nth_get (by omega)]; rfl
  have hmd := ro.md
  generalize hrr : rs.map rowRS = rows at hrs hrow
  generalize nth rs r = y at *
  simp only [Int.toNat_natCast, Nat.zero_add] at iy
  have key : Fe (K DG (d + 1 + 1) 129 [.ptr p 0 0, inD ov lv, .imm (.int .i64 r)] H n lo) (fun v H' n' => v = .agg (rowRS (stepF l os ls r y)) ∧ H' = H ∧ n ≤ n') := by
    rw [D.k129]
    refine fn_dw rfl ?_
    obtain ⟨ym, yt, yg, ys⟩ := y
    simp only at hmd
    have hc : ym = 0 ∨ ym = 1 ∨ ym = 2 ∨ ym = 3 ∨ ym = 4 := by omega
    rcases hc with rfl | rfl | rfl | rfl | rfl
    · have e : stepF l os ls r ⟨0, yt, yg, ys⟩ = ⟨0, yt, yg, ys⟩ := by simp [stepF, dec_false]
      rw [e]
      simp [io.o.scal, io.l.scal, h1, hrs, ix, iy, ip, io', hrow, pl, ivRt, ivI, ivB1, evParts, lay, B6, B7]
      omega
    · by_cases hL : Lie l ls r
      · rw [dec_t hL] at ea
        have e : stepF l os ls r ⟨1, yt, yg, ys⟩ = ⟨2, 0, 0, false⟩ := by simp [stepF, dec_true, dec_t hL]
        rw [e]
        simp [io.o.scal, io.l.scal, h1, hrs, ix, iy, ip, io', hrow, pl, ea, ivRt, ivI, ivB1, evParts, lay, rowRS, B6, B7]
        omega
      · rw [dec_f hL] at ea
        have e : stepF l os ls r ⟨1, yt, yg, ys⟩ = laterF ⟨1, yt, yg, ys⟩ 8 := by simp [stepF, dec_true, dec_f hL]
        rw [e]
        simp [io.o.scal, io.l.scal, h1, hrs, ix, iy, ip, io', hrow, pl, ea, lt, ivRt, ivI, ivB1, evParts, lay, B6, B7]
        omega
    · cases ho : nth os (nth (nth l.rts r).path 0).toNat with
      | true =>
        have e : stepF l os ls r ⟨2, yt, yg, ys⟩ = ⟨3, 0, 0, true⟩ := by simp [stepF, dec_true, dec_false, ho]
        rw [e]
        simp [io.o.scal, io.l.scal, h1, hrs, ix, iy, ip, io', hrow, ho, pl, ivRt, ivI, ivB1, evParts, lay, B6, B7]
        omega
      | false =>
        have e : stepF l os ls r ⟨2, yt, yg, ys⟩ = ⟨2, yt, yg, ys⟩ := by simp [stepF, dec_true, dec_false, ho]
        rw [e]
        simp [io.o.scal, io.l.scal, h1, hrs, ix, iy, ip, io', hrow, ho, pl, ivRt, ivI, ivB1, evParts, lay, B6, B7]
        omega
    · obtain ⟨nu, eu, hnu⟩ := us rfl
      have e : stepF l os ls r ⟨3, yt, yg, ys⟩ = usedF l os r ⟨3, yt, yg, ys⟩ := by simp [stepF, dec_true, dec_false]
      rw [e]
      simp [io.o.scal, io.l.scal, h1, hrs, ix, iy, ip, io', hrow, pl, eu, ivRt, ivI, ivB1, evParts, lay, B6, B7]
      omega
    · cases ho : nth os (nth (nth l.rts r).path 0).toNat with
      | true =>
        have e : stepF l os ls r ⟨4, yt, yg, ys⟩ = ⟨3, 0, 0, true⟩ := by simp [stepF, dec_true, dec_false, ho]
        rw [e]
        simp [io.o.scal, io.l.scal, h1, hrs, ix, iy, ip, io', hrow, ho, pl, ivRt, ivI, ivB1, evParts, lay, B6, B7]
        omega
      | false =>
        have e : stepF l os ls r ⟨4, yt, yg, ys⟩ = laterF ⟨4, yt, yg, ys⟩ 5 := by simp [stepF, dec_true, dec_false, ho]
        rw [e]
        simp [io.o.scal, io.l.scal, h1, hrs, ix, iy, ip, io', hrow, ho, pl, lt, ivRt, ivI, ivB1, evParts, lay, B6, B7]
        omega
  obtain ⟨v, H', n', e, rfl, rfl, hn⟩ := key
  exact ⟨n', e, hn⟩
end Go.Proofs.YtnpcgejfkonfdabGreatDoor.D

-- K10
set_option linter.unusedVariables false
set_option linter.unusedSimpArgs false
set_option maxHeartbeats 16000000
namespace Go.Proofs.YtnpcgejfkonfdabGreatDoor.D
open Go Go.PM Go.Lib
structure ICy (p : Nat) (own : List Nat) (l : Lo) (os : List Bool) (ls : List Int) (rs : List Rst) (ov lv : IV) (us : List DV) (H1 : PT HB) (n1 : Nat) (i : Nat) (qs : List Rst) (st : St) : Prop where
  h0 : st.T.get 0 = some (.ptr p 0 0)
  h28 : st.T.get 28 = some (.imm (.int .i64 l.rts.length))
  h29 : st.T.get 29 = some (.imm (.int .i64 i))
  b3 : BoxD st 3 [.imm ov, .imm lv]
  b4 : BoxD st 4 [.imm .nils, .imm .nils]
  b5 : BoxD st 5 us
  lk : LkAt st.H p own l qs
  fr : ∀ j, j ∉ own → st.H.get j = H1.get j
  hn : n1 ≤ st.n
  al : ∀ j, j < l.rts.length → nth qs j = if j < i then stepF l os ls j (nth rs j) else nth rs j
theorem loopCy0 {d : Nat} (hd : 9 ≤ d) {p : Nat} {own : List Nat} {l : Lo} {os : List Bool} {ls : List Int} {rs : List Rst} (ok : LoOk l) (is : ISL l) {ov lv : IV} (io : InOk ov lv os ls) (mi : MI l os ls) (ro : ∀ r, r < l.rts.length → RsOk l r (nth rs r))
    {us : List DV} {H1 : PT HB} {n1 : Nat} (hpn : p < n1) {ks : List Kf} {st : St} {Q : Ex → St → Prop} (h : ICy p own l os ls rs ov lv us H1 n1 0 rs st)
    (hk : ∀ st' qs, ICy p own l os ls rs ov lv us H1 n1 l.rts.length qs st' → Bk DG (K DG d) 0 (.exit 0) ks st' Q) : Wp DG (K DG d) 0 D.l80_0 ks st Q := by
  have hrb := rb3
  obtain ⟨d, rfl⟩ : ∃ d', d = d' + 1 := ⟨d - 1, by omega⟩
  refine dw_loop (N := l.rts.length) (small ok.lr) (fun i st => ∃ qs, ICy p own l os ls rs ov lv us H1 n1 i qs st) (fun e st' => e = .exit 0 ∧ ∃ qs, ICy p own l os ls rs ov lv us H1 n1 l.rts.length qs st') (fun i st hle hI => ?_) ⟨rs, h⟩ (fun e s' h => by obtain ⟨rfl, qs, h⟩ := h; exact hk s' qs h)
  obtain ⟨qs, h0, h28, h29, ⟨i3, h3, L3⟩, ⟨i4, h4, L4⟩, ⟨i5, h5, L5⟩, lk, fr, hn, al⟩ := hI
  by_cases hi : i < l.rts.length
  · have hi1 : (i : Int) < l.rts.length := by omega
    have hi' := ilt_t hi1
    have hw8 : IntKind.i64.wrap ((i : Int) + 1) = (i : Int) + 1 := wr_succ hi ok.lr
    have eqi : nth qs i = nth rs i := by rw [al i hi, if_neg (by omega)]
    obtain ⟨n2, e2, hn2⟩ := step_run (d := d) (by omega) ok is lk io mi hi (by rw [eqi]; exact ro i hi) (n := st.n) (lo := st.n) (by omega)
    obtain ⟨x, k1, k2, k3, k4⟩ := lk
    obtain ⟨id, rfl, rfl, hrs⟩ := k2.sl (by omega)
    have iy := fun {n : Nat} => idx_hp (h := st.H.get) (n := n) (id := id) (row := 0) (len := qs.length) (cap := qs.length) hrs rfl (k := .i64) (z := (i : Int)) (by omega) (by omega)
    have hrow : (qs.map rowRS)[i]? = some (rowRS (nth qs i)) := by rw [List.getElem?_map, nth_get (by omega)]; rfl
    have hset := set_lk k1 k3 k4 (by omega) (stepF l os ls i (nth qs i)) (r := i)
    have hal : ∀ j, j < l.rts.length → nth (qs.set i (stepF l os ls i (nth qs i))) j = if j < i + 1 then stepF l os ls j (nth rs j) else nth rs j := fun j hj => by
      by_cases hij : i = j
      · subst hij
        rw [if_pos (by omega), ← eqi]
        simp [nth, k4, hi]
      · have : nth (qs.set i (stepF l os ls i (nth qs i))) j = nth qs j := by simp [nth, List.getD, List.getElem?_set, hij]
        rw [this, al j hj]
        by_cases hji : j < i
        · rw [if_pos hji, if_pos (by omega)]
        · rw [if_neg hji, if_neg (by omega)]
    generalize qs.set i (stepF l os ls i (nth qs i)) = ws at hset hal
    generalize hrr : qs.map rowRS = rows at hrs hrow hset
    generalize stepF l os ls i (nth qs i) = y at *
    generalize nth qs i = w at *
    simp only [Int.toNat_natCast, Nat.zero_add] at iy
    generalize hQ : (fun (e : Ex) (s' : St) => _) = Q'
    simp only [D.l80_0b]
    simp [h0, h28, h29, h3, L3, h4, L4, h5, L5, hi', hw8, e2, k1, hrs, iy, hrow, rowRS, io.o.scal, io.l.scal, evParts, lay, B6, B7]
    subst hQ
    refine .inl ⟨rfl, hi, ws, by simp [PT.get_put], by simp [PT.get_put], by simp [PT.get_put], ⟨i3, by simp [PT.get_put], by simp [PT.get_put]⟩, ⟨i4, by simp [PT.get_put], by simp [PT.get_put]⟩, ⟨i5, by simp [PT.get_put], by simp [PT.get_put]⟩, hset, fun j hj => ?_, by simp; omega, hal⟩
    have := fr j hj
    simp at hj
    simp [PT.get_put, hj, this]
  · obtain rfl : i = l.rts.length := by omega
    generalize hQ : (fun (e : Ex) (s' : St) => _) = Q'
    simp only [D.l80_0b]
    simp [h0, h28, h29, h3, L3, h4, L4, h5, L5, B6, B7]
    subst hQ
    exact .inr ⟨nofun, rfl, qs, by simp [PT.get_put, h0], by simp [PT.get_put, h28], by simp [PT.get_put, h29], ⟨i3, by simp [PT.get_put, h3], by simp [PT.get_put, L3]⟩, ⟨i4, by simp [PT.get_put, h4], by simp [PT.get_put, L4]⟩, ⟨i5, by simp [PT.get_put, h5], by simp [PT.get_put, L5]⟩, lk, fr, hn, al⟩
end Go.Proofs.YtnpcgejfkonfdabGreatDoor.D

-- K11
set_option linter.unusedVariables false
set_option linter.unusedSimpArgs false
set_option maxHeartbeats 16000000
namespace Go.Proofs.YtnpcgejfkonfdabGreatDoor.D
open Go Go.PM Go.Lib
def rowI (z : Int) : List DV := [.imm (.int .i64 z)]
def DrAt (l : Lo) (rs : List Rst) (os : List Bool) (ls : List Int) (q : Nat) (z : Int) : Prop :=
  ∃ r x, r < l.rts.length ∧ (nth rs r).mode = 1 ∧ x ∈ nd (nth l.rts r) ∧ x.pt = (q : Int) ∧ z = pos x ∧ ¬ nth ls q = z ∧ nth os (nth l.pts q).sec.toNat = false ∧ (hol l rs (nth l.pts q).sec < 0 ∨ hol l rs (nth l.pts q).sec = (r : Int))
def DrOk (l : Lo) (rs : List Rst) (os : List Bool) (ls : List Int) (zs : List Int) : Prop := zs.length = l.pts.length ∧ ∀ q, q < l.pts.length → nth zs q = 0 ∨ DrAt l rs os ls q (nth zs q)
theorem DrOk.put {l : Lo} {rs : List Rst} {os : List Bool} {ls zs : List Int} (h : DrOk l rs os ls zs) {q : Nat} {z : Int} (hz : DrAt l rs os ls q z) : DrOk l rs os ls (zs.set q z) := by
  refine ⟨by simp [h.1], fun k hk => ?_⟩
  by_cases hq : q = k
  · subst hq
    right
    have : nth (zs.set q z) q = z := by simp [nth, h.1, hk]
    rw [this]; exact hz
  · have : nth (zs.set q z) k = nth zs k := by simp [nth, List.getD, List.getElem?_set, hq]
    rw [this]; exact h.2 k hk
/-- Rounds of a function. -/
def it {α : Type} (f : Nat → α → α) (z : α) : Nat → α
  | 0 => z
  | i + 1 => f i (it f z i)
theorem it_ind {α : Type} {f : Nat → α → α} {z : α} {P : α → Prop} (h0 : P z) : ∀ n, (∀ i x, i < n → P x → P (f i x)) → P (it f z n)
  | 0, _ => h0
  | n + 1, h => h n _ (by omega) (it_ind h0 n fun i x hi => h i x (by omega))
theorem it_congr {α : Type} {f g : Nat → α → α} {z : α} : ∀ n, (∀ i x, i < n → f i x = g i x) → it f z n = it g z n
  | 0, _ => rfl
  | n + 1, h => by
    show f n (it f z n) = g n (it g z n)
    rw [it_congr n fun i x hi => h i x (by omega), h n _ (by omega)]
/-- Is a need of a route driven? -/
def drC (l : Lo) (rs : List Rst) (os : List Bool) (ls : List Int) (r : Nat) (x : Need) : Prop := ¬ nth ls x.pt.toNat = pos x ∧ nth os (nth l.pts x.pt.toNat).sec.toNat = false ∧ (hol l rs (nth l.pts x.pt.toNat).sec < 0 ∨ hol l rs (nth l.pts x.pt.toNat).sec = (r : Int))
noncomputable def drN (l : Lo) (rs : List Rst) (os : List Bool) (ls : List Int) (r : Nat) (i : Nat) (zs : List Int) : List Int := bif dec (drC l rs os ls r (nth (nd (nth l.rts r)) i)) then zs.set (nth (nd (nth l.rts r)) i).pt.toNat (pos (nth (nd (nth l.rts r)) i)) else zs
noncomputable def drR (l : Lo) (rs : List Rst) (os : List Bool) (ls : List Int) (r : Nat) (zs : List Int) : List Int := bif dec ((nth rs r).mode = 1) then it (drN l rs os ls r) zs (nd (nth l.rts r)).length else zs
/-- What points are driven. -/
noncomputable def drF (l : Lo) (rs : List Rst) (os : List Bool) (ls : List Int) : List Int := it (drR l rs os ls) (List.replicate l.pts.length 0) l.rts.length
theorem drF_ok {l : Lo} (is : ISL l) {rs : List Rst} {os : List Bool} {ls : List Int} : DrOk l rs os ls (drF l rs os ls) := by
  refine it_ind (P := DrOk l rs os ls) ⟨by simp, fun q hq => .inl (by simp [nth, hq])⟩ _ fun r x hr hx => ?_
  unfold drR
  by_cases hm : (nth rs r).mode = 1
  · rw [dec_t hm]
    refine it_ind (P := DrOk l rs os ls) hx _ fun i y hi hy => ?_
    unfold drN
    have hmem := nth_mem hi
    generalize nth (nd (nth l.rts r)) i = w at *
    by_cases hc : drC l rs os ls r w
    · rw [dec_t hc]
      obtain ⟨e1, e2, e3⟩ := hc
      exact hy.put ⟨r, w, hr, hm, hmem, by have := (nd_in is hr hmem).1; omega, rfl, e1, e2, e3⟩
    · rw [dec_f hc]; exact hy
  · rw [dec_f hm]; exact hx
structure ID1 (p : Nat) (l : Lo) (rs : List Rst) (os : List Bool) (ls : List Int) (ov lv nv : IV) (sb xr : DV) (a : Nat) (H1 : PT HB) (n0 r : Nat) (z0 : List Int) (i : Nat) (zs : List Int) (st : St) : Prop where
  h0 : st.T.get 0 = some (.ptr p 0 0)
  b4 : BoxD st 4 [.imm ov, .imm lv]
  b5 : BoxD st 5 [.sl a 0 l.pts.length l.pts.length, sb]
  h6 : st.T.get 6 = some (.imm (.int .i64 r))
  h15 : st.T.get 15 = some xr
  h16 : st.T.get 16 = some (.imm (.int .i64 l.rts.length))
  h17 : st.T.get 17 = some (.imm (.int .i64 r))
  h30 : st.T.get 30 = some (.imm nv)
  h31 : st.T.get 31 = some (.imm (.int .i64 (nd (nth l.rts r)).length))
  h32 : st.T.get 32 = some (.imm (.int .i64 i))
  ha : st.H.get a = some ⟨1, zs.map rowI⟩
  fr : ∀ j, j ≠ a → st.H.get j = H1.get j
  hn : n0 ≤ st.n
  dr : zs.length = l.pts.length ∧ zs = it (drN l rs os ls r) z0 i
theorem loopD1 {d : Nat} (hd : 9 ≤ d) {p : Nat} {own : List Nat} {l : Lo} {rs : List Rst} (ok : LoOk l) (is : ISL l) {H1 : PT HB} (lk : LkAt H1 p own l rs) (go : GoneOk l rs) {ov lv : IV} {os : List Bool} {ls : List Int} (io : InOk ov lv os ls) (mi : MI l os ls) {a n0 : Nat} (hna : a ∉ p :: own) {sb : DV}
    {r : Nat} (hr : r < l.rts.length) (hm : (nth rs r).mode = 1) {nv : IV} (hv : Sl 2 nv ((nd (nth l.rts r)).map ivN)) {xr : DV} {z0 : List Int} {ks : List Kf} {st : St} {Q : Ex → St → Prop} (h : ID1 p l rs os ls ov lv nv sb xr a H1 n0 r z0 0 z0 st)
    (hk : ∀ st' zs', ID1 p l rs os ls ov lv nv sb xr a H1 n0 r z0 (nd (nth l.rts r)).length zs' st' → Bk DG (K DG d) 0 (.exit 2) ks st' Q) : Wp DG (K DG d) 0 D.l130_1 ks st Q := by
  have hrb := rb3
  obtain ⟨d, rfl⟩ : ∃ d', d = d' + 1 := ⟨d - 1, by omega⟩
  have hnl : (nd (nth l.rts r)).length ≤ reachBytes := by have := is.few r hr; simp [nd]; omega
  have p5 := is.p2
  refine dw_loop (N := (nd (nth l.rts r)).length) (small hnl) (fun i st => ∃ ws, ID1 p l rs os ls ov lv nv sb xr a H1 n0 r z0 i ws st) (fun e st' => e = .exit 2 ∧ ∃ ws, ID1 p l rs os ls ov lv nv sb xr a H1 n0 r z0 (nd (nth l.rts r)).length ws st') (fun i st hle hI => ?_) ⟨z0, h⟩ (fun e s' h => by obtain ⟨rfl, zs, h⟩ := h; exact hk s' zs h)
  obtain ⟨zs, g0, ⟨i4, g4, L4⟩, ⟨i5, g5, L5⟩, g6, g15, g16, g17, g30, g31, g32, ha, fr, hn, dr⟩ := hI
  have lk1 : LkAt st.H p own l rs := lk.mono fun j hj => fr j fun e => hna (e ▸ hj)
  have lk0 := lk1
  obtain ⟨x, h1, h2, h3, h4⟩ := lk1
  by_cases hi : i < (nd (nth l.rts r)).length
  · have hi1 : (i : Int) < (nd (nth l.rts r)).length := by omega
    have hi' := ilt_t hi1
    have hw8 : IntKind.i64.wrap ((i : Int) + 1) = (i : Int) + 1 := wr_succ hi hnl
    have ix := fun {h : Nat → Option HB} {n : Nat} => idx_sl (h := h) (n := n) hv (by omega) (k := .i64) (z := (i : Int)) (by omega) hi1
    have hmem := nth_mem hi
    simp only [Int.toNat_natCast] at ix
    generalize hgx : nth (nd (nth l.rts r)) i = y at *
    have hpt := nd_in is hr hmem
    have hsec := sec_in is hr hmem
    have ip := fun {h : Nat → Option HB} {n : Nat} => idx_in (h := h) (n := n) ok.p (by omega) (k := .i64) (z := y.pt) hpt
    have io' := fun {h : Nat → Option HB} {n : Nat} => idx_in (h := h) (n := n) io.o (by omega) (k := .i64) (z := secOf l y) (by rw [mi.1]; exact hsec)
    have hl := lies_bl (D := d + 1) (by omega) io (x := y) (by rw [mi.2.1]; exact hpt)
    have hpo := position_bl (D := d + 1) (by omega) y.pt y.rev
    have ho := fun n lo => Holder_run (d := d) (by omega) ok lk0 go is.p5 (secOf l y) (n := n) (lo := lo)
    have iy := fun {n : Nat} => idx_hp (h := st.H.get) (n := n) (id := a) (row := 0) (len := l.pts.length) (cap := l.pts.length) ha rfl (k := .i64) (z := y.pt) hpt.1 hpt.2
    have hlt : y.pt.toNat < (zs.map rowI).length := by have := hpt.1; have := hpt.2; simp [dr.1]; omega
    have hrow : (zs.map rowI)[y.pt.toNat]? = some (rowI (nth zs y.pt.toNat)) := by
      rw [List.getElem?_map, nth_get (by simpa using hlt)]; rfl
    have hset : (zs.map rowI).set y.pt.toNat (rowI (pos y)) = (zs.set y.pt.toNat (pos y)).map rowI := by simp [List.map_set]
    have dr' := dr
    have hput : drC l rs os ls r y → (zs.set y.pt.toNat (pos y)).length = l.pts.length ∧ zs.set y.pt.toNat (pos y) = it (drN l rs os ls r) z0 (i + 1) := fun e =>
      ⟨by simp [dr.1], by show _ = drN l rs os ls r i (it (drN l rs os ls r) z0 i); rw [← dr.2]; unfold drN; rw [hgx, dec_t e]; rfl⟩
    have hkeep : ¬ drC l rs os ls r y → zs.length = l.pts.length ∧ zs = it (drN l rs os ls r) z0 (i + 1) := fun e =>
      ⟨dr.1, by show _ = drN l rs os ls r i (it (drN l rs os ls r) z0 i); rw [← dr.2]; unfold drN; rw [hgx, dec_f e]; rfl⟩
    generalize hws : zs.set y.pt.toNat (pos y) = ws at hset hput
    obtain ⟨n2, e2, hn2⟩ := ho (st.n + 1) (st.n + 1)
    simp only [secOf] at io' e2
    generalize hrr : zs.map rowI = rows at ha hrow hlt hset
    simp only [Nat.zero_add] at iy
    generalize hQ : (fun (e : Ex) (s' : St) => _) = Q'
    simp only [D.l130_1b]
    by_cases hly : nth ls y.pt.toNat = pos y
    · rw [dec_t hly] at hl
      have dr := hkeep fun e => e.1 hly
      simp [g0, g4, L4, g5, L5, g6, g15, g16, g17, g30, g31, g32, hi', hw8, ix, ip, h1, hl, e2, ivN, ivP, io.o.scal, io.l.scal, B6, B7]
      subst hQ
      exact .inl ⟨rfl, hi, zs, by simp [PT.get_put], ⟨i4, by simp [PT.get_put], by simp [PT.get_put]⟩, ⟨i5, by simp [PT.get_put], by simp [PT.get_put]⟩, by simp [PT.get_put], by simp [PT.get_put], by simp [PT.get_put], by simp [PT.get_put], by simp [PT.get_put], by simp [PT.get_put], by simp [PT.get_put], by rw [hrr]; exact ha, fr, by simp; omega, dr⟩
    · rw [dec_f hly] at hl
      cases hoc : nth os (nth l.pts y.pt.toNat).sec.toNat with
      | true =>
        have dr := hkeep fun e => by rw [e.2.1] at hoc; cases hoc
        simp [g0, g4, L4, g5, L5, g6, g15, g16, g17, g30, g31, g32, hi', hw8, ix, ip, io', hoc, h1, hl, e2, ivN, ivP, ivB1, io.o.scal, io.l.scal, B6, B7]
        subst hQ
        exact .inl ⟨rfl, hi, zs, by simp [PT.get_put], ⟨i4, by simp [PT.get_put], by simp [PT.get_put]⟩, ⟨i5, by simp [PT.get_put], by simp [PT.get_put]⟩, by simp [PT.get_put], by simp [PT.get_put], by simp [PT.get_put], by simp [PT.get_put], by simp [PT.get_put], by simp [PT.get_put], by simp [PT.get_put], by rw [hrr]; exact ha, fr, by simp; omega, dr⟩
      | false =>
        by_cases hho : hol l rs (nth l.pts y.pt.toNat).sec < 0
        · have hj := ilt_t hho
          have hd := hput ⟨hly, hoc, .inl hho⟩
          simp [g0, g4, L4, g5, L5, g6, g15, g16, g17, g30, g31, g32, hi', hw8, ix, ip, io', iy, ha, hrow, hpo, hoc, h1, hl, e2, hj, ivN, ivP, ivB1, rowI, io.o.scal, io.l.scal, evParts, lay, B6, B7]
          subst hQ
          refine .inl ⟨rfl, hi, ws, by simp [PT.get_put], ⟨i4, by simp [PT.get_put], by simp [PT.get_put]⟩, ⟨i5, by simp [PT.get_put], by simp [PT.get_put]⟩, by simp [PT.get_put], by simp [PT.get_put], by simp [PT.get_put], by simp [PT.get_put], by simp [PT.get_put], by simp [PT.get_put], by simp [PT.get_put], ?_, ?_, by simp; omega, hd⟩
          · rw [← hset]; simp [PT.get_put, rowI]
          · intro j hj; simp [PT.get_put, hj]; exact fr j hj
        · have hj := ilt_f (show 0 ≤ hol l rs (nth l.pts y.pt.toNat).sec by omega)
          by_cases hhr : hol l rs (nth l.pts y.pt.toNat).sec = (r : Int)
          · have hd := hput ⟨hly, hoc, .inr hhr⟩
            simp [g0, g4, L4, g5, L5, g6, g15, g16, g17, g30, g31, g32, hi', hw8, ix, ip, io', iy, ha, hrow, hpo, hoc, h1, hl, e2, hj, hhr, ivN, ivP, ivB1, rowI, io.o.scal, io.l.scal, evParts, lay, B6, B7]
            subst hQ
            refine .inl ⟨rfl, hi, ws, by simp [PT.get_put], ⟨i4, by simp [PT.get_put], by simp [PT.get_put]⟩, ⟨i5, by simp [PT.get_put], by simp [PT.get_put]⟩, by simp [PT.get_put], by simp [PT.get_put], by simp [PT.get_put], by simp [PT.get_put], by simp [PT.get_put], by simp [PT.get_put], by simp [PT.get_put], ?_, ?_, by simp; omega, hd⟩
            · rw [← hset]; simp [PT.get_put, rowI]
            · intro j hj; simp [PT.get_put, hj]; exact fr j hj
          · have dr := hkeep fun e => e.2.2.elim hho hhr
            simp [g0, g4, L4, g5, L5, g6, g15, g16, g17, g30, g31, g32, hi', hw8, ix, ip, io', hoc, h1, hl, e2, hj, hhr, ivN, ivP, ivB1, io.o.scal, io.l.scal, B6, B7]
            subst hQ
            exact .inl ⟨rfl, hi, zs, by simp [PT.get_put], ⟨i4, by simp [PT.get_put], by simp [PT.get_put]⟩, ⟨i5, by simp [PT.get_put], by simp [PT.get_put]⟩, by simp [PT.get_put], by simp [PT.get_put], by simp [PT.get_put], by simp [PT.get_put], by simp [PT.get_put], by simp [PT.get_put], by simp [PT.get_put], by rw [hrr]; exact ha, fr, by simp; omega, dr⟩
  · obtain rfl : i = (nd (nth l.rts r)).length := by omega
    generalize hQ : (fun (e : Ex) (s' : St) => _) = Q'
    simp only [D.l130_1b]
    simp [g0, g4, L4, g5, L5, g6, g15, g16, g17, g30, g31, g32, B6, B7]
    subst hQ
    exact .inr ⟨nofun, rfl, zs, by simp [PT.get_put, g0], ⟨i4, by simp [PT.get_put, g4], by simp [PT.get_put, L4]⟩, ⟨i5, by simp [PT.get_put, g5], by simp [PT.get_put, L5]⟩, by simp [PT.get_put, g6], by simp [PT.get_put, g15], by simp [PT.get_put, g16], by simp [PT.get_put, g17], by simp [PT.get_put, g30], by simp [PT.get_put, g31], by simp [PT.get_put, g32], ha, fr, hn, dr⟩
end Go.Proofs.YtnpcgejfkonfdabGreatDoor.D

-- K12
set_option linter.unusedVariables false
set_option linter.unusedSimpArgs false
set_option maxHeartbeats 16000000
namespace Go.Proofs.YtnpcgejfkonfdabGreatDoor.D
open Go Go.PM Go.Lib
structure ID0 (p : Nat) (l : Lo) (rs : List Rst) (os : List Bool) (ls : List Int) (ov lv : IV) (sb xr : DV) (a : Nat) (H1 : PT HB) (n0 : Nat) (i : Nat) (zs : List Int) (st : St) : Prop where
  h0 : st.T.get 0 = some (.ptr p 0 0)
  b4 : BoxD st 4 [.imm ov, .imm lv]
  b5 : BoxD st 5 [.sl a 0 l.pts.length l.pts.length, sb]
  h15 : st.T.get 15 = some xr
  h16 : st.T.get 16 = some (.imm (.int .i64 l.rts.length))
  h17 : st.T.get 17 = some (.imm (.int .i64 i))
  ha : st.H.get a = some ⟨1, zs.map rowI⟩
  fr : ∀ j, j ≠ a → st.H.get j = H1.get j
  hn : n0 ≤ st.n
  dr : zs.length = l.pts.length ∧ zs = it (drR l rs os ls) (List.replicate l.pts.length 0) i
theorem loopD0 {d : Nat} (hd : 9 ≤ d) {p : Nat} {own : List Nat} {l : Lo} {rs : List Rst} (ok : LoOk l) (is : ISL l) {H1 : PT HB} {xr : DV} (hp : H1.get p = some ⟨5, [[.imm l.sv, .imm l.pv, .imm l.gv, .imm l.rv, xr]]⟩) (hr0 : RsAt H1 xr own rs) (hpo : p ∉ own) (hrl : rs.length = l.rts.length) (go : GoneOk l rs) {ov lv : IV} {os : List Bool} {ls : List Int} (io : InOk ov lv os ls) (mi : MI l os ls) {a n0 : Nat} (hna : a ∉ p :: own) {sb : DV}
    {zs : List Int} {ks : List Kf} {st : St} {Q : Ex → St → Prop} (h : ID0 p l rs os ls ov lv sb xr a H1 n0 0 zs st)
    (hk : ∀ st' zs', ID0 p l rs os ls ov lv sb xr a H1 n0 l.rts.length zs' st' → Bk DG (K DG d) 0 (.exit 0) ks st' Q) : Wp DG (K DG d) 0 D.l130_0 ks st Q := by
  have hrb := rb3
  have lk : LkAt H1 p own l rs := ⟨xr, hp, hr0, hpo, hrl⟩
  refine dw_loop (N := l.rts.length) (small ok.lr) (fun i st => ∃ zs, ID0 p l rs os ls ov lv sb xr a H1 n0 i zs st) (fun e st' => e = .exit 0 ∧ ∃ zs, ID0 p l rs os ls ov lv sb xr a H1 n0 l.rts.length zs st') (fun i st hle hI => ?_) ⟨zs, h⟩ (fun e s' h => by obtain ⟨rfl, zs, h⟩ := h; exact hk s' zs h)
  obtain ⟨zs, g0, ⟨i4, g4, L4⟩, ⟨i5, g5, L5⟩, g15, g16, g17, ha, fr, hn, dr⟩ := hI
  by_cases hi : i < l.rts.length
  · have hi1 : (i : Int) < l.rts.length := by omega
    have hi' := ilt_t hi1
    have hw8 : IntKind.i64.wrap ((i : Int) + 1) = (i : Int) + 1 := wr_succ hi ok.lr
    obtain ⟨id, rfl, rfl, hrs⟩ := hr0.sl (by omega)
    have hap : ¬ p = a := fun e => hna (by simp [e])
    have hia : ¬ id = a := fun e => hna (by simp [e])
    have hrs' : st.H.get id = some ⟨4, rs.map rowRS⟩ := by rw [fr id hia]; exact hrs
    have hp' := hp
    rw [← fr p hap] at hp'
    obtain ⟨nv, en, hv⟩ := Needs_bl (D := d) (by omega) ok hi (is.few i hi).1 (is.few i hi).2
    have vl := hv.len
    simp only [List.length_map] at vl
    have iy := fun {n : Nat} => idx_hp (h := st.H.get) (n := n) (id := id) (row := 0) (len := rs.length) (cap := rs.length) hrs' rfl (k := .i64) (z := (i : Int)) (by omega) (by omega)
    have hrow : (rs.map rowRS)[i]? = some (rowRS (nth rs i)) := by rw [List.getElem?_map, nth_get (by omega)]; rfl
    generalize hrr : rs.map rowRS = rows at hrs' hrow
    simp only [Int.toNat_natCast, Nat.zero_add] at iy
    generalize hQ : (fun (e : Ex) (s' : St) => _) = Q'
    simp only [D.l130_0b]
    by_cases hm : (nth rs i).mode = 1
    · simp [g0, g4, L4, g5, L5, g15, g16, g17, hi', hw8, iy, hp', hrs', hrow, hm, en, vl, rowRS, evParts, lay, B6, B7]
      refine loopD1 (n0 := n0) (H1 := H1) (nv := nv) (ov := ov) (lv := lv) (sb := sb) (a := a) (xr := .sl id 0 rs.length rs.length) (z0 := zs) hd ok is lk go io mi hna hi hm hv ⟨by simp [PT.get_put], ⟨i4, by simp [PT.get_put], by simp [PT.get_put]⟩, ⟨i5, by simp [PT.get_put], by simp [PT.get_put]⟩, by simp [PT.get_put], by simp [PT.get_put], by simp [PT.get_put], by simp [PT.get_put], by simp [PT.get_put], by simp [PT.get_put], by simp [PT.get_put], ha, fr, by simp; omega, dr.1, rfl⟩ ?_
      rintro s2 ws ⟨f0, ⟨j4, f4, M4⟩, ⟨j5, f5, M5⟩, f6, f15, f16, f17, f30, f31, f32, fa, ffr, fn, fdr⟩
      simp [f0, f4, M4, f5, M5, f6, f15, f16, f17, f30, f31, f32, hw8, B6, B7]
      subst hQ
      exact .inl ⟨rfl, hi, ws, by simp [PT.get_put, f0], ⟨j4, by simp [PT.get_put, f4], by simp [PT.get_put, M4]⟩, ⟨j5, by simp [PT.get_put, f5], by simp [PT.get_put, M5]⟩, by simp [PT.get_put, f15], by simp [PT.get_put, f16], by simp [PT.get_put], fa, ffr, fn, fdr.1, by show _ = drR l rs os ls i (it (drR l rs os ls) _ i); rw [← dr.2]; unfold drR; rw [dec_t hm]; exact fdr.2⟩
    · simp [g0, g4, L4, g5, L5, g15, g16, g17, hi', hw8, iy, hp', hrs', hrow, hm, rowRS, evParts, lay, B6, B7]
      subst hQ
      exact .inl ⟨rfl, hi, zs, by simp [PT.get_put], ⟨i4, by simp [PT.get_put], by simp [PT.get_put]⟩, ⟨i5, by simp [PT.get_put], by simp [PT.get_put]⟩, by simp [PT.get_put], by simp [PT.get_put], by simp [PT.get_put], ha, fr, by simp; omega, dr.1, by show _ = drR l rs os ls i (it (drR l rs os ls) _ i); rw [← dr.2]; unfold drR; rw [dec_f hm]; rfl⟩
  · obtain rfl : i = l.rts.length := by omega
    generalize hQ : (fun (e : Ex) (s' : St) => _) = Q'
    simp only [D.l130_0b]
    simp [g0, g4, L4, g5, L5, g15, g16, g17, B6, B7]
    subst hQ
    exact .inr ⟨nofun, rfl, zs, by simp [PT.get_put, g0], ⟨i4, by simp [PT.get_put, g4], by simp [PT.get_put, L4]⟩, ⟨i5, by simp [PT.get_put, g5], by simp [PT.get_put, L5]⟩, by simp [PT.get_put, g15], by simp [PT.get_put, g16], by simp [PT.get_put, g17], ha, fr, hn, dr⟩
theorem drives_run {d : Nat} (hd : 9 ≤ d) {H : PT HB} {p : Nat} {own : List Nat} {l : Lo} {rs : List Rst} (ok : LoOk l) (is : ISL l) (lk : LkAt H p own l rs) (go : GoneOk l rs) {ov lv : IV} {os : List Bool} {ls : List Int} (io : InOk ov lv os ls) (mi : MI l os ls) {a b c n : Nat} (hna : a ∉ p :: own) (ha : H.get a = some ⟨1, (List.replicate l.pts.length 0).map rowI⟩) :
    Fe (K DG (d + 1) 130 [.ptr p 0 0, inD ov lv, .agg [.sl a 0 l.pts.length l.pts.length, .sl b 0 c c]] H n 0) (fun v H' n' => n ≤ n' ∧ (∀ j, j ≠ a → H'.get j = H.get j) ∧ H'.get a = some ⟨1, (drF l rs os ls).map rowI⟩) := by
  obtain ⟨x, h1, h2, h3, h4⟩ := lk
  have xl := h2.len
  rw [h4] at xl
  rw [D.k130]
  refine fn_dw rfl ?_
  simp [io.o.scal, io.l.scal, h1, xl, B6, B7]
  refine loopD0 (n0 := n) (H1 := H) (ov := ov) (lv := lv) (sb := .sl b 0 c c) (a := a) (xr := x) (zs := List.replicate l.pts.length 0) hd ok is h1 h2 h3 h4 go io mi hna ⟨by simp [PT.get_put], ⟨n, by simp [PT.get_put], by simp [PT.get_put]⟩, ⟨n + 1, by simp [PT.get_put], by simp [PT.get_put]⟩, by simp [PT.get_put], by simp [PT.get_put], by simp [PT.get_put], ha, fun j hj => rfl, by simp; omega, by simp, rfl⟩ ?_
  rintro s2 ws ⟨f0, ⟨j4, f4, M4⟩, ⟨j5, f5, M5⟩, f15, f16, f17, fa, ffr, fn, fdr⟩
  simp [f0, f4, M4, f5, M5, f15, f16, f17, B6, B7]
  exact ⟨fn, fun j hj => ffr j hj, by rw [fdr.2] at fa; exact fa⟩
end Go.Proofs.YtnpcgejfkonfdabGreatDoor.D

-- K13
set_option linter.unusedVariables false
set_option linter.unusedSimpArgs false
set_option maxHeartbeats 16000000
namespace Go.Proofs.YtnpcgejfkonfdabGreatDoor.D
open Go Go.PM Go.Lib
def rowB (z : Bool) : List DV := [.imm (.bool z)]
def PrAt (l : Lo) (rs : List Rst) (os : List Bool) (ls : List Int) (s : Nat) : Prop := ∃ r, r < l.rts.length ∧ (nth rs r).mode = 2 ∧ (nth l.rts r).fr = (s : Int) ∧ (¬ ∃ z ∈ (nth l.rts r).path, nth os z.toNat = true) ∧ Lie l ls r
def PrOk (l : Lo) (rs : List Rst) (os : List Bool) (ls : List Int) (bs : List Bool) : Prop := bs.length = l.sigs.length ∧ ∀ s, s < l.sigs.length → nth bs s = true → PrAt l rs os ls s
theorem PrOk.put {l : Lo} {rs : List Rst} {os : List Bool} {ls : List Int} {bs : List Bool} (h : PrOk l rs os ls bs) {q : Nat} (hz : PrAt l rs os ls q) : PrOk l rs os ls (bs.set q true) := by
  refine ⟨by simp [h.1], fun k hk ht => ?_⟩
  by_cases hq : q = k
  · subst hq; exact hz
  · have : nth (bs.set q true) k = nth bs k := by simp [nth, List.getD, List.getElem?_set, hq]
    rw [this] at ht
    exact h.2 k hk ht
def prC (l : Lo) (rs : List Rst) (os : List Bool) (ls : List Int) (r : Nat) : Prop := (nth rs r).mode = 2 ∧ (¬ ∃ z ∈ (nth l.rts r).path, nth os z.toNat = true) ∧ Lie l ls r
noncomputable def prR (l : Lo) (rs : List Rst) (os : List Bool) (ls : List Int) (r : Nat) (bs : List Bool) : List Bool := bif dec (prC l rs os ls r) then bs.set (nth l.rts r).fr.toNat true else bs
/-- What signals proceed. -/
noncomputable def prF (l : Lo) (rs : List Rst) (os : List Bool) (ls : List Int) : List Bool := it (prR l rs os ls) (List.replicate l.sigs.length false) l.rts.length
theorem prF_ok {l : Lo} (is : ISL l) {rs : List Rst} {os : List Bool} {ls : List Int} : PrOk l rs os ls (prF l rs os ls) := by
  refine it_ind (P := PrOk l rs os ls) ⟨by simp, fun s hs h => by simp [nth, hs] at h⟩ _ fun r x hr hx => ?_
  unfold prR
  by_cases hm : prC l rs os ls r
  · rw [dec_t hm]
    have hfr := (is.rr r hr).fr
    exact hx.put ⟨r, hr, hm.1, by have := hfr.1; omega, hm.2.1, hm.2.2⟩
  · rw [dec_f hm]; exact hx
structure ICp (p : Nat) (l : Lo) (rs : List Rst) (os : List Bool) (ls : List Int) (ov lv : IV) (sa xr : DV) (b : Nat) (H1 : PT HB) (n0 : Nat) (i : Nat) (bs : List Bool) (st : St) : Prop where
  h0 : st.T.get 0 = some (.ptr p 0 0)
  b3 : BoxD st 3 [.imm ov, .imm lv]
  b4 : BoxD st 4 [.imm .nils, .imm .nils]
  b5 : BoxD st 5 [sa, .sl b 0 l.sigs.length l.sigs.length]
  h50 : st.T.get 50 = some xr
  h51 : st.T.get 51 = some (.imm (.int .i64 l.rts.length))
  h52 : st.T.get 52 = some (.imm (.int .i64 i))
  hb : st.H.get b = some ⟨1, bs.map rowB⟩
  fr : ∀ j, j ≠ b → st.H.get j = H1.get j
  hn : n0 ≤ st.n
  pr : bs.length = l.sigs.length ∧ bs = it (prR l rs os ls) (List.replicate l.sigs.length false) i
theorem loopCy1 {d : Nat} (hd : 9 ≤ d) {p : Nat} {own : List Nat} {l : Lo} {rs : List Rst} (ok : LoOk l) (is : ISL l) {H1 : PT HB} {xr : DV} (hp : H1.get p = some ⟨5, [[.imm l.sv, .imm l.pv, .imm l.gv, .imm l.rv, xr]]⟩) (hr0 : RsAt H1 xr own rs) (hpo : p ∉ own) (hrl : rs.length = l.rts.length) {ov lv : IV} {os : List Bool} {ls : List Int} (io : InOk ov lv os ls) (mi : MI l os ls) {b n0 : Nat} (hnb : b ∉ p :: own) (hpn : p < n0) {a c : Nat}
    {bs : List Bool} {ks : List Kf} {st : St} {Q : Ex → St → Prop} (h : ICp p l rs os ls ov lv (.sl a 0 c c) xr b H1 n0 0 bs st)
    (hk : ∀ st' bs', ICp p l rs os ls ov lv (.sl a 0 c c) xr b H1 n0 l.rts.length bs' st' → Bk DG (K DG d) 0 (.exit 2) ks st' Q) : Wp DG (K DG d) 0 D.l80_1 ks st Q := by
  have hrb := rb3
  obtain ⟨d, rfl⟩ : ∃ d', d = d' + 1 := ⟨d - 1, by omega⟩
  have g6 := is.g2
  refine dw_loop (N := l.rts.length) (small ok.lr) (fun i st => ∃ bs, ICp p l rs os ls ov lv (.sl a 0 c c) xr b H1 n0 i bs st) (fun e st' => e = .exit 2 ∧ ∃ bs, ICp p l rs os ls ov lv (.sl a 0 c c) xr b H1 n0 l.rts.length bs st') (fun i st hle hI => ?_) ⟨bs, h⟩ (fun e s' h => by obtain ⟨rfl, bs, h⟩ := h; exact hk s' bs h)
  obtain ⟨bs, g0, ⟨i3, g3, L3⟩, ⟨i4, g4, L4⟩, ⟨i5, g5, L5⟩, g50, g51, g52, hb, fr, hn, pr⟩ := hI
  by_cases hi : i < l.rts.length
  · have hi1 : (i : Int) < l.rts.length := by omega
    have hi' := ilt_t hi1
    have hw8 : IntKind.i64.wrap ((i : Int) + 1) = (i : Int) + 1 := wr_succ hi ok.lr
    have lk : LkAt H1 p own l rs := ⟨xr, hp, hr0, hpo, hrl⟩
    have lk1 : LkAt st.H p own l rs := lk.mono fun j hj => fr j fun e => hnb (e ▸ hj)
    obtain ⟨id, rfl, rfl, hrs⟩ := hr0.sl (by omega)
    have hbp : ¬ p = b := fun e => hnb (by simp [e])
    have hib : ¬ id = b := fun e => hnb (by simp [e])
    have hrs' : st.H.get id = some ⟨4, rs.map rowRS⟩ := by rw [fr id hib]; exact hrs
    have hp' := hp
    rw [← fr p hbp] at hp'
    have rk := ok.or _ (nth_mem hi)
    have hfr := (is.rr i hi).fr
    obtain ⟨n2, Ha, ea, hn2⟩ := allLie_run (d := d) (by omega) ok is lk1 io mi hi (n := st.n + 1 + 1) (lo := st.n + 1 + 1) (by omega)
    have oc := isOcc_bl (D := d + 1) (by omega) io rk.p rk.lp fun z hz => by rw [mi.1]; exact path_in is hi hz
    have ix := fun {h : Nat → Option HB} {n : Nat} => idx_sl (h := h) (n := n) ok.r (by omega) (k := .i64) (z := (i : Int)) (by omega) hi1
    have iy := fun {n : Nat} => idx_hp (h := st.H.get) (n := n) (id := id) (row := 0) (len := rs.length) (cap := rs.length) hrs' rfl (k := .i64) (z := (i : Int)) (by omega) (by omega)
    have hrow : (rs.map rowRS)[i]? = some (rowRS (nth rs i)) := by rw [List.getElem?_map, nth_get (by omega)]; rfl
    have iz := fun {n : Nat} => idx_hp (h := st.H.get) (n := n) (id := b) (row := 0) (len := l.sigs.length) (cap := l.sigs.length) hb rfl (k := .i64) (z := (nth l.rts i).fr) hfr.1 hfr.2
    have hlt : (nth l.rts i).fr.toNat < bs.length := by have := hfr.1; have := hfr.2; rw [pr.1]; omega
    have hrob : (bs.map rowB)[(nth l.rts i).fr.toNat]? = some (rowB (nth bs (nth l.rts i).fr.toNat)) := by
      rw [List.getElem?_map, nth_get hlt]; rfl
    have hset : (bs.map rowB).set (nth l.rts i).fr.toNat (rowB true) = (bs.set (nth l.rts i).fr.toNat true).map rowB := by simp [List.map_set]
    have hput : (nth rs i).mode = 2 → (¬ ∃ z ∈ (nth l.rts i).path, nth os z.toNat = true) → Lie l ls i → (bs.set (nth l.rts i).fr.toNat true).length = l.sigs.length ∧ bs.set (nth l.rts i).fr.toNat true = it (prR l rs os ls) (List.replicate l.sigs.length false) (i + 1) := fun e1 e2 e3 =>
      ⟨by simp [pr.1], by show _ = prR l rs os ls i (it (prR l rs os ls) _ i); rw [← pr.2]; unfold prR; rw [dec_t ⟨e1, e2, e3⟩]; rfl⟩
    have hkeep : ¬ ((nth rs i).mode = 2 ∧ (¬ ∃ z ∈ (nth l.rts i).path, nth os z.toNat = true) ∧ Lie l ls i) → bs = it (prR l rs os ls) (List.replicate l.sigs.length false) (i + 1) := fun e => by
      show _ = prR l rs os ls i (it (prR l rs os ls) _ i); rw [← pr.2]; unfold prR; rw [dec_f (p := prC l rs os ls i) e]; rfl
    generalize bs.set (nth l.rts i).fr.toNat true = ws at hset hput
    generalize (∃ z ∈ (nth l.rts i).path, nth os z.toNat = true) = P at oc hput hkeep
    generalize Lie l ls i = R at ea hput hkeep
    generalize hrr : rs.map rowRS = rows at hrs' hrow
    generalize hrb : bs.map rowB = rowb at hb hrob hset
    simp only [Int.toNat_natCast, Nat.zero_add] at iy iz ix
    generalize hQ : (fun (e : Ex) (s' : St) => _) = Q'
    simp only [D.l80_1b]
    have old : ∀ s2 : St, s2.T.get 0 = some (.ptr p 0 0) → BoxD s2 3 [.imm ov, .imm lv] → BoxD s2 4 [.imm .nils, .imm .nils] → BoxD s2 5 [.sl a 0 c c, .sl b 0 l.sigs.length l.sigs.length] → s2.T.get 50 = some (.sl id 0 rs.length rs.length) → s2.T.get 51 = some (.imm (.int .i64 l.rts.length)) → s2.T.get 52 = some (.imm (.int .i64 ((i + 1 : Nat) : Int))) → s2.H = st.H → n0 ≤ s2.n → ¬ ((nth rs i).mode = 2 ∧ (¬ P) ∧ R) → ∃ bs, ICp p l rs os ls ov lv (.sl a 0 c c) (.sl id 0 rs.length rs.length) b H1 n0 (i + 1) bs s2 := fun s2 a1 a2 a3 a4 a5 a6 a7 a8 a9 b1 =>
      ⟨bs, a1, a2, a3, a4, a5, a6, a7, by rw [a8, hrb]; exact hb, by rw [a8]; exact fr, a9, pr.1, hkeep b1⟩
    by_cases hm : (nth rs i).mode = 2
    · by_cases hP : P
      · rw [dec_t hP] at oc
        simp [g0, g3, L3, g4, L4, g5, L5, g50, g51, g52, hi', hw8, ix, iy, hp', hrs', hrow, hm, oc, rowRS, ivRt, io.o.scal, io.l.scal, rk.p.scal, rk.q.scal, rk.f.scal, evParts, lay, B6, B7]
        subst hQ
        exact .inl ⟨rfl, hi, old _ (by simp [PT.get_put]) ⟨i3, by simp [PT.get_put], by simp [PT.get_put]⟩ ⟨i4, by simp [PT.get_put], by simp [PT.get_put]⟩ ⟨i5, by simp [PT.get_put], by simp [PT.get_put]⟩ (by simp [PT.get_put]) (by simp [PT.get_put]) (by simp [PT.get_put]) rfl (by simp; omega) (fun e => e.2.1 hP)⟩
      · rw [dec_f hP] at oc
        by_cases hR : R
        · rw [dec_t hR] at ea
          have hd := hput hm hP hR
          simp [g0, g3, L3, g4, L4, g5, L5, g50, g51, g52, hi', hw8, ix, iy, iz, hp', hrs', hrow, hb, hrob, hm, oc, ea, rowRS, rowB, ivRt, io.o.scal, io.l.scal, rk.p.scal, rk.q.scal, rk.f.scal, evParts, lay, B6, B7]
          subst hQ
          refine .inl ⟨rfl, hi, ws, by simp [PT.get_put], ⟨i3, by simp [PT.get_put], by simp [PT.get_put]⟩, ⟨i4, by simp [PT.get_put], by simp [PT.get_put]⟩, ⟨i5, by simp [PT.get_put], by simp [PT.get_put]⟩, by simp [PT.get_put], by simp [PT.get_put], by simp [PT.get_put], ?_, ?_, by simp; omega, hd⟩
          · rw [← hset]; simp [PT.get_put, rowB]
          · intro j hj; simp [PT.get_put, hj]; exact fr j hj
        · rw [dec_f hR] at ea
          simp [g0, g3, L3, g4, L4, g5, L5, g50, g51, g52, hi', hw8, ix, iy, hp', hrs', hrow, hm, oc, ea, rowRS, ivRt, io.o.scal, io.l.scal, rk.p.scal, rk.q.scal, rk.f.scal, evParts, lay, B6, B7]
          subst hQ
          exact .inl ⟨rfl, hi, old _ (by simp [PT.get_put]) ⟨i3, by simp [PT.get_put], by simp [PT.get_put]⟩ ⟨i4, by simp [PT.get_put], by simp [PT.get_put]⟩ ⟨i5, by simp [PT.get_put], by simp [PT.get_put]⟩ (by simp [PT.get_put]) (by simp [PT.get_put]) (by simp [PT.get_put]) rfl (by simp; omega) (fun e => hR e.2.2)⟩
    · simp [g0, g3, L3, g4, L4, g5, L5, g50, g51, g52, hi', hw8, ix, iy, hp', hrs', hrow, hm, rowRS, ivRt, io.o.scal, io.l.scal, rk.p.scal, rk.q.scal, rk.f.scal, evParts, lay, B6, B7]
      subst hQ
      exact .inl ⟨rfl, hi, old _ (by simp [PT.get_put]) ⟨i3, by simp [PT.get_put], by simp [PT.get_put]⟩ ⟨i4, by simp [PT.get_put], by simp [PT.get_put]⟩ ⟨i5, by simp [PT.get_put], by simp [PT.get_put]⟩ (by simp [PT.get_put]) (by simp [PT.get_put]) (by simp [PT.get_put]) rfl (by simp; omega) (fun e => hm e.1)⟩
  · obtain rfl : i = l.rts.length := by omega
    generalize hQ : (fun (e : Ex) (s' : St) => _) = Q'
    simp only [D.l80_1b]
    simp [g0, g3, L3, g4, L4, g5, L5, g50, g51, g52, B6, B7]
    subst hQ
    exact .inr ⟨nofun, rfl, bs, by simp [PT.get_put, g0], ⟨i3, by simp [PT.get_put, g3], by simp [PT.get_put, L3]⟩, ⟨i4, by simp [PT.get_put, g4], by simp [PT.get_put, L4]⟩, ⟨i5, by simp [PT.get_put, g5], by simp [PT.get_put, L5]⟩, by simp [PT.get_put, g50], by simp [PT.get_put, g51], by simp [PT.get_put, g52], hb, fr, hn, pr⟩
end Go.Proofs.YtnpcgejfkonfdabGreatDoor.D

-- K14
set_option linter.unusedVariables false
set_option linter.unusedSimpArgs false
set_option maxHeartbeats 16000000
namespace Go.Proofs.YtnpcgejfkonfdabGreatDoor.D
open Go Go.PM Go.Lib
theorem RsOk.idle {l : Lo} {r : Nat} : RsOk l r rs0 := ⟨by simp [rs0], by simp [rs0], by simp [rs0], by simp [rs0], by simp [rs0], by simp [rs0], by simp [rs0]⟩
theorem RsOk.step {l : Lo} (is : ISL l) {os : List Bool} {ls : List Int} {r : Nat} (hr : r < l.rts.length) {x : Rst} (h : RsOk l r x) : RsOk l r (stepF l os ls r x) := by
  have p1 := (is.rr r hr).p1
  obtain ⟨md, t0, t8, t6, tz, g3, gz⟩ := h
  obtain ⟨m, t, g, s⟩ := x
  simp only at *
  have hc : m = 0 ∨ m = 1 ∨ m = 2 ∨ m = 3 ∨ m = 4 := by omega
  rcases hc with rfl | rfl | rfl | rfl | rfl
  · have e : stepF l os ls r ⟨0, t, g, s⟩ = ⟨0, t, g, s⟩ := by simp [stepF, dec_false]
    rw [e]; exact ⟨md, t0, t8, t6, tz, g3, gz⟩
  · by_cases hL : Lie l ls r
    · have e : stepF l os ls r ⟨1, t, g, s⟩ = ⟨2, 0, 0, false⟩ := by simp [stepF, dec_true, dec_t hL]
      rw [e]; exact ⟨by simp, by simp, by simp, by simp, by simp, by simp, by simp⟩
    · have e : stepF l os ls r ⟨1, t, g, s⟩ = laterF ⟨1, t, g, s⟩ 8 := by simp [stepF, dec_true, dec_f hL]
      rw [e]
      by_cases ht : 8 < t + 1
      · have : laterF ⟨1, t, g, s⟩ 8 = rs0 := by simp [laterF, dec_t ht]
        rw [this]; exact RsOk.idle
      · have : laterF ⟨1, t, g, s⟩ 8 = ⟨1, t + 1, g, s⟩ := by simp [laterF, dec_f ht]
        rw [this]
        exact ⟨by simp, by simp; omega, by simp; omega, by simp, by simp, by simp, by simpa using gz⟩
  · cases ho : nth os (nth (nth l.rts r).path 0).toNat with
    | true =>
      have e : stepF l os ls r ⟨2, t, g, s⟩ = ⟨3, 0, 0, true⟩ := by simp [stepF, dec_true, dec_false, ho]
      rw [e]; exact ⟨by simp, by simp, by simp, by simp, by simp, by simp; omega, by simp⟩
    | false =>
      have e : stepF l os ls r ⟨2, t, g, s⟩ = ⟨2, t, g, s⟩ := by simp [stepF, dec_true, dec_false, ho]
      rw [e]; exact ⟨md, t0, t8, t6, tz, g3, gz⟩
  · have e : stepF l os ls r ⟨3, t, g, s⟩ = usedF l os r ⟨3, t, g, s⟩ := by simp [stepF, dec_true, dec_false]
    rw [e]
    have hz := tz (by omega) (by omega)
    have hg := g3 rfl
    cases ho : nth os (nth (nth l.rts r).path g.toNat).toNat with
    | true =>
      have e : usedF l os r ⟨3, t, g, s⟩ = ⟨3, t, g, true⟩ := by simp [usedF, ho]
      rw [e]; exact ⟨by simp, by simp; omega, by simp, by simp, by simp [hz], by simpa using hg, by simp⟩
    | false =>
      cases s with
      | true =>
        by_cases hl : g + 1 < (nth l.rts r).path.length
        · have e : usedF l os r ⟨3, t, g, true⟩ = ⟨3, t, g + 1, false⟩ := by simp [usedF, ho, dec_t hl]
          rw [e]; exact ⟨by simp, by simp; omega, by simp, by simp, by simp [hz], by simp; omega, by simp⟩
        · have e : usedF l os r ⟨3, t, g, true⟩ = rs0 := by simp [usedF, ho, dec_f hl]
          rw [e]; exact RsOk.idle
      | false =>
        have e : usedF l os r ⟨3, t, g, false⟩ = ⟨3, t, g, false⟩ := by simp [usedF, ho]
        rw [e]; exact ⟨md, t0, t8, t6, tz, g3, gz⟩
  · cases ho : nth os (nth (nth l.rts r).path 0).toNat with
    | true =>
      have e : stepF l os ls r ⟨4, t, g, s⟩ = ⟨3, 0, 0, true⟩ := by simp [stepF, dec_true, dec_false, ho]
      rw [e]; exact ⟨by simp, by simp, by simp, by simp, by simp, by simp; omega, by simp⟩
    | false =>
      have e : stepF l os ls r ⟨4, t, g, s⟩ = laterF ⟨4, t, g, s⟩ 5 := by simp [stepF, dec_true, dec_false, ho]
      rw [e]
      by_cases ht : 5 < t + 1
      · have : laterF ⟨4, t, g, s⟩ 5 = rs0 := by simp [laterF, dec_t ht]
        rw [this]; exact RsOk.idle
      · have : laterF ⟨4, t, g, s⟩ 5 = ⟨4, t + 1, g, s⟩ := by simp [laterF, dec_f ht]
        rw [this]
        exact ⟨by simp, by simp; omega, by simp, by simp; omega, by simp, by simp, by simpa using gz⟩
theorem nth_rep' {α : Type} [Inhabited α] {k i : Nat} {x : α} (h : i < k) : nth (List.replicate k x) i = x := by simp [nth, h]
theorem go_of {l : Lo} {rs : List Rst} (h : ∀ r, r < l.rts.length → RsOk l r (nth rs r)) : GoneOk l rs := fun r hr hm => by
  have := (h r hr).g3 hm
  exact ⟨this.1, by omega⟩
theorem Cycle_fn {d : Nat} (hd : 11 ≤ d) {H : PT HB} {p : Nat} {own : List Nat} {l : Lo} {rs : List Rst} (ok : LoOk l) (is : ISL l) (lk : LkAt H p own l rs) (ro : ∀ r, r < l.rts.length → RsOk l r (nth rs r)) {ov lv : IV} {os : List Bool} {ls : List Int} (io : InOk ov lv os ls) (mi : MI l os ls) {n : Nat} (hpn : ∀ i ∈ p :: own, i < n) :
    Fe (K DG (d + 1) 80 [.ptr p 0 0, inD ov lv] H n 0) (fun v H' n' => v = .agg [.sl (n + 2 + 1) 0 l.pts.length l.pts.length, .sl (n + 2 + 2) 0 l.sigs.length l.sigs.length] ∧ n + 5 ≤ n' ∧ (∀ j, j ∉ own → j < n → H'.get j = H.get j) ∧
      ∃ qs, LkAt H' p own l qs ∧ (∀ j, j < l.rts.length → nth qs j = stepF l os ls j (nth rs j)) ∧ H'.get (n + 2 + 1) = some ⟨1, (drF l qs os ls).map rowI⟩ ∧ H'.get (n + 2 + 2) = some ⟨1, (prF l qs os ls).map rowB⟩) := by
  have hp := hpn p (by simp)
  obtain ⟨d, rfl⟩ : ∃ d', d = d' + 1 := ⟨d - 1, by omega⟩
  have p5 := is.p2
  have g6 := is.g2
  obtain ⟨v, H1, n1, e1, rfl, rfl, hH1⟩ := Safe_run (d := d) ok p5 g6 lk (n := n + 2) (lo := 0) (by omega)
  have e := MayIn_bl (D := d + 1) (by omega) ok io
  rw [dec_t mi] at e
  have lk1 : LkAt H1 p own l rs := lk.mono fun j hj => by
    have := hpn j hj
    have b1 : ¬ j = n + 2 + 1 := by omega
    have b2 : ¬ j = n + 2 + 2 := by omega
    rw [hH1]; simp [PT.get_put, b1, b2]
  have hz1 : H1.get (n + 2 + 1) = some ⟨1, (List.replicate l.pts.length (0 : Int)).map rowI⟩ := by
    have b1 : ¬ n + 2 + 1 = n + 2 + 2 := by omega
    rw [hH1]; simp [PT.get_put, b1, rowI, imms]
  have hz2 : H1.get (n + 2 + 2) = some ⟨1, (List.replicate l.sigs.length false).map rowB⟩ := by
    rw [hH1]; simp [PT.get_put, rowB, imms]
  have hfr1 : ∀ j, j < n → H1.get j = H.get j := fun j hj => by
    have b1 : ¬ j = n + 2 + 1 := by omega
    have b2 : ¬ j = n + 2 + 2 := by omega
    rw [hH1]; simp [PT.get_put, b1, b2]
  clear hH1
  have lk1' := lk1
  obtain ⟨x, h1, h2, h3, h4⟩ := lk1
  have xl := h2.len
  rw [h4] at xl
  rw [D.k80]
  refine fn_dw rfl ?_
  simp [io.o.scal, io.l.scal, e1, h1, e, xl, B6, B7]
  refine loopCy0 (own := own) (os := os) (ls := ls) (rs := rs) (ov := ov) (lv := lv) (us := [.sl (n + 2 + 1) 0 l.pts.length l.pts.length, .sl (n + 2 + 2) 0 l.sigs.length l.sigs.length]) (H1 := H1) (n1 := n + 2 + 3) (by omega) ok is io mi ro (by omega) ⟨by simp [PT.get_put], by simp [PT.get_put], by simp [PT.get_put], ⟨n, by simp [PT.get_put], by simp [PT.get_put]⟩, ⟨n + 1, by simp [PT.get_put], by simp [PT.get_put]⟩, ⟨n + 2 + 3, by simp [PT.get_put], by simp [PT.get_put]⟩, lk1', fun j hj => rfl, by simp, fun j hj => by simp⟩ ?_
  rintro s2 qs ⟨f0, f28, f29, ⟨i3, f3, M3⟩, ⟨i4, f4, M4⟩, ⟨i5, f5, M5⟩, lk2, fr2, fn2, al⟩
  have hq : ∀ j, j < l.rts.length → nth qs j = stepF l os ls j (nth rs j) := fun j hj => by rw [al j hj, if_pos hj]
  have roq : ∀ j, j < l.rts.length → RsOk l j (nth qs j) := fun j hj => by rw [hq j hj]; exact (ro j hj).step is hj
  have ha : n + 2 + 1 ∉ p :: own := fun h => by have := hpn _ h; omega
  have hb : n + 2 + 2 ∉ p :: own := fun h => by have := hpn _ h; omega
  obtain ⟨v3, H3, n3, e3, hn3, fr3, hz3⟩ := drives_run (d := d) (by omega) ok is lk2 (go_of roq) io mi (a := n + 2 + 1) (b := n + 2 + 2) (c := l.sigs.length) (n := s2.n) ha (by rw [fr2 _ (fun h => ha (by simp [h]))]; exact hz1)
  have lk3 : LkAt H3 p own l qs := lk2.mono fun j hj => fr3 j fun h => ha (h ▸ hj)
  have lk3' := lk3
  have hz4 : H3.get (n + 2 + 2) = some ⟨1, (List.replicate l.sigs.length false).map rowB⟩ := by
    rw [fr3 _ (by omega), fr2 _ (fun h => hb (by simp [h]))]; exact hz2
  obtain ⟨y, k1, k2, k3, k4⟩ := lk3
  have yl := k2.len
  rw [k4] at yl
  simp [f0, f28, f29, f3, M3, f4, M4, f5, M5, io.o.scal, io.l.scal, e3, k1, yl, B6, B7]
  refine loopCy1 (own := own) (os := os) (ls := ls) (rs := qs) (ov := ov) (lv := lv) (a := n + 2 + 1) (c := l.pts.length) (b := n + 2 + 2) (H1 := H3) (xr := y) (n0 := n + 2 + 3) (bs := List.replicate l.sigs.length false) (by omega) ok is k1 k2 k3 k4 io mi hb (by omega) ⟨by simp [PT.get_put, f0], ⟨i3, by simp [PT.get_put, f3], by simp [PT.get_put, M3]⟩, ⟨i4, by simp [PT.get_put, f4], by simp [PT.get_put, M4]⟩, ⟨i5, by simp [PT.get_put, f5], by simp [PT.get_put, M5]⟩, by simp [PT.get_put], by simp [PT.get_put], by simp [PT.get_put], hz4, fun j hj => rfl, by simp; omega, by simp, rfl⟩ ?_
  rintro s4 bs ⟨t0, ⟨j3, t3, N3⟩, ⟨j4, t4, N4⟩, ⟨j5, t5, N5⟩, t50, t51, t52, tb, tfr, tn, pr⟩
  simp [t0, t3, N3, t4, N4, t5, N5, B6, B7]
  refine ⟨by omega, fun j hj hjn => ?_, qs, lk3'.mono fun j hj => tfr j fun h => hb (h ▸ hj), hq, ?_, by rw [pr.2] at tb; exact tb⟩
  · rw [tfr j (by omega), fr3 j (by omega), fr2 j hj, hfr1 j hjn]
  · rw [tfr _ (by omega)]; exact hz3
end Go.Proofs.YtnpcgejfkonfdabGreatDoor.D

-- T8c
set_option linter.unusedVariables false
set_option linter.unusedSimpArgs false
set_option maxHeartbeats 16000000
namespace Go.Proofs.YtnpcgejfkonfdabGreatDoor.D
open Go Go.PM Go.Lib
/-! ### pointsmanref4.Needs -/
/-! ### Rows of numbers that are one -/
/-! ### Entry -/
end Go.Proofs.YtnpcgejfkonfdabGreatDoor.D
