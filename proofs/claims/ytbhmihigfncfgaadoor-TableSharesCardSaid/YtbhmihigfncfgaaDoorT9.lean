/-
  Calls that are told rows of the heap as values; the laws' own layout of two routes. Over D.
-/
import Derived.Test.YtbhmihigfncfgaaDoorT6
import Derived.Test.YtbhmihigfncfgaaDoorFast
set_option linter.unusedVariables false
set_option linter.unusedSimpArgs false
set_option maxHeartbeats 16000000
set_option maxRecDepth 100000
namespace Go.Proofs.YtbhmihigfncfgaaDoor.D
open Go Go.PM Go.Lib
theorem bl_bool {K : Go.PM.Callee} {f : FuncId} {args : List DV} {b : Bool} (hb : bl K f args = some (.imm (.bool b))) : ∃ H1 n1, K f args .lf 0 0 = some (.imm (.bool b), H1, n1) := by
  unfold bl at hb
  cases hK : K f args .lf 0 0 with
  | none => rw [hK] at hb; cases hb
  | some r =>
    obtain ⟨v, H1, n1⟩ := r
    rw [hK] at hb
    have : v = .imm (.bool b) := by
      cases v with
      | imm v => exact Option.some.inj hb
      | ptr => simp [frz] at hb
      | sl id' row len cap =>
        have e : frz H1.get 0 (.sl id' row len cap) = if id' < 0 then some (.sl id' row len cap) else (frzI H1.get 0 frzDepth (.sl id' row len cap)).map .imm := rfl
        have hb2 : frz H1.get 0 (.sl id' row len cap) = some (.imm (.bool b)) := hb
        rw [e, if_neg (Nat.not_lt_zero _)] at hb2
        simp only [Option.map_eq_some_iff] at hb2
        obtain ⟨q, q1, q2⟩ := hb2
        cases q2
        simp [frzI, frzDepth] at q1
        split at q1
        · split at q1
          · simp at q1
          · cases q1
        · cases q1
      | agg cs =>
        have hb2 : (frz.frzs H1.get 0 cs).map DV.agg = some (.imm (.bool b)) := hb
        simp at hb2
      | tup cs =>
        have hb2 : (frz.frzs H1.get 0 cs).map DV.tup = some (.imm (.bool b)) := hb
        simp at hb2
      | fnc => cases hb
      | lref => cases hb
    exact ⟨H1, n1, by rw [this]⟩
theorem call_snap {K : Go.PM.Callee} {f : FuncId} {args args' : List DV} {H : PT HB} {m lo : Nat} {b : Bool} (hp : DV.pure.pures args = false) (hs : snap.snaps H.get args = some args') (hb : bl K f args' = some (.imm (.bool b))) :
    callM K .blind f args H m lo = some ⟨.imm (.bool b), H, m, [.rA]⟩ := by
  obtain ⟨H1, n1, e⟩ := bl_bool hb
  simp only [callM, hp, hs, e]
  rfl
theorem AtS.keep {sz : Nat} {x : DV} {H H' : PT HB} {n : Nat} {rows : List (List IV)} (h : AtS sz x H n rows) (hk : ∀ j, j < n → H'.get j = H.get j) : AtS sz x H' n rows := by
  rcases h with h | ⟨id, h1, h2, h3⟩
  · exact .inl h
  · exact .inr ⟨id, h1, h2, by rw [hk id h1]; exact h3⟩
/-- A row of the heap, read as a value. -/
theorem row_frz {sz : Nat} {x : DV} {H : PT HB} {n d : Nat} {rows : List (List IV)} (h : AtS sz x H n rows) : ∃ v, frzI H.get 0 (d + 1) x = some v ∧ Sl sz v rows := by
  rcases h with ⟨rfl, rfl⟩ | ⟨id, h2, rfl, h3⟩
  · exact ⟨_, rfl, .inl ⟨rfl, rfl⟩⟩
  · refine ⟨.lst false sz rows, ?_, .inr ⟨_, rfl⟩⟩
    show (if 0 ≤ id then _ else _) = _
    rw [if_pos (Nat.zero_le _)]
    simp only [h3]
    rw [if_pos (by simp)]
    simp only [List.drop_zero]
    rw [List.take_of_length_le (by simp), mapO_frz2]
    rfl
theorem call_row2 {sz : Nat} {x : DV} {H : PT HB} {n : Nat} {rows : List (List IV)} (h : AtS sz x H n rows) : ∃ v acc, Sl sz v rows ∧ ∀ {K : Go.PM.Callee} {f : FuncId} {b : Bool} {lo m : Nat} {w : IV},
    bl K f [.imm v, .imm w] = some (.imm (.bool b)) → callM K .blind f [x, .imm w] H m lo = some ⟨.imm (.bool b), H, m, acc⟩ := by
  rcases h with ⟨rfl, rfl⟩ | ⟨id, h2, rfl, h3⟩
  · refine ⟨.nils, [], .inl ⟨rfl, rfl⟩, fun hb => ?_⟩
    rw [callM_bl (by simp [pures_cons, pures_nil, pure_imm]), hb]
    rfl
  · obtain ⟨v, e, hv⟩ := row_frz (d := 3) (x := .sl id 0 rows.length rows.length) (.inr ⟨id, h2, rfl, h3⟩)
    refine ⟨v, [.rA], hv, fun {K f b lo m w} hb => call_snap rfl ?_ hb⟩
    have : snap H.get (.sl id 0 rows.length rows.length) = some (.imm v) := by
      show (frzI H.get 0 frzDepth (.sl id 0 rows.length rows.length)).map DV.imm = _
      rw [show frzDepth = 3 + 1 from rfl, e]; rfl
    have h2 : snap H.get (.imm w) = some (.imm w) := rfl
    simp only [snap.snaps, this, h2]
/-! ### The last two bits -/
def a3 (z : Int) : Int := IntKind.i64.wrap (((BitVec.ofInt IntKind.i64.bits z &&& BitVec.ofInt IntKind.i64.bits 3).toNat : Nat) : Int)
theorem bd_and3 {z : Int} : binInt .and .i64 z 3 = some (.int .i64 (a3 z)) := rfl
theorem a3_in (z : Int) : 0 ≤ a3 z ∧ a3 z < 4 := by
  have h : (BitVec.ofInt IntKind.i64.bits z &&& BitVec.ofInt IntKind.i64.bits 3).toNat ≤ 3 := by
    rw [BitVec.toNat_and]
    exact Nat.le_trans Nat.and_le_right (by decide)
  unfold a3
  rw [wr_id (by omega) (by omega)]
  omega
/-! ### two -/
abbrev secs4 : List (List UInt8) := [[97], [98], [99], [100]]
abbrev sigs3 : List (List UInt8) := [[115], [116], [117]]
def loTwo (px py : IV) (p q : List Int) : Lo :=
  ⟨.lst false 1 (secs4.map ivS), .nils, .lst false 1 (sigs3.map ivS), .lst false 6 ([⟨[114], 0, 2, px, .nils, .nils, p, [], []⟩, ⟨[113], 1, 2, py, .nils, .nils, q, [], []⟩].map ivRt), secs4, [], sigs3, [⟨[114], 0, 2, px, .nils, .nils, p, [], []⟩, ⟨[113], 1, 2, py, .nils, .nils, q, [], []⟩]⟩
theorem two_ok {px py : IV} {p q : List Int} (hp : Sl 1 px (p.map ivI)) (hq : Sl 1 py (q.map ivI)) (lp : p.length ≤ 5) (lq : q.length ≤ 5) : LoOk (loTwo px py p q) := by
  have hrb := rb3
  refine ⟨.inr ⟨_, rfl⟩, .inl ⟨rfl, rfl⟩, .inr ⟨_, rfl⟩, .inr ⟨_, rfl⟩, ?_, ?_, ?_, ?_, ?_, ?_, ?_, ?_⟩
  · simp [loTwo]; omega
  · simp [loTwo]
  · simp [loTwo]; omega
  · simp [loTwo]; omega
  · intro x hx
    simp [loTwo] at hx
    rcases hx with rfl | rfl | rfl | rfl <;> simp <;> omega
  · intro x hx
    simp [loTwo] at hx
  · intro x hx
    simp [loTwo] at hx
    rcases hx with rfl | rfl | rfl <;> simp <;> omega
  · intro x hx
    simp only [loTwo, List.mem_cons, List.not_mem_nil, or_false] at hx
    rcases hx with rfl | rfl
    · exact ⟨hp, .inl ⟨rfl, rfl⟩, .inl ⟨rfl, rfl⟩, by simp; omega, by show p.length ≤ _; omega, by simp, by simp⟩
    · exact ⟨hq, .inl ⟨rfl, rfl⟩, .inl ⟨rfl, rfl⟩, by simp; omega, by show q.length ≤ _; omega, by simp, by simp⟩
theorem nm_run4 : ansT (dcallF (doorG 0 1) tab 29 28 [.imm (.lst false 1 (secs4.map ivS))] .lf 0 0) = true := by kernel_rfl
theorem nm_run3 : ansT (dcallF (doorG 0 1) tab 29 28 [.imm (.lst false 1 (sigs3.map ivS))] .lf 0 0) = true := by kernel_rfl
theorem nm_run2 : ansT (dcallF (doorG 0 1) tab 29 28 [.imm (.lst false 1 (([[114], [113]] : List (List UInt8)).map ivS))] .lf 0 0) = true := by kernel_rfl
theorem NM_of {ss : List (List UInt8)} (hl : ss.length ≤ 100) (hs : ∀ s ∈ ss, s.length ≤ 100) (h : ansT (dcallF (doorG 0 1) tab 29 28 [.imm (.lst false 1 (ss.map ivS))] .lf 0 0) = true) : NM ss := by
  have hrb := rb3
  rw [show dcallF (doorG 0 1) tab 29 = K DG 29 from dcallF_eq _ _ _] at h
  obtain ⟨H', n', e⟩ := ansT_spec h
  have e1 := areNames_dec (D := 29) (by omega) (v := .lst false 1 (ss.map ivS)) (ss := ss) (.inr ⟨_, rfl⟩) (by omega) (fun s hm => by have := hs s hm; omega)
  rw [bl_imm e] at e1
  have := Option.some.inj e1
  simp only [DV.imm.injEq, IV.bool.injEq] at this
  exact dec_iff.1 this.symm
theorem two_is {px py : IV} {p q : List Int} (hp : PA 4 p) (hq : PA 4 q) (p1 : 1 ≤ p.length) (p5 : p.length ≤ 5) (q1 : 1 ≤ q.length) (q5 : q.length ≤ 5) : ISL (loTwo px py p q) := by
  have c : ∀ path, cnt [] path = 0 := fun _ => rfl
  have ne : ∀ path w, NE [] [] path w := fun _ _ i hi => absurd hi (by simp)
  refine ⟨by simp [loTwo], by simp [loTwo], by simp [loTwo], by simp [loTwo], by simp [loTwo], by simp [loTwo], fun i hi => by simp [loTwo] at hi, NM_of (ss := secs4) (by simp) (by simp) nm_run4, NM_of (ss := sigs3) (by simp) (by simp) nm_run3, NM_nil, NM_of (ss := [[114], [113]]) (by simp) (by simp) nm_run2, fun i hi => ?_⟩
  have : i = 0 ∨ i = 1 := by simp [loTwo] at hi; omega
  rcases this with rfl | rfl
  · exact ⟨⟨by simp [loTwo, nth], by simp [loTwo, nth]⟩, ⟨by simp [loTwo, nth], by simp [loTwo, nth]⟩, by simp [loTwo, nth], hp, p1, p5, ne _ _, ne _ _, rfl⟩
  · exact ⟨⟨by simp [loTwo, nth], by simp [loTwo, nth]⟩, ⟨by simp [loTwo, nth], by simp [loTwo, nth]⟩, by simp [loTwo, nth], hq, q1, q5, ne _ _, ne _ _, rfl⟩
theorem two_cf {px py : IV} {p q : List Int} : CF (loTwo px py p q) 0 1 ↔ ∃ z ∈ p, z ∈ q := by
  constructor
  · rintro (h | h | h | ⟨x, h, _⟩)
    · cases h
    · simp [loTwo, nth] at h
    · exact h
    · have : nd (nth (loTwo px py p q).rts 0) = [] := rfl
      rw [this] at h
      cases h
  · exact fun h => .inr (.inr (.inl h))
theorem two_run {d : Nat} {x y : DV} {H : PT HB} {n : Nat} {p q : List Int} (hx : AtS 1 x H n (p.map ivI)) (hy : AtS 1 y H n (q.map ivI)) :
    Fe (K DG (d + 1) 17 [x, y] H n 0) (fun v H' n' => v.out = true ∧ v.cells.length = 4 ∧ (∃ cs, v = .agg cs ∧ cs.all DV.scal = true) ∧ ∃ px py, Sl 1 px (p.map ivI) ∧ Sl 1 py (q.map ivI) ∧ DV.pure.pures [v] = false ∧ snap.snaps H'.get [v] = some [(loTwo px py p q).dv]) := by
  have ox := hx.out
  have oy := hy.out
  have sx : x.scal = true := by rcases hx with ⟨rfl, _⟩ | ⟨id, _, rfl, _⟩ <;> rfl
  have sy : y.scal = true := by rcases hy with ⟨rfl, _⟩ | ⟨id, _, rfl, _⟩ <;> rfl
  have cx : x.cells = [x] := by rcases hx with ⟨rfl, _⟩ | ⟨id, _, rfl, _⟩ <;> rfl
  have cy : y.cells = [y] := by rcases hy with ⟨rfl, _⟩ | ⟨id, _, rfl, _⟩ <;> rfl
  rw [D.k17]
  refine fn_dw rfl ?_
  simp [ox, oy, sx, sy, cx, cy, evParts, evParts2, lay, rowsN, unImms, unImm, mapO, B6, undT, fnEnd, argsT, PT.get_put, keep, opRun, ev, evs, evO, give, giveI, binOf, isNilK, PM.flip, putT, putL, putH, loadOf, storeOf, cut, over, ofCells, asNat, natOr, calm, clashes, Acc.clash, ressOf, resOf, frz, frz.frzs, DV.flat, DV.flat.flats, imms]
  generalize hH2 : (PT.put (PT.put (PT.put H (n + 1) _) (n + 1 + 1) _) (n + 1 + 1 + 1) _ : PT HB) = H2
  have g1 : H2.get (n + 1) = some ⟨1, [[.imm (.str [97])], [.imm (.str [98])], [.imm (.str [99])], [.imm (.str [100])]]⟩ := by rw [← hH2]; simp [PT.get_put]
  have g2 : H2.get (n + 1 + 1) = some ⟨1, [[.imm (.str [115])], [.imm (.str [116])], [.imm (.str [117])]]⟩ := by rw [← hH2]; simp [PT.get_put]
  have g3 : H2.get (n + 1 + 1 + 1) = some ⟨6, [[.imm (.str [114]), .imm (.int .i64 0), .imm (.int .i64 2), x, .imm .nils, .imm .nils], [.imm (.str [113]), .imm (.int .i64 1), .imm (.int .i64 2), y, .imm .nils, .imm .nils]]⟩ := by rw [← hH2]; simp [PT.get_put]
  have gk : ∀ j, j < n → H2.get j = H.get j := fun j hj => by
    have a1 : ¬ j = n + 1 := by omega
    have a2 : ¬ j = n + 1 + 1 := by omega
    have a3 : ¬ j = n + 1 + 1 + 1 := by omega
    rw [← hH2]; simp [PT.get_put, a1, a2, a3]
  obtain ⟨px, ex, hpx⟩ := row_frz (d := 2) (hx.keep gk)
  obtain ⟨py, ey, hpy⟩ := row_frz (d := 2) (hy.keep gk)
  simp at ex ey
  refine ⟨px, hpx, py, hpy, fun _ _ => rfl, ?_⟩
  simp [snap.snaps, snap, frzI, frzDepth, g1, g2, g3, mapO, ex, ey, loTwo, ivS, ivRt]
end Go.Proofs.YtbhmihigfncfgaaDoor.D
