/-
  Calls that are told rows of the heap as values. Over D.
-/
import Derived.Test.YtbhmihigfncfgaaDoorT1b
set_option linter.unusedVariables false
set_option linter.unusedSimpArgs false
set_option maxHeartbeats 16000000
namespace Go.Proofs.YtbhmihigfncfgaaDoor.D
open Go Go.PM Go.Lib
theorem bl_bool {K : Go.PM.Callee} {f : FuncId} {args : List DV} {b : Bool} (hb : bl K f args = some (.imm (.bool b))) : ∃ H1 n1, K f args .lf 0 0 = some (.imm (.bool b), H1, n1) := by
  unfold bl at hb
  cases hK : K f args .lf 0 0 with
  | none => rw [hK] at hb; cases hb
  | some r =>
    obtain ⟨v, H1, n1⟩ := r
    rw [hK] at hb
    have : v = .imm (.bool b) := by
      cases v with
      | imm v => exact Option.some.inj hb
      | ptr => simp [frz] at hb
      | sl id' row len cap =>
        have e : frz H1.get 0 (.sl id' row len cap) = if id' < 0 then some (.sl id' row len cap) else (frzI H1.get 0 frzDepth (.sl id' row len cap)).map .imm := rfl
        have hb2 : frz H1.get 0 (.sl id' row len cap) = some (.imm (.bool b)) := hb
        rw [e, if_neg (Nat.not_lt_zero _)] at hb2
        simp only [Option.map_eq_some_iff] at hb2
        obtain ⟨q, q1, q2⟩ := hb2
        cases q2
        simp [frzI, frzDepth] at q1
        split at q1
        · split at q1
          · simp at q1
          · cases q1
        · cases q1
      | agg cs =>
        have hb2 : (frz.frzs H1.get 0 cs).map DV.agg = some (.imm (.bool b)) := hb
        simp at hb2
      | tup cs =>
        have hb2 : (frz.frzs H1.get 0 cs).map DV.tup = some (.imm (.bool b)) := hb
        simp at hb2
      | fnc => cases hb
      | lref => cases hb
    exact ⟨H1, n1, by rw [this]⟩
theorem call_snap {K : Go.PM.Callee} {f : FuncId} {args args' : List DV} {H : PT HB} {m lo : Nat} {b : Bool} (hp : DV.pure.pures args = false) (hs : snap.snaps H.get args = some args') (hb : bl K f args' = some (.imm (.bool b))) :
    callM K .blind f args H m lo = some ⟨.imm (.bool b), H, m, [.rA]⟩ := by
  obtain ⟨H1, n1, e⟩ := bl_bool hb
  simp only [callM, hp, hs, e]
  rfl
theorem AtS.keep {sz : Nat} {x : DV} {H H' : PT HB} {n : Nat} {rows : List (List IV)} (h : AtS sz x H n rows) (hk : ∀ j, j < n → H'.get j = H.get j) : AtS sz x H' n rows := by
  rcases h with h | ⟨id, h1, h2, h3⟩
  · exact .inl h
  · exact .inr ⟨id, h1, h2, by rw [hk id h1]; exact h3⟩
/-- A row of the heap, read as a value. -/
theorem row_frz {sz : Nat} {x : DV} {H : PT HB} {n d : Nat} {rows : List (List IV)} (h : AtS sz x H n rows) : ∃ v, frzI H.get 0 (d + 1) x = some v ∧ Sl sz v rows := by
  rcases h with ⟨rfl, rfl⟩ | ⟨id, h2, rfl, h3⟩
  · exact ⟨_, rfl, .inl ⟨rfl, rfl⟩⟩
  · refine ⟨.lst false sz rows, ?_, .inr ⟨_, rfl⟩⟩
    show (if 0 ≤ id then _ else _) = _
    rw [if_pos (Nat.zero_le _)]
    simp only [h3]
    rw [if_pos (by simp)]
    simp only [List.drop_zero]
    rw [List.take_of_length_le (by simp), mapO_frz2]
    rfl
theorem call_row2 {sz : Nat} {x : DV} {H : PT HB} {n : Nat} {rows : List (List IV)} (h : AtS sz x H n rows) : ∃ v acc, Sl sz v rows ∧ ∀ {K : Go.PM.Callee} {f : FuncId} {b : Bool} {lo m : Nat} {w : IV},
    bl K f [.imm v, .imm w] = some (.imm (.bool b)) → callM K .blind f [x, .imm w] H m lo = some ⟨.imm (.bool b), H, m, acc⟩ := by
  rcases h with ⟨rfl, rfl⟩ | ⟨id, h2, rfl, h3⟩
  · refine ⟨.nils, [], .inl ⟨rfl, rfl⟩, fun hb => ?_⟩
    rw [callM_bl (by simp [pures_cons, pures_nil, pure_imm]), hb]
    rfl
  · obtain ⟨v, e, hv⟩ := row_frz (d := 3) (x := .sl id 0 rows.length rows.length) (.inr ⟨id, h2, rfl, h3⟩)
    refine ⟨v, [.rA], hv, fun {K f b lo m w} hb => call_snap rfl ?_ hb⟩
    have : snap H.get (.sl id 0 rows.length rows.length) = some (.imm v) := by
      show (frzI H.get 0 frzDepth (.sl id 0 rows.length rows.length)).map DV.imm = _
      rw [show frzDepth = 3 + 1 from rfl, e]; rfl
    have h2 : snap H.get (.imm w) = some (.imm w) := rfl
    simp only [snap.snaps, this, h2]
end Go.Proofs.YtbhmihigfncfgaaDoor.D
