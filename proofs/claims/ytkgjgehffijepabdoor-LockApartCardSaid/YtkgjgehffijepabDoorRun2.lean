/-
  More small lemmas for running D's code by 'simp' where some values are not known.
-/
import Derived.Test.YtkgjgehffijepabDoorRun
import Derived.Test.YtkgjgehffijepabDoorBytes
set_option linter.unusedVariables false
set_option linter.unusedSimpArgs false
namespace Go.PM
theorem out_agg {cs : List DV} : (DV.agg cs).out = DV.out.outs cs := rfl
theorem out_tup {cs : List DV} : (DV.tup cs).out = DV.out.outs cs := rfl
theorem out_fnc {f : FuncId} {cs : List DV} : (DV.fnc f cs).out = DV.out.outs cs := rfl
theorem outs_nil : DV.out.outs [] = true := rfl
theorem outs_cons {v : DV} {vs : List DV} : DV.out.outs (v :: vs) = (v.out && DV.out.outs vs) := rfl
theorem np_nilp : isNil .np (.imm .nilp) = some true := rfl
theorem np_ptr {i r o : Nat} : isNil .np (.ptr i r o) = some false := rfl
theorem np_lref {s i o : Nat} : isNil .np (.lref s i o) = some false := rfl
theorem np_cref {c : List IV} : isNil .np (.imm (.cref c)) = some false := rfl
theorem ns_nils : isNil .ns (.imm .nils) = some true := rfl
theorem ns_lst {f : Bool} {sz : Nat} {es : List (List IV)} : isNil .ns (.imm (.lst f sz es)) = some false := rfl
theorem ns_sl {i r l c : Nat} : isNil .ns (.sl i r l c) = some false := rfl
theorem nf_nilf : isNil .nf (.imm .nilf) = some true := rfl
theorem nf_fnc {f : FuncId} {cs : List DV} : isNil .nf (.fnc f cs) = some false := rfl
theorem ni_nili : isNil .ni (.imm .nili) = some true := rfl
theorem ni_iface {t : TypeId} {v : IV} : isNil .ni (.imm (.iface t v)) = some false := rfl
theorem len_nils : lenOf (.imm .nils) = some 0 := rfl
theorem len_lst {f : Bool} {sz : Nat} {es : List (List IV)} : lenOf (.imm (.lst f sz es)) = some es.length := rfl
theorem len_sl {i r l c : Nat} : lenOf (.sl i r l c) = some l := rfl
theorem wr_ofNat {n : Nat} (h : n < 2 ^ 63) : IntKind.i64.wrap (n : Int) = n := by
  simp only [IntKind.wrap, IntKind.bits, IntKind.signed]
  simp
  omega
theorem wr_id {n : Int} (h : -2 ^ 63 ≤ n) (h' : n < 2 ^ 63) : IntKind.i64.wrap n = n := by
  simp only [IntKind.wrap, IntKind.bits, IntKind.signed]
  simp
  omega
theorem scal_agg {cs : List DV} : (DV.agg cs).scal = false := rfl
theorem scal_fnc {f : FuncId} {cs : List DV} : (DV.fnc f cs).scal = true := rfl

/-- A piece of code that does what is said, as a function of the state. -/
theorem skolem_run {G : Nat → Option (List IV)} {K : Callee} {lo : Nat} {c : DC} {I : St → Prop} {Q : St → St → Prop} {e : Ex} (h : ∀ s, I s → ∃ s', c.run G K lo s = some (e, s') ∧ Q s s') :
    ∃ fin : St → St, ∀ s, I s → c.run G K lo s = some (e, fin s) ∧ Q s (fin s) := by
  have h' : ∀ s, ∃ s', I s → c.run G K lo s = some (e, s') ∧ Q s s' := fun s => by
    by_cases hi : I s
    · obtain ⟨s', h1⟩ := h s hi
      exact ⟨s', fun _ => h1⟩
    · exact ⟨s, fun h => absurd h hi⟩
  exact Classical.axiomOfChoice h'
theorem bi_add {k : IntKind} {a b : Int} : binInt .add k a b = some (.int k (k.wrap (a + b))) := rfl
theorem bi_sub {k : IntKind} {a b : Int} : binInt .sub k a b = some (.int k (k.wrap (a - b))) := rfl
theorem bi_mul {k : IntKind} {a b : Int} : binInt .mul k a b = some (.int k (k.wrap (a * b))) := rfl
theorem bi_eql {k : IntKind} {a b : Int} : binInt .eql k a b = some (.bool (a == b)) := rfl
theorem bi_neq {k : IntKind} {a b : Int} : binInt .neq k a b = some (.bool (a != b)) := rfl
theorem bi_lss {k : IntKind} {a b : Int} : binInt .lss k a b = some (.bool (a < b)) := rfl
theorem bi_leq {k : IntKind} {a b : Int} : binInt .leq k a b = some (.bool (a ≤ b)) := rfl
theorem bi_gtr {k : IntKind} {a b : Int} : binInt .gtr k a b = some (.bool (a > b)) := rfl
theorem bi_geq {k : IntKind} {a b : Int} : binInt .geq k a b = some (.bool (a ≥ b)) := rfl
theorem un_not {b : Bool} : unOf .not (.imm (.bool b)) = some (.bool !b) := rfl
theorem un_neg {k : IntKind} {n : Int} : unOf .neg (.imm (.int k n)) = some (.int k (k.wrap (0 - n))) := rfl
theorem gps {α : Type} {t : PT α} {k : Nat} {v : Option α} : (t.put k v).get k = v := by rw [PT.get_put, if_pos rfl]
end Go.PM
