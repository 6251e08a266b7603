/-
  The laws of package link over D, for all arguments of their kinds.
-/
import Derived.Test.YtldinlipajjmoaaLawL
set_option linter.unusedVariables false
namespace Go.Proofs.Ytldinlipajjmoaa.D
open Go Go.PM
def ss_LinkCrosses : List (Bool × List Kd) := [(false, [.sl [.i .u8]]), (false, [.sl [.i .u8]]), (false, [.b])]
theorem pure_LinkCrosses : ∀ cs, ArgsFit ss_LinkCrosses cs → ∃ H' n', K noG 12 4 cs .lf 0 0 = some (.imm (.bool true), H', n') := fun cs h0 => by
  obtain ⟨d0, r0, rfl, g0, h1⟩ := fit_cons h0
  obtain ⟨d1, r1, rfl, g1, h2⟩ := fit_cons h1
  obtain ⟨d2, r2, rfl, g2, h3⟩ := fit_cons h2
  cases fit0 (r := []) h3
  obtain ⟨a, rfl, ha⟩ := fit_s g0
  obtain ⟨b, rfl, hb⟩ := fit_s g1
  obtain ⟨x, rfl⟩ := fit_b g2
  obtain ⟨as, ha⟩ := arg_of_fit ha
  obtain ⟨bs, hb⟩ := arg_of_fit hb
  exact crosses ha hb x
def ss_LinkTurns : List (Bool × List Kd) := [(false, [.sl [.i .u8]]), (false, [.i .i64])]
theorem pure_LinkTurns : ∀ cs, ArgsFit ss_LinkTurns cs → ∃ H' n', K noG 12 8 cs .lf 0 0 = some (.imm (.bool true), H', n') := fun cs h0 => by
  obtain ⟨d0, r0, rfl, g0, h1⟩ := fit_cons h0
  obtain ⟨d1, r1, rfl, g1, h2⟩ := fit_cons h1
  cases fit0 (r := []) h2
  obtain ⟨a, rfl, ha⟩ := fit_s g0
  obtain ⟨x, rfl, _⟩ := fit_i g1
  obtain ⟨as, ha⟩ := arg_of_fit ha
  exact turns ha x
def ss_LinkOwn : List (Bool × List Kd) := [(false, [.sl [.i .u8]]), (false, [.i .i64])]
theorem pure_LinkOwn : ∀ cs, ArgsFit ss_LinkOwn cs → ∃ H' n', K noG 12 6 cs .lf 0 0 = some (.imm (.bool true), H', n') := fun cs h0 => by
  obtain ⟨d0, r0, rfl, g0, h1⟩ := fit_cons h0
  obtain ⟨d1, r1, rfl, g1, h2⟩ := fit_cons h1
  cases fit0 (r := []) h2
  obtain ⟨a, rfl, ha⟩ := fit_s g0
  obtain ⟨x, rfl, _⟩ := fit_i g1
  obtain ⟨as, ha⟩ := arg_of_fit ha
  exact owns ha x
def ss_LinkLast : List (Bool × List Kd) := [(false, [.sl [.sl [.i .u8]]])]
theorem pure_LinkLast : ∀ cs, ArgsFit ss_LinkLast cs → ∃ H' n', K noG 12 7 cs .lf 0 0 = some (.imm (.bool true), H', n') := fun cs h0 => by
  obtain ⟨d0, r0, rfl, g0, h1⟩ := fit_cons h0
  cases fit0 (r := []) h1
  obtain ⟨a, rfl, ha⟩ := fit_s g0
  exact lasts ha
end Go.Proofs.Ytldinlipajjmoaa.D
