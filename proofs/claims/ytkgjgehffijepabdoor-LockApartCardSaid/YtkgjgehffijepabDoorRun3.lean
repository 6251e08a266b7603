/-
  Loops by an invariant; calls that have nothing of the heap, by their value.
-/
import Derived.Test.YtkgjgehffijepabDoorRun2
set_option linter.unusedVariables false
set_option linter.unusedSimpArgs false
namespace Go.PM

/-- A loop over N rounds: what holds ahead of round i; how it is left. -/
theorem rng_loop {G : Nat → Option (List IV)} {K : Callee} {lo : Nat} {live own : List Nat} {b : DC} {N : Nat} (hN : N < LOOP) (I : Nat → St → Prop) (Q : Ex → St → Prop)
    (h : ∀ i s, I i s → i ≤ N → (i < N ∧ ∃ s', b.run G K lo ⟨keep s.T live, keep s.L own, s.H, s.n⟩ = some (.norm, s') ∧ I (i + 1) s') ∨
      ∃ e s', b.run G K lo ⟨keep s.T live, keep s.L own, s.H, s.n⟩ = some (e, s') ∧ e ≠ .norm ∧ Q e s') (s : St) (h0 : I 0 s) :
    ∃ e s', (DC.loop live own b).run G K lo s = some (e, s') ∧ Q e s' := by
  obtain ⟨e, s', q1, q2, q3⟩ := iter_ind (f := loopRun G K lo live own b) (fun m s => ∃ i : Nat, I i s ∧ i ≤ N ∧ m = N - i) Q
    (fun m s ⟨i, hI, hle, hm⟩ => by
      rcases h i s hI hle with ⟨hlt, s', e1, e2⟩ | ⟨e, s', e1, e2, e3⟩
      · exact .inl ⟨s', _, e1, by omega, i + 1, e2, by omega, rfl⟩
      · exact .inr ⟨e, s', e1, e2, e3⟩) N LOOP s ⟨0, h0, by omega, by omega⟩ (by omega)
  exact ⟨e, s', q1, q3⟩

/-- What a call gives that has nothing of the heap. -/
noncomputable def bl (K : Callee) (f : FuncId) (args : List DV) : Option DV := match K f args .lf 0 0 with
  | some (v, H1, _) => frz H1.get 0 v
  | none => none
theorem bl_of {K : Callee} {f : FuncId} {args : List DV} {v v' : DV} {H' : PT HB} {n' : Nat} (h : K f args .lf 0 0 = some (v, H', n')) (hf : frz H'.get 0 v = some v') : bl K f args = some v' := by
  unfold bl; rw [h]; exact hf
theorem bl_imm {K : Callee} {f : FuncId} {args : List DV} {v : IV} {H' : PT HB} {n' : Nat} (h : K f args .lf 0 0 = some (.imm v, H', n')) : bl K f args = some (.imm v) := bl_of h rfl
theorem callM_bl {K : Callee} {f : FuncId} {args : List DV} {H : PT HB} {n lo : Nat} (hp : DV.pure.pures args = true) : callM K .blind f args H n lo = (bl K f args).map fun v => ⟨v, H, n, []⟩ := by
  simp only [callM, hp, if_true, bl]
  cases K f args .lf 0 0 with
  | none => rfl
  | some r => rfl
theorem callM_ro {K : Callee} {f : FuncId} {args : List DV} {H : PT HB} {n lo : Nat} : callM K .ro f args H n lo = if DV.out.outs args then match K f args H n n with
      | some (v, H1, n1) => (frz H1.get n v).map fun v' => ⟨v', H, n1, [.rA]⟩
      | none => none
    else none := rfl
theorem callM_eff {K : Callee} {f : FuncId} {args : List DV} {H : PT HB} {n lo : Nat} : callM K .eff f args H n lo = if DV.out.outs args then (K f args H n lo).map fun r => ⟨r.1, r.2.1, r.2.2, [.wA]⟩ else none := rfl
theorem pures_nil : DV.pure.pures [] = true := Eq.trans rfl rfl
theorem pures_cons {v : DV} {vs : List DV} : DV.pure.pures (v :: vs) = (v.pure && DV.pure.pures vs) := Eq.trans rfl rfl
theorem pure_imm {v : IV} : (DV.imm v).pure = true := Eq.trans rfl rfl
theorem pure_agg {cs : List DV} : (DV.agg cs).pure = DV.pure.pures cs := Eq.trans rfl rfl
theorem frz_imm {h : Nat → Option HB} {lo : Nat} {v : IV} : frz h lo (.imm v) = some (.imm v) := rfl
theorem small {n : Nat} (h : n ≤ reachBytes) : n < LOOP := by
  have : reachBytes ≤ 2 ^ 50 := by decide
  unfold LOOP
  omega
theorem beqF {a b : Int} (h : ¬ a = b) : (a == b) = false := by simpa using h
theorem bneT {a b : Int} (h : ¬ a = b) : (a != b) = true := by simpa using h
theorem wr_succ {i n : Nat} (hi : i < n) (hn : n ≤ reachBytes) : IntKind.i64.wrap ((i : Int) + 1) = (i : Int) + 1 := by
  have : reachBytes ≤ 2 ^ 50 := by decide
  exact wr_id (by omega) (by omega)
end Go.PM
