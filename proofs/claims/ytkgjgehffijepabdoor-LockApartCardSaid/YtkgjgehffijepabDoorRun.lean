/-
  D's code run step by step, as 'simp' likes it; arguments by their kinds.
-/
import Derived.Test.YtkgjgehffijepabDoorLaw
set_option linter.unusedVariables false
set_option linter.unusedSimpArgs false
namespace Go.PM
section
variable (G : Nat → Option (List IV)) (K : Callee) (lo : Nat)
noncomputable section

def thenRun (r : Option (Ex × St)) (b : DC) : Option (Ex × St) := match r with
  | some (.norm, s) => b.run G K lo s
  | r => r
def condRun (c : Option DV) (a b : DC) (s : St) : Option (Ex × St) := match c with
  | some (.imm (.bool true)) => a.run G K lo s
  | some (.imm (.bool false)) => b.run G K lo s
  | _ => none
def blockRun (id : Nat) (r : Option (Ex × St)) : Option (Ex × St) := match r with
  | some (.exit i, s) => if i = id then some (.norm, s) else some (.exit i, s)
  | r => r
def regRun (r : Option (St × List Acc)) (os : List DO) : Option (Ex × St) := match r with
  | some (s, _) => (opsRun G K lo os s).map fun r => (.norm, r.1)
  | none => none
def opsThen (r : Option (St × List Acc)) (os : List DO) : Option (St × List (List Acc)) := match r with
  | some (s, a) => (opsRun G K lo os s).map fun r => (r.1, a :: r.2)
  | none => none
def calmRun (bef : List (List Nat)) (r : Option (St × List (List Acc))) : Option (Ex × St) := match r with
  | some (s, accs) => if calm bef accs then some (.norm, s) else none
  | none => none
def loopRun (live own : List Nat) (b : DC) (s : St) : Option (Ex × St) := b.run G K lo { s with T := keep s.T live, L := keep s.L own }

end
variable {G K lo}
theorem run_skip {s : St} : DC.skip.run G K lo s = some (.norm, s) := rfl
theorem run_ret {s : St} : DC.ret.run G K lo s = some (.ret, s) := rfl
theorem run_exit {id : Nat} {s : St} : (DC.exit id).run G K lo s = some (.exit id, s) := rfl
theorem run_seq {a b : DC} {s : St} : (DC.seq a b).run G K lo s = thenRun G K lo (a.run G K lo s) b := rfl
theorem run_cond {c : Opd} {a b : DC} {s : St} : (DC.cond c a b).run G K lo s = condRun G K lo (ev G s.T.get c) a b s := rfl
theorem run_block {id : Nat} {b : DC} {s : St} : (DC.block id b).run G K lo s = blockRun id (b.run G K lo s) := rfl
theorem run_reg0 {s : St} : (DC.reg []).run G K lo s = some (.norm, s) := rfl
theorem run_reg {o : DO} {os : List DO} {s : St} : (DC.reg (o :: os)).run G K lo s = regRun G K lo (opRun G K lo o s) os := by
  simp only [DC.run, opsRun, regRun]
  cases opRun G K lo o s with
  | none => rfl
  | some r => simp [Option.map_map, Function.comp_def]
theorem run_drw {ops : List DO} {bef : List (List Nat)} {s : St} : (DC.drw ops bef).run G K lo s = calmRun bef (opsRun G K lo ops s) := rfl
theorem run_loop {live own : List Nat} {b : DC} {s : St} : (DC.loop live own b).run G K lo s = iter (loopRun G K lo live own b) LOOP s := rfl
theorem then_norm {b : DC} {s : St} : thenRun G K lo (some (.norm, s)) b = b.run G K lo s := rfl
theorem then_ret {b : DC} {s : St} : thenRun G K lo (some (.ret, s)) b = some (.ret, s) := rfl
theorem then_exit {b : DC} {i : Nat} {s : St} : thenRun G K lo (some (.exit i, s)) b = some (.exit i, s) := rfl
theorem cd_true {a b : DC} {s : St} : condRun G K lo (some (.imm (.bool true))) a b s = a.run G K lo s := rfl
theorem cd_false {a b : DC} {s : St} : condRun G K lo (some (.imm (.bool false))) a b s = b.run G K lo s := rfl
theorem block_norm {id : Nat} {s : St} : blockRun id (some (.norm, s)) = some (.norm, s) := rfl
theorem block_ret {id : Nat} {s : St} : blockRun id (some (.ret, s)) = some (.ret, s) := rfl
theorem block_exit {id i : Nat} {s : St} : blockRun id (some (.exit i, s)) = if i = id then some (.norm, s) else some (.exit i, s) := rfl
theorem reg_nil {s : St} {a : List Acc} : regRun G K lo (some (s, a)) [] = some (.norm, s) := rfl
theorem reg_cons {s : St} {a : List Acc} {o : DO} {os : List DO} : regRun G K lo (some (s, a)) (o :: os) = regRun G K lo (opRun G K lo o s) os := by
  rw [← run_reg]; rfl
theorem ops_nil {s : St} : opsRun G K lo [] s = some (s, []) := rfl
theorem ops_cons {s : St} {o : DO} {os : List DO} : opsRun G K lo (o :: os) s = opsThen G K lo (opRun G K lo o s) os := by
  simp only [opsRun, opsThen]
  cases opRun G K lo o s <;> rfl
theorem opsThen_nil {s : St} {a : List Acc} : opsThen G K lo (some (s, a)) [] = some (s, [a]) := rfl
theorem opsThen_cons {s : St} {a : List Acc} {o : DO} {os : List DO} : opsThen G K lo (some (s, a)) (o :: os) = (opsThen G K lo (opRun G K lo o s) os).map fun r => (r.1, a :: r.2) := by
  rw [← ops_cons]; rfl
theorem calm_some {bef : List (List Nat)} {s : St} {accs : List (List Acc)} : calmRun bef (some (s, accs)) = if calm bef accs then some (.norm, s) else none := rfl
theorem loopRun_eq {live own : List Nat} {b : DC} {s : St} : loopRun G K lo live own b s = b.run G K lo ⟨keep s.T live, keep s.L own, s.H, s.n⟩ := rfl

theorem iter_norm {f : St → Option (Ex × St)} {k : Nat} {s s' : St} (h : f s = some (.norm, s')) : iter f (k + 1) s = iter f k s' := by simp [iter, h]
theorem iter_stop {f : St → Option (Ex × St)} {k : Nat} {s s' : St} {e : Ex} (h : f s = some (e, s')) (he : e ≠ .norm) : iter f (k + 1) s = some (e, s') := by
  simp only [iter, h]
  cases e <;> first | rfl | exact absurd rfl he

/-- A loop: what holds at its head, and how many rounds are left at most. -/
theorem iter_ind {f : St → Option (Ex × St)} (I : Nat → St → Prop) (Q : Ex → St → Prop) (h : ∀ m s, I m s → (∃ s' m', f s = some (.norm, s') ∧ m' < m ∧ I m' s') ∨ ∃ e s', f s = some (e, s') ∧ e ≠ .norm ∧ Q e s') :
    ∀ (m k : Nat) (s : St), I m s → m < k → ∃ e s', iter f k s = some (e, s') ∧ e ≠ .norm ∧ Q e s' := by
  intro m
  induction m using Nat.strongRecOn with
  | _ m ih =>
    intro k s hI hk
    obtain ⟨k, rfl⟩ : ∃ k', k = k' + 1 := ⟨k - 1, by omega⟩
    rcases h m s hI with ⟨s', m', h1, h2, h3⟩ | ⟨e, s', h1, h2, h3⟩
    · rw [iter_norm h1]
      exact ih m' h2 k s' h3 (by omega)
    · exact ⟨e, s', iter_stop h1 h2, h2, h3⟩
end

def fnEnd (res : List DRes) (s : St) : Option (DV × PT HB × Nat) := match ressOf s res with
  | some [v] => if v.out then some (v, s.H, s.n) else none
  | some vs => if DV.out.outs vs then some (.tup vs, s.H, s.n) else none
  | none => none
def fnRes (res : List DRes) (r : Option (Ex × St)) : Option (DV × PT HB × Nat) := match r with
  | some (.norm, s) => fnEnd res s
  | some (.ret, s) => fnEnd res s
  | _ => none
theorem fn_run {G : Nat → Option (List IV)} {K : Callee} {lo np : Nat} {res : List DRes} {body : DC} {args : List DV} {H : PT HB} {n : Nat} :
    (DFn.mk np res body).run G K args H n lo = if args.length = np then fnRes res (body.run G K lo ⟨argsT 0 args, .lf, H, n⟩) else none := by
  simp only [DFn.run]
  split
  · cases h : body.run G K lo ⟨argsT 0 args, .lf, H, n⟩ with
    | none => rfl
    | some r =>
      obtain ⟨e, s⟩ := r
      cases e <;> rfl
  · rfl
theorem res_norm {res : List DRes} {s : St} : fnRes res (some (.norm, s)) = fnEnd res s := rfl
theorem res_ret {res : List DRes} {s : St} : fnRes res (some (.ret, s)) = fnEnd res s := rfl
theorem dcall_fn {G : Nat → Option (List IV)} {D : FuncId → Option Entry} {d : Nat} {f : FuncId} {fn : DFn} (h : D f = some (.fn fn)) {args : List DV} {H : PT HB} {n lo : Nat} :
    dcall G D (d + 1) f args H n lo = fn.run G (dcall G D d) args H n lo := by simp only [dcall, h]

theorem out_imm {v : IV} : (DV.imm v).out = true := rfl
theorem out_ptr {i r o : Nat} : (DV.ptr i r o).out = true := rfl
theorem out_sl {i r l c : Nat} : (DV.sl i r l c).out = true := rfl
theorem cells_imm {v : IV} : (DV.imm v).cells = [.imm v] := rfl
theorem cells_ptr {i r o : Nat} : (DV.ptr i r o).cells = [.ptr i r o] := rfl
theorem cells_sl {i r l c : Nat} : (DV.sl i r l c).cells = [.sl i r l c] := rfl
theorem cells_agg {cs : List DV} : (DV.agg cs).cells = cs := rfl
theorem scal_int {k : IntKind} {n : Int} : (DV.imm (.int k n)).scal = true := rfl
theorem scal_bool {b : Bool} : (DV.imm (.bool b)).scal = true := rfl
theorem scal_str {s : List UInt8} : (DV.imm (.str s)).scal = true := rfl
theorem scal_nils : (DV.imm .nils).scal = true := rfl
theorem scal_nilp : (DV.imm .nilp).scal = true := rfl
theorem scal_lst {f : Bool} {sz : Nat} {es : List (List IV)} : (DV.imm (.lst f sz es)).scal = true := rfl
theorem scal_ptr {i r o : Nat} : (DV.ptr i r o).scal = true := rfl
theorem scal_sl {i r l c : Nat} : (DV.sl i r l c).scal = true := rfl

/-! ### Answers -/
def ansT : Option (DV × PT HB × Nat) → Bool
  | some (.imm (.bool true), _, _) => true
  | _ => false
theorem ansT_spec {r : Option (DV × PT HB × Nat)} (h : ansT r = true) : ∃ H' n', r = some (.imm (.bool true), H', n') := by
  unfold ansT at h
  split at h
  · exact ⟨_, _, rfl⟩
  · cases h

/-! ### Arguments -/
theorem fit0 {r : List (Bool × List Kd)} {cs : List DV} (h : ArgsFit [] cs) : cs = [] := by
  cases cs with
  | nil => rfl
  | cons => exact h.elim
theorem fit_cons {ag : Bool} {ks : List Kd} {r : List (Bool × List Kd)} {cs : List DV} (h : ArgsFit ((ag, ks) :: r) cs) : ∃ d ds, cs = d :: ds ∧ ArgFit ag ks d ∧ ArgsFit r ds := by
  cases cs with
  | nil => exact h.elim
  | cons d ds => exact ⟨d, ds, rfl, h.1, h.2⟩
theorem fit_i {k : IntKind} {d : DV} (h : ArgFit false [.i k] d) : ∃ n : Int, d = .imm (.int k n) ∧ (Lit.int k n).wf = true := by
  obtain ⟨k', iv, hk, rfl, hf⟩ := h
  cases hk
  cases hf with
  | i h => exact ⟨_, rfl, h⟩
theorem fit_b {d : DV} (h : ArgFit false [.b] d) : ∃ b : Bool, d = .imm (.bool b) := by
  obtain ⟨k', iv, hk, rfl, hf⟩ := h
  cases hk
  cases hf
  exact ⟨_, rfl⟩
theorem fit_s {ks : List Kd} {d : DV} (h : ArgFit false [.sl ks] d) : ∃ iv, d = .imm iv ∧ FitK (.sl ks) iv := by
  obtain ⟨k', iv, hk, rfl, hf⟩ := h
  cases hk
  exact ⟨_, rfl, hf⟩
theorem wf_i64 {n : Int} (h : (Lit.int .i64 n).wf = true) : -2 ^ 63 ≤ n ∧ n < 2 ^ 63 := by
  simp only [Lit.wf, IntKind.min, IntKind.max, IntKind.signed, IntKind.bits] at h
  simp at h
  omega
end Go.PM
