/-
  Functions: what D's table of functions computes, the model's calls compute.
-/
import Derived.Test.YtkgjgehffijepabDoorSimR
set_option linter.unusedVariables false
set_option linter.unusedSimpArgs false
namespace Go.PM

def resOk (P : Program) : List ResultVar → List DRes → Bool
  | [], [] => true
  | .tmp t :: rs, .t k :: ds => t == k && resOk P rs ds
  | .cell a t :: rs, .cell slot n agg :: ds => a == slot && szOk P t n && aggOk P t agg && resOk P rs ds
  | _, _ => false

/-- Is D's function that of the program? -/
def fnOk (P : Program) (f : FuncId) (d : DFn) : Bool :=
  match P.funcs[f]? with
  | some fn => fn.name != "runtime.NumGoroutine" && (match fn.body with
    | some c => okC P fn.ntmps c d.body && resOk P fn.results.toList d.res
    | none => false)
  | none => false

section
variable {P : Program} {lo : Nat} {Tch : Nat → Prop} {φ : Phi} {σ : Sig} {G : Nat → Option (List IV)} {a : Act} {w : World} {nt N : Nat} {K : Callee}

theorem argsT_get : ∀ (args : List DV) (i k : Nat), (argsT i args).get k = if i ≤ k then args[k - i]? else none
  | [], i, k => by simp [argsT, PT.get]
  | v :: vs, i, k => by
    simp only [argsT, PT.get_put, argsT_get vs (i + 1) k]
    by_cases h : k = i
    · subst h; simp
    · rw [if_neg h]
      by_cases h1 : i ≤ k
      · rw [if_pos h1, if_pos (by omega)]
        obtain ⟨m, hm⟩ : ∃ m, k - i = m + 1 := ⟨k - i - 1, by omega⟩
        rw [hm, show k - (i + 1) = m by omega]; rfl
      · rw [if_neg h1, if_neg (by omega)]

def resV (tmps : Array Value) : ResultVar → Sem Value
  | .tmp t => Pure.pure (tmps.getD t undef)
  | .cell x t => do loadVar t (← asAddr (tmps.getD x undef))

theorem results_eq (fn : Func) (tmps : Array Value) : results fn tmps = (do
    let vs ← fn.results.mapM (resV tmps)
    Pure.pure (if h : vs.size = 1 then vs[0] else .tuple vs)) := rfl

theorem res_sound {s : St} (hS : SR lo Tch φ σ G nt N s a w) : ∀ {rs : List ResultVar} {ds : List DRes}, resOk P rs ds = true → ∀ {vs : List DV}, ressOf s ds = some vs →
    ∃ rvs : List Value, (rs.mapM (resV a.tmps)).run P w = .ok rvs w ∧ rvs.length = vs.length ∧ ∀ (i : Nat) c v, vs[i]? = some c → rvs[i]? = some v → RepD φ σ c v
  | [], [], _, vs, hv => by simp [ressOf] at hv; subst hv; exact ⟨[], by simp, rfl, by simp⟩
  | r :: rs, d :: ds, hok, vs, hv => by
    simp only [ressOf] at hv
    split at hv
    · rename_i v vs' h1 h2
      cases hv
      have one : resOk P rs ds = true ∧ ∃ rv, (resV a.tmps r).run P w = .ok rv w ∧ RepD φ σ v rv := by
        cases r with
        | tmp t =>
          cases d with
          | t k =>
            simp only [resOk, Bool.and_eq_true, beq_iff_eq] at hok
            obtain ⟨rfl, h3⟩ := hok
            simp only [resOf] at h1
            obtain ⟨rv, q1, q2⟩ := hS.fr.rel.tmp _ _ h1
            exact ⟨h3, rv, by simp [resV, q1], q2⟩
          | cell => simp [resOk] at hok
        | cell x t =>
          cases d with
          | t k => simp [resOk] at hok
          | cell slot k agg =>
            simp only [resOk, Bool.and_eq_true, beq_iff_eq] at hok
            obtain ⟨⟨⟨rfl, hs⟩, hagg⟩, h3⟩ := hok
            simp only [resOf] at h1
            split at h1
            · rename_i sl id id' cells g1 g2
              split at h1
              · rename_i hc
                obtain ⟨rfl, rfl⟩ := hc
                split at h1
                · rename_i r g3
                  obtain ⟨rp, q1, q2⟩ := hS.fr.rel.tmp _ _ g1
                  have hld : loadOf s.L.get s.H.get s.n k agg (.lref sl id 0) = some { v, n' := s.n, acc := [.rL sl] } := by
                    simp [loadOf, g2, g3, h1]
                  obtain ⟨rv, z1, z2, _⟩ := load_op (P := P) hS.fr.rel q2 hld hs hagg
                  refine ⟨h3, rv, ?_, z2⟩
                  cases q2 with
                  | lref hb =>
                    rw [Instr.loadAt] at z1
                    simp only [resV, Array.getD_eq_getD_getElem?, q1, Option.getD_some]
                    simp only [Sem.run_bind, Instr.sureAddr, asAddr, Sem.run_pure, Result.andThen_ok] at z1 ⊢
                    exact z1
                · cases h1
              · cases h1
            · cases h1
      obtain ⟨h3, rv, z1, z2⟩ := one
      obtain ⟨rvs, y1, y2, y3⟩ := res_sound hS h3 h2
      refine ⟨rv :: rvs, ?_, by simp [y2], fun i c u hc hu => ?_⟩
      · rw [List.mapM_cons]
        simp only [Sem.run_bind, z1, Result.andThen_ok, y1, Sem.run_pure]
      · cases i with
        | zero => simp at hc hu; subst hc hu; exact z2
        | succ i => simp at hc hu; exact y3 i c u hc hu
    · cases hv
  | [], _ :: _, hok, _, _ => by simp [resOk] at hok
  | .tmp _ :: _, [], hok, _, _ => by simp [resOk] at hok
  | .cell .. :: _, [], hok, _, _ => by simp [resOk] at hok

theorem fn_cases {fn : DFn} {args : List DV} {H : PT HB} {n : Nat} {v : DV} {H' : PT HB} {n' : Nat} (h : fn.run G K args H n lo = some (v, H', n')) :
    ∃ e s vs, fn.body.run G K lo ⟨argsT 0 args, .lf, H, n⟩ = some (e, s) ∧ (e = .norm ∨ e = .ret) ∧ ressOf s fn.res = some vs ∧ H' = s.H ∧ n' = s.n ∧ (vs = [v] ∨ (vs.length ≠ 1 ∧ v = .tup vs)) := by
  unfold DFn.run at h
  have key : ∀ (s : St), (match ressOf s fn.res with
      | some [v] => if v.out then some (v, s.H, s.n) else none
      | some vs => if DV.out.outs vs then some (.tup vs, s.H, s.n) else none
      | none => none) = some (v, H', n') → ∃ vs, ressOf s fn.res = some vs ∧ H' = s.H ∧ n' = s.n ∧ (vs = [v] ∨ (vs.length ≠ 1 ∧ v = .tup vs)) := fun s h => by
    split at h
    · rename_i v0 h1
      split at h
      · cases h; exact ⟨_, h1, rfl, rfl, .inl rfl⟩
      · cases h
    · rename_i vs hne h1
      split at h
      · cases h
        refine ⟨_, h1, rfl, rfl, .inr ⟨fun hl => ?_, rfl⟩⟩
        obtain ⟨x, hx⟩ := List.length_eq_one_iff.1 hl
        subst hx
        exact hne x rfl
      · cases h
    · cases h
  split at h
  · split at h
    · rename_i s h1
      obtain ⟨vs, q⟩ := key s h
      exact ⟨.norm, s, vs, h1, .inl rfl, q⟩
    · rename_i s h1
      obtain ⟨vs, q⟩ := key s h
      exact ⟨.ret, s, vs, h1, .inr rfl, q⟩
    · cases h
  · cases h

/-- What a function that is told by itself must keep. -/
structure POk (P : Program) (G : Nat → Option (List IV)) (f : FuncId) (g : List DV → PT HB → Nat → Nat → Option (DV × PT HB × Nat)) : Prop where
  snd : ∀ args H n lo v H' n', g args H n lo = some (v, H', n') → lo ≤ n → (∀ id, H.get id ≠ none → id < n) →
    ∀ Tch φ σ w rargs, GRel σ G → (∀ b, w.heap.size ≤ b → Tch b) → Rel lo Tch φ σ noT noL H.get #[] w → RepDs φ σ args rargs → Fresh φ n n' →
      Calls P f rargs w (CPost lo Tch φ σ noT noL H'.get #[] w n n' v)
  mon : ∀ args H n lo v H' n', g args H n lo = some (v, H', n') → Mon n n' H.get H'.get
  fun_ : ∃ fn, P.funcs[f]? = some fn ∧ fn.body.isSome = true ∧ fn.name ≠ "runtime.NumGoroutine"

def Entry.ok (P : Program) (G : Nat → Option (List IV)) (f : FuncId) : Entry → Prop
  | .fn d => fnOk P f d = true
  | .prim g => POk P G f g

theorem fnOk_spec {f : FuncId} {d : DFn} (h : fnOk P f d = true) : ∃ fn c, P.funcs[f]? = some fn ∧ fn.body = some c ∧ fn.name ≠ "runtime.NumGoroutine" ∧ okC P fn.ntmps c d.body = true ∧ resOk P fn.results.toList d.res = true := by
  unfold fnOk at h
  split at h
  · rename_i fn hf
    simp only [Bool.and_eq_true, bne_iff_ne, ne_eq] at h
    obtain ⟨h1, h2⟩ := h
    split at h2
    · rename_i c hc
      simp only [Bool.and_eq_true] at h2
      exact ⟨fn, c, hf, hc, h1, h2.1, h2.2⟩
    · cases h2
  · cases h

theorem fn_sound (hK : KOk P G K) (hm : P.follows .mixedOrders = true) {f : FuncId} {d : DFn} (hok : fnOk P f d = true) : POk P G f (d.run G K) := by
  obtain ⟨fn, c, hf, hb, hn, hc, hr⟩ := fnOk_spec hok
  refine ⟨?_, ?_, fn, hf, by rw [hb]; rfl, hn⟩
  · intro args H n lo v H' n' hrun hlo hlv Tch φ σ w rargs hG hT hR ha hF
    obtain ⟨e, s, vs, h1, h2, h3, rfl, rfl, h4⟩ := fn_cases hrun
    refine calls_of_wp hf hb ?_
    have hS : SR lo Tch φ σ G fn.ntmps s.n ⟨argsT 0 args, .lf, H, n⟩ { tmps := rargs ++ Array.replicate (fn.ntmps - rargs.size) undef, defers := [] } w := by
      refine ⟨⟨⟨hR.sig, fun i j bi bj li lj => hR.inj i j bi bj ?_ ?_, hR.rng, hR.heap, fun k v hk => by simp [PT.get] at hk, fun k k' v v' hk => by simp [PT.get] at hk, fun k v hk => ?_⟩, rfl, by simp; omega, hG, hT⟩, hF, hlv, hlo⟩
      · rcases li with h | ⟨k, v, h, _⟩
        · exact .inl h
        · simp [PT.get] at h
      · rcases lj with h | ⟨k, v, h, _⟩
        · exact .inl h
        · simp [PT.get] at h
      · simp only [argsT_get, Nat.zero_le, if_true, Nat.sub_zero] at hk
        obtain ⟨rv, q1, q2⟩ := ha.get hk
        refine ⟨rv, ?_, q2⟩
        rw [Array.getElem?_append_left (Array.getElem?_eq_some_iff.1 q1).1]; exact q1
    have fin : ∀ a' w' φ' σ', SR lo Tch φ' σ' G fn.ntmps s.n s a' w' → Grow φ φ' σ σ' n s.n w → Fr Tch w w' →
        a'.defers = [] ∧ ∃ rv, (results fn a'.tmps).run P w' = .ok rv w' ∧ CPost lo Tch φ σ noT noL s.H.get #[] w n s.n v (.returned rv) w' := fun a' w' φ' σ' hS' hg hf' => by
      obtain ⟨rvs, y1, y2, y3⟩ := res_sound (P := P) hS' hr h3
      have hrel : Rel lo Tch φ' σ' noT noL s.H.get #[] w' := hS'.fr.rel.enter (fun id hb bi hl h5 h6 => by
        obtain ⟨bi', g1, _, g3⟩ := hS'.fr.rel.heap id hb h5
        rw [h6] at g1; cases g1
        exact g3 hl)
      have hres : (results fn a'.tmps).run P w' = .ok (if h : rvs.toArray.size = 1 then rvs.toArray[0] else .tuple rvs.toArray) w' := by
        rw [results_eq, Array.mapM_eq_mapM_toList]
        simp only [Sem.run_bind, Sem.run_map, y1, Result.andThen_ok, Sem.run_pure]
      refine ⟨hS'.fr.defs, _, hres, φ', σ', hrel, hg, hf', ?_⟩
      rcases h4 with rfl | ⟨h4, rfl⟩
      · obtain ⟨x, hx⟩ := List.length_eq_one_iff.1 y2
        subst hx
        exact y3 0 v x rfl rfl
      · have : ¬ rvs.toArray.size = 1 := by simpa [y2] using h4
        rw [dif_neg this]
        exact .tup (by simp [y2]) (fun i c u h5 h6 => y3 i c u h5 (by simpa using h6))
    refine code_sound hK hm hc h1 hS (Nat.le_refl _) ?_
    intro a' w' φ' σ' hS' hg hf'
    rcases h2 with rfl | rfl
    · exact fin a' w' φ' σ' hS' hg hf'
    · exact fin a' w' φ' σ' hS' hg hf'
  · intro args H n lo v H' n' hrun
    obtain ⟨e, s, vs, h1, h2, h3, rfl, rfl, h4⟩ := fn_cases hrun
    exact run_mon hK.kmon h1

/-- D's calls are the model's. -/
theorem dcall_ok (hm : P.follows .mixedOrders = true) {D : FuncId → Option Entry} (hD : ∀ f e, D f = some e → e.ok P G f) : ∀ depth, KOk P G (dcall G D depth) := by
  intro depth
  induction depth with
  | zero => exact ⟨by intros; simp [dcall] at *, by intros; simp [dcall] at *, by intros; simp [dcall] at *⟩
  | succ k ih =>
    have one : ∀ f e, D f = some e → POk P G f (match e with | .fn d => d.run G (dcall G D k) | .prim g => g) := fun f e he => by
      have := hD f e he
      cases e with
      | fn d => exact fn_sound ih hm this
      | prim g => exact this
    refine ⟨fun f args H n lo v H' n' h => ?_, fun f args H n lo v H' n' h => ?_, fun f args H n lo r h => ?_⟩
    · simp only [dcall] at h
      cases he : D f with
      | none => rw [he] at h; cases h
      | some e =>
        rw [he] at h
        cases e with
        | fn d => exact (one f _ he).snd args H n lo v H' n' h
        | prim g => exact (one f _ he).snd args H n lo v H' n' h
    · simp only [dcall] at h
      cases he : D f with
      | none => rw [he] at h; cases h
      | some e =>
        rw [he] at h
        cases e with
        | fn d => exact (one f _ he).mon args H n lo v H' n' h
        | prim g => exact (one f _ he).mon args H n lo v H' n' h
    · simp only [dcall] at h
      cases he : D f with
      | none => rw [he] at h; cases h
      | some e => exact (one f e he).fun_
end
end Go.PM
