/-
  One operation, in D and in the model: all of them.
-/
import Derived.Test.YtkgjgehffijepabDoorSimJ
set_option linter.unusedVariables false
set_option linter.unusedSimpArgs false
namespace Go.PM
section
variable {P : Program} {lo : Nat} {Tch : Nat → Prop} {φ : Phi} {σ : Sig} {G : Nat → Option (List IV)} {T : Nat → Option DV} {L : Nat → Option LV} {h : Nat → Option HB} {a : Act} {w : World} {n : Nat}

/-- An operation runs as D says. -/
def OpRuns (P : Program) (lo : Nat) (Tch : Nat → Prop) (φ : Phi) (σ : Sig) (T : Nat → Option DV) (L : Nat → Option LV) (h : Nat → Option HB) (a : Act) (w : World) (n : Nat) (o : Oper) (e : Eff) : Prop :=
  ∃ nx rv w' φ' σ', (execOp a.eval o).run P w = .ok nx w' ∧ (nx = .value rv ∨ (nx = .skip ∧ rv = undef)) ∧ OpOut lo Tch φ σ T L h a.tmps w n e rv w' φ' σ'

theorem of_does {o : Oper} {s : Sem Value} {e : Eff} (hx : (execOp a.eval o).run P w = (s.run P w).andThen fun v w' => .ok (.value v) w') (hd : Does P lo Tch φ σ T L h a w n s e) : OpRuns P lo Tch φ σ T L h a w n o e := by
  obtain ⟨rv, w', φ', σ', h1, h2⟩ := hd
  exact ⟨.value rv, rv, w', φ', σ', by rw [hx, h1]; rfl, .inl rfl, h2⟩

theorem of_does' {o : Oper} {s : Sem Value} {e : Eff} (hx : execOp a.eval o = (s >>= fun v => Pure.pure (Next.value v))) (hd : Does P lo Tch φ σ T L h a w n s e) : OpRuns P lo Tch φ σ T L h a w n o e :=
  of_does (by rw [hx, Sem.run_bind]; rfl) hd

theorem of_run {o : Oper} {s : Sem Value} {rv : Value} {v : DV} {acc : List Acc} (hR : Rel lo Tch φ σ T L h a.tmps w) (hx : execOp a.eval o = (s >>= fun v => Pure.pure (Next.value v))) (hs : s.run P w = .ok rv w)
    (hv : RepD φ σ v rv) : OpRuns P lo Tch φ σ T L h a w n o { v, n' := n, acc } := of_does' hx (.pure hR hs hv)

theorem of_pure {o : Oper} {rv : Value} {v : DV} {acc : List Acc} (hR : Rel lo Tch φ σ T L h a.tmps w) (hx : (execOp a.eval o).run P w = .ok (.value rv) w) (hv : RepD φ σ v rv) :
    OpRuns P lo Tch φ σ T L h a w n o { v, n' := n, acc } := ⟨.value rv, rv, w, φ, σ, hx, .inl rfl, OpOut.pure hR hv⟩

theorem give_some {v : Option DV} {e : Eff} (h : give n v = some e) : ∃ x, v = some x ∧ e = { v := x, n' := n } := by
  simp only [give, Option.map_eq_some_iff] at h
  obtain ⟨x, h1, h2⟩ := h; exact ⟨x, h1, h2.symm⟩
theorem giveI_some {v : Option IV} {e : Eff} (h : giveI n v = some e) : ∃ x, v = some x ∧ e = { v := .imm x, n' := n } := by
  simp only [giveI, Option.map_eq_some_iff] at h
  obtain ⟨x, h1, h2⟩ := h; exact ⟨x, h1, h2.symm⟩

theorem okOpd_nil {x : Operand} {i : IV} (hi : i = .nilp ∨ i = .nils ∨ i = .nilf ∨ i = .nili) (hx : okOpd x (.k i) = true) : ∃ v, x = .const v ∧ sameIV v i = true := by
  unfold okOpd at hx
  split at hx <;> rename_i heq <;> first
    | (cases heq; exact ⟨_, rfl, hx⟩)
    | cases heq
    | cases hx

theorem isNilK_k {e : ET} {y : Opd} (h : isNilK e y = true) : ∃ i, y = .k i ∧ (i = .nilp ∨ i = .nils ∨ i = .nilf ∨ i = .nili) := by
  unfold isNilK at h
  split at h <;> first | exact ⟨_, rfl, by simp⟩ | cases h

theorem bin_op (hR : Rel lo Tch φ σ T L h a.tmps w) (hG : GRel σ G) {op : BinOp} {t : TypeId} {e : ET} {x y : Operand} {x' y' : Opd} (hx : okOpd x x' = true) (hy : okOpd y y' = true) (het : etOk P t e = true)
    {vx vy : DV} (hvx : ev G T x' = some vx) (hvy : ev G T y' = some vy) {r : IV} (hr : binOf op e x' y' vx vy = some r) :
    ∃ rv, (do eqGuard op t x y (a.eval x) (a.eval y); binOp op t (a.eval x) (a.eval y) : Sem Value).run P w = .ok rv w ∧ RepI σ r rv := by
  have rx := ev_rep hR hG hx hvx
  have ry := ev_rep hR hG hy hvy
  have plain : ∀ {u v : Value}, a.eval x = u → a.eval y = v → ¬ (u = .nilIface ∧ v = .nilIface) → (∀ xs ys, ¬ (u = .agg xs ∧ v = .agg ys)) → (∃ rv, (binOp op t u v).run P w = .ok rv w ∧ RepI σ r rv) →
      ∃ rv, (do eqGuard op t x y (a.eval x) (a.eval y); binOp op t (a.eval x) (a.eval y) : Sem Value).run P w = .ok rv w ∧ RepI σ r rv := fun {u v} hu hv h1 h2 ⟨rv, h3, h4⟩ => by
    refine ⟨rv, ?_, h4⟩
    rw [hu, hv]
    simp only [Sem.run_bind, run_eqGuard_plain (P := P) (w := w) op t x y u v h1 h2, Result.andThen_ok, h3]
  have nilcase : (∀ ks, e ≠ .st ks) → e ≠ .sc → e ≠ .bl → ∃ rv, (do eqGuard op t x y (a.eval x) (a.eval y); binOp op t (a.eval x) (a.eval y) : Sem Value).run P w = .ok rv w ∧ RepI σ r rv := fun h1 h2 h3 => by
    have hr' : (∃ b neq, (neq = true ↔ op = .neq) ∧ (op = .eql ∨ op = .neq) ∧ r = flip neq b ∧ ((isNilK e y' = true ∧ isNil e vx = some b) ∨ (isNilK e x' = true ∧ isNil e vy = some b))) := by
      have aux : ∀ neq, (if isNilK e y' then (isNil e vx).map (flip neq) else if isNilK e x' then (isNil e vy).map (flip neq) else none) = some r →
          ∃ b, r = flip neq b ∧ ((isNilK e y' = true ∧ isNil e vx = some b) ∨ (isNilK e x' = true ∧ isNil e vy = some b)) := fun neq hh => by
        split at hh
        · rename_i hy'
          simp only [Option.map_eq_some_iff] at hh
          obtain ⟨b, q1, q2⟩ := hh
          exact ⟨b, q2.symm, .inl ⟨hy', q1⟩⟩
        · split at hh
          · rename_i hx'
            simp only [Option.map_eq_some_iff] at hh
            obtain ⟨b, q1, q2⟩ := hh
            exact ⟨b, q2.symm, .inr ⟨hx', q1⟩⟩
          · cases hh
      cases e with
      | sc => exact absurd rfl h2
      | bl => exact absurd rfl h3
      | st ks => exact absurd rfl (h1 ks)
      | _ =>
        simp only [binOf] at hr
        cases op <;> simp only at hr
        case eql => obtain ⟨b, q1, q2⟩ := aux false hr; exact ⟨b, false, by simp, .inl rfl, q1, q2⟩
        case neq => obtain ⟨b, q1, q2⟩ := aux true hr; exact ⟨b, true, by simp, .inr rfl, q1, q2⟩
        all_goals cases hr
    obtain ⟨b, neq, hneq, hop, rfl, hcase⟩ := hr'
    have fin : ∀ {u v : Value}, a.eval x = u → a.eval y = v → (eqGuard op t x y u v).run P w = .ok () w → (op = .eql → (binOp .eql t u v).run P w = .ok (.bool b) w) → (op = .neq → (binOp .neq t u v).run P w = .ok (.bool (!b)) w) →
        ∃ rv, (do eqGuard op t x y (a.eval x) (a.eval y); binOp op t (a.eval x) (a.eval y) : Sem Value).run P w = .ok rv w ∧ RepI σ (flip neq b) rv := fun {u v} hu hv hg q1 q2 => by
      rw [hu, hv]
      rcases hop with rfl | rfl
      · have : neq = false := by cases neq; rfl; exact absurd (hneq.1 rfl) (by simp)
        subst this
        exact ⟨.bool b, by simp only [Sem.run_bind, hg, Result.andThen_ok, q1 rfl], .bool⟩
      · have : neq = true := hneq.2 rfl
        subst this
        exact ⟨.bool (!b), by simp only [Sem.run_bind, hg, Result.andThen_ok, q2 rfl], .bool⟩
    rcases hcase with ⟨hk, hnil⟩ | ⟨hk, hnil⟩
    · obtain ⟨i, rfl, hi⟩ := isNilK_k hk
      obtain ⟨v, rfl, hv⟩ := okOpd_nil hi hy
      obtain ⟨n1, n2, n3, ⟨n4, n5⟩, n6, n7⟩ := nil_run (P := P) (w := w) h1 h2 h3 het hnil rx hk (sameIV_rep (σ := σ) hv) 0
      exact fin rfl rfl (n3 op x (.const v) (by simp)).1 (fun _ => n4) (fun _ => n6)
    · obtain ⟨i, rfl, hi⟩ := isNilK_k hk
      obtain ⟨v, rfl, hv⟩ := okOpd_nil hi hx
      obtain ⟨n1, n2, n3, ⟨n4, n5⟩, n6, n7⟩ := nil_run (P := P) (w := w) h1 h2 h3 het hnil ry hk (sameIV_rep (σ := σ) hv) 0
      exact fin rfl rfl (n3 op (.const v) y (by simp)).2 (fun _ => n5) (fun _ => n7)
  cases e with
  | sc =>
    unfold binOf at hr
    simp only at hr
    split at hr
    · rename_i k m k' m'
      have e1 := repI_int (repD_imm rx)
      have e2 := repI_int (repD_imm ry)
      exact plain e1 e2 (by simp) (by simp) (bin_int (x := x') (y := y') (by unfold binOf; exact hr))
    · rename_i s s'
      obtain ⟨b1, e1, rfl⟩ := repI_str (repD_imm rx)
      obtain ⟨b2, e2, rfl⟩ := repI_str (repD_imm ry)
      exact plain e1 e2 (by simp) (by simp) (bin_str (x := x') (y := y') (by unfold binOf; exact hr))
    · cases hr
  | bl =>
    unfold binOf at hr
    simp only at hr
    split at hr
    · have e1 := repI_bool (repD_imm rx)
      have e2 := repI_bool (repD_imm ry)
      have hu : P.underlying t = some .bool := by
        unfold etOk at het; simp only at het
        split at het
        · assumption
        · cases het
      exact plain e1 e2 (by simp) (by simp) (bin_bool (x := x') (y := y') hu (by unfold binOf; exact hr))
    · cases hr
  | st ks =>
    have : ∃ xs ys, vx = .agg xs ∧ vy = .agg ys := by
      unfold binOf at hr; simp only at hr
      split at hr
      · exact ⟨_, _, rfl, rfl⟩
      · cases hr
    obtain ⟨xs, ys, rfl, rfl⟩ := this
    generalize a.eval x = ux at rx ⊢
    generalize a.eval y = uy at ry ⊢
    cases rx with
    | agg hl1 hr1 =>
      cases ry with
      | agg hl2 hr2 => exact bin_st het ⟨hl1, hr1⟩ ⟨hl2, hr2⟩ hr x y
  | _ => exact nilcase (by simp) (by simp) (by simp)

theorem un_op {op : UnOp} {v : DV} {rv : Value} (hv : RepD φ σ v rv) {r : IV} (hr : unOf op v = some r) : ∃ ru, (Op.unary op rv).run P w = .ok ru w ∧ RepI σ r ru := by
  unfold unOf at hr
  split at hr
  · have := repI_bool (repD_imm hv); subst this
    split at hr
    · cases hr; exact ⟨_, rfl, .bool⟩
    · cases hr
  · have := repI_int (repD_imm hv); subst this
    split at hr
    · cases hr; exact ⟨_, rfl, .int⟩
    · cases hr; exact ⟨_, rfl, .int⟩
    · cases hr
  · cases hr
end
end Go.PM
