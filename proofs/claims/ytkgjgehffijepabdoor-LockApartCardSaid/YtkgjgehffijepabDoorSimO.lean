/-
  One operation of a region, in any order.
-/
import Derived.Test.YtkgjgehffijepabDoorSimN
import Derived.Test.YtkgjgehffijepabDoorDFr
set_option linter.unusedVariables false
set_option linter.unusedSimpArgs false
namespace Go.PM

/-- D's state as functions beside a frame of the model. -/
structure FR (lo : Nat) (Tch : Nat → Prop) (φ : Phi) (σ : Sig) (G : Nat → Option (List IV)) (nt : Nat) (T : Nat → Option DV) (L : Nat → Option LV) (h : Nat → Option HB) (a : Act) (w : World) : Prop where
  rel : Rel lo Tch φ σ T L h a.tmps w
  defs : a.defers = []
  size : nt ≤ a.tmps.size
  grel : GRel σ G
  tch : ∀ b, w.heap.size ≤ b → Tch b

def updO (T : Nat → Option DV) (dst : Option Nat) (v : Option DV) : Nat → Option DV := fun k => if dst = some k then v else T k

section
variable {P : Program} {lo : Nat} {Tch : Nat → Prop} {φ : Phi} {σ : Sig} {G : Nat → Option (List IV)} {T : Nat → Option DV} {L : Nat → Option LV} {h : Nat → Option HB} {a : Act} {w : World} {n nt : Nat}
  {K : Callee}

theorem put_tmps (a : Act) (dst : Option Nat) (v : Value) : (a.put dst v).tmps.size = a.tmps.size ∧ (a.put dst v).defers = a.defers := by
  cases dst <;> simp [Act.put]

theorem Rel.put (hR : Rel lo Tch φ σ T L h a.tmps w) {dst : Option Nat} (hd : ∀ k, dst = some k → k < a.tmps.size) {v : DV} {rv : Value} (hv : RepD φ σ v rv) :
    Rel lo Tch φ σ (updO T dst (some v)) L h (a.put dst rv).tmps w := by
  refine ⟨hR.sig, hR.inj, hR.rng, hR.heap, hR.locs, hR.apart, fun k u hk => ?_⟩
  unfold updO at hk
  split at hk
  · rename_i hdk
    cases hk
    subst hdk
    refine ⟨rv, ?_, hv⟩
    simp [Act.put, hd k rfl]
  · rename_i hdk
    obtain ⟨ru, h1, h2⟩ := hR.tmp k u hk
    refine ⟨ru, ?_, h2⟩
    cases dst with
    | none => exact h1
    | some d =>
      have : d ≠ k := fun e => hdk (by rw [e])
      simp only [Act.put]
      rw [Array.getElem?_setIfInBounds_ne this]; exact h1

theorem FR.put (hR : FR lo Tch φ σ G nt T L h a w) {dst : Option Nat} (hd : ∀ k, dst = some k → k < nt) {v : DV} {rv : Value} (hv : RepD φ σ v rv) :
    FR lo Tch φ σ G nt (updO T dst (some v)) L h (a.put dst rv) w := by
  obtain ⟨p1, p2⟩ := put_tmps a dst rv
  exact ⟨hR.rel.put (fun k hk => Nat.lt_of_lt_of_le (hd k hk) hR.size) hv, p2.trans hR.defs, by rw [p1]; exact hR.size, hR.grel, hR.tch⟩

theorem run_enter {f : FuncId} {fn : Func} (hf : P.funcs[f]? = some fn) (hb : fn.body.isSome = true) (hn : fn.name ≠ "runtime.NumGoroutine") (args : Array Value) : (callFunc f args).run P w = .ok (.enter f args) w := by
  have : (fn.name == "runtime.NumGoroutine") = false := by simpa using hn
  cases hb' : fn.body with
  | none => rw [hb'] at hb; cases hb
  | some c => simp [callFunc, hf, hn, hb']

theorem wanted_sim {ops : Array Oper} {o : Oper} {d : DO} (hok : okO P nt ops o d = true) (hR : Rel lo Tch φ σ T L h a.tmps w) {b : Bool} (hw : wantedD T d = some b) : Region.wanted o (yielded ops a.tmps) = b := by
  unfold okO at hok
  simp only [Bool.and_eq_true] at hok
  have hg := hok.2
  unfold wantedD at hw
  unfold Region.wanted
  split at hg
  · rename_i h1 h2
    rw [h2] at hw
    rw [h1]
    simpa using hw
  · rename_i j w0 g w1 h1 h2
    simp only [Bool.and_eq_true, beq_iff_eq, decide_eq_true_eq] at hg
    obtain ⟨rfl, hj⟩ := hg
    rw [h2] at hw
    rw [h1]
    simp only at hw ⊢
    unfold yielded
    rw [hj]
    simp only [Option.bind_some]
    split at hw
    · rename_i b0 ht
      obtain ⟨rv, q1, q2⟩ := hR.tmp _ _ ht
      have := repI_bool (repD_imm q2)
      subst this
      rw [q1]
      cases hw
      cases b0 <;> cases w0 <;> rfl
    · rename_i ht
      obtain ⟨rv, q1, q2⟩ := hR.tmp _ _ ht
      have : rv = .tuple #[] := by
        have := repD_imm q2
        cases this; rfl
      subst this
      rw [q1]
      cases hw
      cases w0 <;> rfl
    · cases hw
  · cases hg

theorem okOp_call {dst : Option Nat} {op : Op} {m : CM} {f : FuncId} {ys : List Opd} (h : okOp P dst op (.call m f ys) = true) :
    ∃ x as ts, op = .call { callee := .value x, args := as, argTypes := ts } ∧ okOpd x (.f f) = true ∧ okOpds as.toList ys = true := by
  generalize hd : DOp.call m f ys = d at h
  unfold okOp at h
  split at h <;> try (cases hd; done)
  · cases hd
    simp only [Bool.and_eq_true] at h
    exact ⟨_, _, _, rfl, h.1.1, h.1.2⟩
  · cases h

theorem okOp_calld {dst : Option Nat} {op : Op} {m : CM} {f : Opd} {ys : List Opd} (h : okOp P dst op (.calld m f ys) = true) :
    ∃ x as ts, op = .call { callee := .value x, args := as, argTypes := ts } ∧ okOpd x f = true ∧ okOpds as.toList ys = true := by
  generalize hd : DOp.calld m f ys = d at h
  unfold okOp at h
  split at h <;> try (cases hd; done)
  · cases hd
    simp only [Bool.and_eq_true] at h
    exact ⟨_, _, _, rfl, h.1, h.2⟩
  · cases h

theorem okOpd_f {x : Operand} {f : FuncId} (h : okOpd x (.f f) = true) : a.eval x = .func (.func f) #[] #[] := by
  unfold okOpd at h
  split at h <;> rename_i heq <;> first
    | (cases heq; simp only [beq_iff_eq] at h; subst h; rfl)
    | cases heq
    | cases h

theorem op_fun (hK : KOk P G K) {ops : Array Oper} {o : Oper} {d : DO} (hok : okO P nt ops o d = true) {s s' : St} {acc : List Acc} (hd : opRun G K lo d s = some (s', acc))
    (hR : FR lo Tch φ σ G nt T L h a w) (hT : ∀ k ∈ d.ts, T k = s.T.get k) (hL : AgreeL s.L.get L acc) (hH : AgreeH s.H.get h acc) (hA : Acc.rA ∈ acc ∨ Acc.wA ∈ acc → h = s.H.get)
    (hF : Fresh φ s.n s'.n) (hlo : lo ≤ s.n) (hlv : ∀ id, s.H.get id ≠ none → id < s.n) {next : Act → World → Prop} {Q : Exit → Act → World → Prop}
    (hnext : ∀ a' w' φ' σ', FR lo Tch φ' σ' G nt (fun k => if d.dst = some k then s'.T.get k else T k) (fun k => if Acc.wL k ∈ acc then s'.L.get k else L k)
      (fun id => if Acc.wX id ∈ acc ∨ Acc.wA ∈ acc then s'.H.get id else h id) a' w' → Grow φ φ' σ σ' s.n s'.n w → Fr Tch w w' → next a' w') :
    if Region.wanted o (yielded ops a.tmps) then o.wp P a w next Q ∨ (o.asks P a w ∧ LetsOut Q) else next (a.put o.dst undef) w := by
  have hok' := hok
  unfold okO at hok'
  simp only [Bool.and_eq_true, decide_eq_true_eq] at hok'
  obtain ⟨⟨⟨hdst, hk⟩, hop⟩, hgd⟩ := hok'
  have hlt : ∀ k, o.dst = some k → k < nt := fun k hk' => by
    rw [← hdst, hk'] at hk; simpa using hk
  have hts : ∀ k ∈ d.op.ts, T k = s.T.get k := fun k hk' => hT k (by simp [DO.ts, hk'])
  have hwd : ∀ b, wantedD s.T.get d = some b → Region.wanted o (yielded ops a.tmps) = b := fun b hb => by
    refine wanted_sim hok hR.rel (T := T) ?_
    rw [← hb]
    unfold wantedD
    split
    · rfl
    · rename_i g w0 hg
      rw [hT g (by simp [DO.ts, hg])]
  have hTn : ∀ v, (fun k => if d.dst = some k then (putT s.T d.dst v).get k else T k) = updO T o.dst (some v) := fun v => by
    funext k
    simp only [updO, hdst, get_putT]
    split <;> rfl
  rcases opRun_cases hd with ⟨g1, rfl, rfl⟩ | ⟨g1, hcase⟩
  · rw [hwd _ g1]
    simp only [Bool.false_eq_true, if_false]
    refine hnext _ _ φ σ ?_ (.refl _ _ _ _ _) (.refl _ _)
    simp only [hTn]
    simp only [List.not_mem_nil, if_false, or_self]
    exact hR.put hlt (.imm .undef)
  · rw [hwd _ g1]
    simp only [if_true]
    refine .inl ?_
    -- a call
    have callcase : ∀ {m : CM} {f : FuncId} {vs : List DV} {rargs : Array Value} {e : CEff}, RepDs φ σ vs rargs → callM K m f vs s.H s.n lo = some e → s' = { s with T := putT s.T d.dst e.v, H := e.H', n := e.n' } → acc = e.acc →
        (execOp a.eval o).run P w = (callFunc f rargs).run P w → o.wp P a w next Q := fun {m f vs rargs e} ha he hs hacc hx => by
      subst hs hacc
      obtain ⟨m1, m2, m3, m4⟩ := callM_mon (fun f args H n lo v H' n' => hK.mon f args H n lo v H' n') he
      have hfun : ∃ fn, P.funcs[f]? = some fn ∧ fn.body.isSome = true ∧ fn.name ≠ "runtime.NumGoroutine" := by
        unfold callM at he
        repeat' split at he
        all_goals first
          | (cases he; done)
          | (simp only [Option.map_eq_some_iff] at he; obtain ⟨r, h1, _⟩ := he; exact hK.fun_ _ _ _ _ _ _ h1)
          | exact hK.fun_ _ _ _ _ _ _ (by assumption)
      obtain ⟨fn, f1, f2, f3⟩ := hfun
      unfold Oper.wp
      rw [hx, run_enter f1 f2 f3, Oper.upon_enter]
      refine (call_sound hK hR.rel (h' := fun id => if Acc.wX id ∈ e.acc ∨ Acc.wA ∈ e.acc then e.H'.get id else h id) hlo hlv hR.grel hR.tch ha he ?_ hF).mono fun en w' hp => ?_
      · rcases m4 with h0 | h0 | h0
        · left; refine ⟨h0, ?_⟩; funext id; simp [h0]
        · have hh := hA (.inl h0)
          right; refine ⟨hh, ?_⟩; funext id
          split
          · rfl
          · rename_i hn
            rw [hh]; exact (m2 id (fun x => hn (.inl x)) (fun x => hn (.inr x))).symm
        · have hh := hA (.inr h0)
          right; refine ⟨hh, ?_⟩; funext id
          rw [if_pos (.inr h0)]
      · cases en with
        | returned rv =>
          obtain ⟨φ', σ', q1, q2, q3, q4⟩ := hp
          refine hnext _ _ φ' σ' ?_ q2 q3
          simp only [hTn]
          have hLn : (fun k => if Acc.wL k ∈ e.acc then s.L.get k else L k) = L := by
            funext k; rw [if_neg (m3 k).1]
          rw [hLn]
          exact FR.put ⟨q1, hR.defs, hR.size, hR.grel.mono q2.sg, fun b hb => hR.tch b (Nat.le_trans q3.size hb)⟩ hlt q4
        | panicked _ => exact hp.elim
        | outgrown => exact hp.elim
    rcases hcase with ⟨m, f, args, vs, e, e1, e2, e3, e4, e5⟩ | ⟨m, f, args, g, caps, vs, e, e1, e2, e2', e3, e4, e5⟩ | ⟨e, e1, rfl, rfl⟩
    · rw [e1] at hop hts
      simp only [DOp.ts] at hts
      rw [← evs_loc hts] at e2
      obtain ⟨x, as, ts, hx, hxo, has⟩ := okOp_call hop
      have hfv : a.eval x = .func (.func f) #[] #[] := okOpd_f hxo
      have ha := evs_rep hR.rel hR.grel has e2
      have hm : (as.toList.map a.eval).toArray = as.map a.eval := by apply Array.ext'; simp
      rw [hm] at ha
      exact callcase ha e3 e4 e5 (by
        simp only [execOp, hx, resolve, hfv, Deferred.ofValue, pure_bind]
        simp [invoke])
    · rw [e1] at hop hts
      simp only [DOp.ts] at hts
      obtain ⟨t1, t2⟩ := mem2 hts
      rw [← ev_loc t1] at e2
      rw [← evs_loc t2] at e2'
      obtain ⟨x, as, ts, hx, hxo, has⟩ := okOp_calld hop
      have hfv := ev_rep hR.rel hR.grel hxo e2
      have ha := evs_rep hR.rel hR.grel has e2'
      have hm : (as.toList.map a.eval).toArray = as.map a.eval := by apply Array.ext'; simp
      rw [hm] at ha
      generalize hfx : a.eval x = u at hfv
      cases hfv with
      | fnc hl hr =>
        rename_i cvs
        have hap : RepDs φ σ (vs ++ caps) (as.map a.eval ++ cvs) := by
          refine ⟨by rw [List.length_append, Array.size_append, ha.1, hl], fun i c v hc hv => ?_⟩
          rw [List.getElem?_append] at hc
          rw [Array.getElem?_append] at hv
          by_cases hi : i < vs.length
          · rw [if_pos hi] at hc
            rw [if_pos (ha.1 ▸ hi)] at hv
            exact ha.2 i c v hc hv
          · rw [if_neg hi] at hc
            rw [if_neg (ha.1 ▸ hi)] at hv
            rw [← ha.1] at hv
            exact hr _ c v hc hv
        exact callcase hap e3 e4 e5 (by
          simp only [execOp, hx, resolve, hfx, Deferred.ofValue, pure_bind]
          simp [invoke])
    · have e1' : dstep G T L h s.n lo (o.dst.getD 0) d.op = some e := by
        rw [hdst]
        exact dstep_loc hts hL hH e1
      obtain ⟨nx, rv, w', φ', σ', r1, r2, r3⟩ := sim_op hR.rel hR.grel hR.tch hop e1' hF
      have hE := dstep_eff e1
      have hLn : (fun k => if Acc.wL k ∈ e.acc then (putL s.L e.lw).get k else L k) = updL L e.lw := by
        funext k
        rw [get_putL]
        split
        · rename_i hm; exact updL_eq _ (hL k (.inr hm)).symm
        · rename_i hm; exact (updL_out _ (fun p hp he => hm (by rw [← he]; exact hE.l p hp))).symm
      have hHn : (fun id => if Acc.wX id ∈ e.acc ∨ Acc.wA ∈ e.acc then (putH s.H e.hw).get id else h id) = updH h e.hw := by
        funext id
        rw [get_putH]
        split
        · rename_i hm
          rcases hm with hm | hm
          · exact updH_eq _ (hH id (.inr hm)).symm
          · exact updH_eq _ (by rw [hA (.inr hm)])
        · rename_i hm; exact (updH_out _ (fun p hp he => hm (.inl (by rw [← he]; exact hE.x p hp)))).symm
      have fin : next (a.put o.dst rv) w' := by
        refine hnext _ _ φ' σ' ?_ r3.grow r3.fr
        simp only [hTn]
        rw [hLn, hHn]
        exact FR.put ⟨r3.rel, hR.defs, hR.size, hR.grel.mono r3.grow.sg, fun b hb => hR.tch b (Nat.le_trans r3.fr.size hb)⟩ hlt r3.val
      unfold Oper.wp
      rw [r1]
      rcases r2 with rfl | ⟨rfl, rfl⟩
      · exact fin
      · exact fin
end
end Go.PM
