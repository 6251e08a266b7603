/-
  Calls: what a call of D leaves in the model.
-/
import Derived.Test.YtkgjgehffijepabDoorSimM
set_option linter.unusedVariables false
set_option linter.unusedSimpArgs false
namespace Go.PM

def noT : Nat → Option DV := fun _ => none
def noL : Nat → Option LV := fun _ => none
def noH : Nat → Option HB := fun _ => none

/-- What a call leaves. -/
def CPost (lo : Nat) (Tch : Nat → Prop) (φ : Phi) (σ : Sig) (T : Nat → Option DV) (L : Nat → Option LV) (h' : Nat → Option HB) (tmps : Array Value) (w : World) (n n' : Nat) (v : DV) : Ending → World → Prop
  | .returned rv, w' => ∃ φ' σ', Rel lo Tch φ' σ' T L h' tmps w' ∧ Grow φ φ' σ σ' n n' w ∧ Fr Tch w w' ∧ RepD φ' σ' v rv
  | _, _ => False

/-- D's calls are the model's. -/
structure KOk (P : Program) (G : Nat → Option (List IV)) (K : Callee) : Prop where
  snd : ∀ f args H n lo v H' n', K f args H n lo = some (v, H', n') → lo ≤ n → (∀ id, H.get id ≠ none → id < n) →
    ∀ Tch φ σ w rargs, GRel σ G → (∀ b, w.heap.size ≤ b → Tch b) → Rel lo Tch φ σ noT noL H.get #[] w → RepDs φ σ args rargs → Fresh φ n n' →
      Calls P f rargs w (CPost lo Tch φ σ noT noL H'.get #[] w n n' v)
  mon : ∀ f args H n lo v H' n', K f args H n lo = some (v, H', n') → Mon n n' H.get H'.get
  fun_ : ∀ f args H n lo r, K f args H n lo = some r → ∃ fn, P.funcs[f]? = some fn ∧ fn.body.isSome = true ∧ fn.name ≠ "runtime.NumGoroutine"

section
variable {P : Program} {lo : Nat} {Tch : Nat → Prop} {φ : Phi} {σ : Sig} {G : Nat → Option (List IV)} {T : Nat → Option DV} {L : Nat → Option LV} {h : Nat → Option HB} {tmps : Array Value} {w : World} {n : Nat}
  {K : Callee}

/-- A frame of its own over the same heap. -/
theorem Rel.enter (hR : Rel lo Tch φ σ T L h tmps w) {lo' : Nat} {Tch' : Nat → Prop} {tmps' : Array Value} (ht : ∀ id hb bi, lo' ≤ id → h id = some hb → φ id = some bi → Tch' bi.blk) :
    Rel lo' Tch' φ σ noT noL h tmps' w := by
  refine ⟨hR.sig, fun i j bi bj li lj => hR.inj i j bi bj ?_ ?_, hR.rng, fun id hb hid => ?_, fun k v hk => by simp [noL] at hk, fun k k' v v' hk => by simp [noL] at hk, fun k v hk => by simp [noT] at hk⟩
  · rcases li with h1 | ⟨k, v, h1, _⟩
    · exact .inl h1
    · simp [noL] at h1
  · rcases lj with h1 | ⟨k, v, h1, _⟩
    · exact .inl h1
    · simp [noL] at h1
  · obtain ⟨bi, h1, h2, _⟩ := hR.heap id hb hid
    exact ⟨bi, h1, h2, fun hl => ht id hb bi hl hid h1⟩

/-- With nothing of the heap. -/
theorem Rel.bare (hR : Rel lo Tch φ σ T L h tmps w) {lo' : Nat} {Tch' : Nat → Prop} {tmps' : Array Value} {σ2 : Sig} (hs : ∀ b o, σ2 b = some o → w.heap[b]? = some o) :
    Rel lo' Tch' (fun _ => none) σ2 noT noL noH tmps' w := by
  refine ⟨hs, fun i j bi bj li lj hi => by simp at hi, fun i bi hi => by simp at hi, fun id hb hid => by simp [noH] at hid, fun k v hk => by simp [noL] at hk, fun k k' v v' hk => by simp [noL] at hk, fun k v hk => by simp [noT] at hk⟩

theorem Rel.noneL (hR : Rel lo Tch φ σ T L h tmps w) {n' : Nat} (hF : Fresh φ n n') {k : Nat} {v : LV} (hk : L k = some v) : v.id < n ∨ n' ≤ v.id := by
  obtain ⟨_, bi, h1, _⟩ := hR.locs _ _ hk
  by_cases h2 : v.id < n
  · exact .inl h2
  · by_cases h3 : n' ≤ v.id
    · exact .inr h3
    · have := hF v.id (by omega) (by omega)
      rw [h1] at this; cases this

/-- What a callee with all of the heap may write. -/
def TchOf (lo : Nat) (φ : Phi) (h : Nat → Option HB) (w : World) (b : Nat) : Prop := w.heap.size ≤ b ∨ ∃ id hb bi, lo ≤ id ∧ h id = some hb ∧ φ id = some bi ∧ bi.blk = b

theorem Rel.leave (hR : Rel lo Tch φ σ T L h tmps w) (hlo : lo ≤ n) {n' : Nat} {φ' : Phi} {σ' : Sig} {h' : Nat → Option HB} {w' : World} (hT : ∀ b, w.heap.size ≤ b → Tch b)
    (hR' : Rel lo (TchOf lo φ h w) φ' σ' noT noL h' #[] w') (hg : Grow φ φ' σ σ' n n' w) (hf : Fr (TchOf lo φ h w) w w') (hm : Mon n n' h h') (hF : Fresh φ n n') :
    Rel lo Tch φ' σ' T L h' tmps w' ∧ Fr Tch w w' := by
  have toT : ∀ b, TchOf lo φ h w b → Tch b := fun b hb => by
    rcases hb with hb | ⟨id, hb, bi, h1, h2, h3, rfl⟩
    · exact hT _ hb
    · obtain ⟨bi', q1, _, q3⟩ := hR.heap id hb h2
      rw [h3] at q1; cases q1
      exact q3 h1
  have old : ∀ {id : Nat} {bi : BI}, Liv L h id → φ' id = some bi → φ id = some bi := fun {id bi} hl hb => by
    obtain ⟨bi', q⟩ := hR.liv hl
    have := hg.ext _ _ q
    rw [hb] at this; cases this; exact q
  -- a frame's own block beside those of the heap
  have apart : ∀ {k : Nat} {v : LV} {bi : BI}, L k = some v → φ v.id = some bi → ¬ TchOf lo φ h w bi.blk := fun {k v bi} hk hb ht => by
    obtain ⟨h0, bi', q1, q2, q3⟩ := hR.locs k v hk
    rw [hb] at q1; cases q1
    have := hR.rng _ _ hb
    rcases ht with ht | ⟨id, hb', bj, h1, h2, h3, h4⟩
    · omega
    · have := hR.inj id v.id bj bi (.inl ⟨hb', h2⟩) (.inr ⟨k, v, hk, rfl⟩) h3 hb h4
      rw [this, h0] at h2; cases h2
  have cross : ∀ {k : Nat} {v : LV} {bi bj : BI} {j : Nat} {hb : HB}, L k = some v → φ' v.id = some bi → h' j = some hb → φ' j = some bj → bi.blk = bj.blk → False := fun {k v bi bj j hb} hk hi hj hbj he => by
    have hi0 := old (.inr ⟨k, v, hk, rfl⟩) hi
    obtain ⟨h0, _⟩ := hR.locs k v hk
    by_cases hjo : h j = none
    · have hjn : n ≤ j := by
        by_cases hlt : j < n
        · have := hm.fr j hjo (.inl hlt); rw [hj] at this; cases this
        · omega
      obtain ⟨bj', q1, _, q3⟩ := hR'.heap j hb hj
      rw [hbj] at q1; cases q1
      exact apart hk hi0 (he ▸ q3 (by omega))
    · cases hh : h j with
      | none => exact hjo hh
      | some hb0 =>
        have lj : Liv L h j := .inl ⟨hb0, hh⟩
        have := hR.inj v.id j bi bj (.inr ⟨k, v, hk, rfl⟩) lj hi0 (old lj hbj) he
        rw [this, hh] at h0; cases h0
  refine ⟨⟨hR'.sig, ?_, hR'.rng, fun id hb hid => ?_, fun k v hk => ?_, hR.apart, fun k v hk => ?_⟩, hf.weaken (fun b _ hb => toT b hb)⟩
  · intro i j bi bj li lj hi hj he
    rcases li with ⟨hb, li⟩ | ⟨k, v, li, rfl⟩ <;> rcases lj with ⟨hb', lj⟩ | ⟨k', v', lj, rfl⟩
    · exact hR'.inj i j bi bj (.inl ⟨hb, li⟩) (.inl ⟨hb', lj⟩) hi hj he
    · exact (cross lj hj li hi he.symm).elim
    · exact (cross li hi lj hj he).elim
    · exact hR.inj _ _ bi bj (.inr ⟨k, v, li, rfl⟩) (.inr ⟨k', v', lj, rfl⟩) (old (.inr ⟨k, v, li, rfl⟩) hi) (old (.inr ⟨k', v', lj, rfl⟩) hj) he
  · obtain ⟨bi, h1, h2, h3⟩ := hR'.heap id hb hid
    exact ⟨bi, h1, h2, fun hl => toT _ (h3 hl)⟩
  · obtain ⟨h0, bi, h1, h2, h3⟩ := hR.locs k v hk
    have hlt := hR.rng _ _ h1
    have hnt := apart hk h1
    refine ⟨hm.fr v.id h0 (hR.noneL hF hk), bi, hg.ext _ _ h1, h2.mono hg.ext hg.sg ?_ (hf.same _ hlt hnt), h3⟩
    cases he : σ' bi.blk with
    | none => rfl
    | some o =>
      rcases hg.sgn _ _ he with q | q
      · rw [h2.free] at q; cases q
      · omega
  · obtain ⟨rv, h1, h2⟩ := hR.tmp k v hk
    exact ⟨rv, h1, h2.mono hg.ext hg.sg⟩

theorem eff_call (hK : KOk P G K) (hR : Rel lo Tch φ σ T L h tmps w) {H : PT HB} (hH : h = H.get) (hlo : lo ≤ n) (hlv : ∀ id, h id ≠ none → id < n) (hG : GRel σ G) (hT : ∀ b, w.heap.size ≤ b → Tch b)
    {f : FuncId} {args : List DV} {rargs : Array Value} (ha : RepDs φ σ args rargs) {v : DV} {H' : PT HB} {n' : Nat} (he : K f args H n lo = some (v, H', n')) (hF : Fresh φ n n') :
    Calls P f rargs w (CPost lo Tch φ σ T L H'.get tmps w n n' v) := by
  subst hH
  refine (hK.snd f args H n lo v H' n' he hlo hlv (TchOf lo φ H.get w) φ σ w rargs hG (fun b hb => .inl hb)
    (hR.enter (fun id hb bi h1 h2 h3 => .inr ⟨id, hb, bi, h1, h2, h3, rfl⟩)) ha hF).mono fun e w' hp => ?_
  cases e with
  | returned rv =>
    obtain ⟨φ', σ', q1, q2, q3, q4⟩ := hp
    obtain ⟨z1, z2⟩ := hR.leave hlo hT q1 q2 q3 (hK.mon _ _ _ _ _ _ _ _ he) hF
    exact ⟨φ', σ', z1, q2, z2, q4⟩
  | panicked _ => exact hp.elim
  | outgrown => exact hp.elim

/-- All that is new is written no more. -/
def sigAll (σ : Sig) (w w' : World) : Sig := fun b => if b < w.heap.size then σ b else w'.heap[b]?

theorem Rel.sigAll (hR : Rel lo Tch φ σ T L h tmps w) {w' : World} (hf : Fr (fun b => w.heap.size ≤ b) w w') :
    Rel lo Tch φ (sigAll σ w w') T L h tmps w' ∧ Grow φ φ σ (Go.PM.sigAll σ w w') n n w ∧ Fr Tch w w' := by
  have hsame : ∀ b, b < w.heap.size → w'.heap[b]? = w.heap[b]? := fun b hb => hf.same b hb (by omega)
  have hg : Grow φ φ σ (Go.PM.sigAll σ w w') n n w := by
    refine ⟨fun _ _ h => h, fun _ _ h h' => (by rw [h] at h'; cases h'), fun b o hb => ?_, fun b o hb => ?_⟩
    · have := (Array.getElem?_eq_some_iff.1 (hR.sig _ _ hb)).1
      simp [Go.PM.sigAll, this, hb]
    · unfold Go.PM.sigAll at hb
      split at hb
      · exact .inl hb
      · right; omega
  refine ⟨hR.same hg hsame hf.size (fun b o hb => ?_) (fun i bi hi => Nat.lt_of_lt_of_le (hR.rng i bi hi) hf.size), hg, hf.weaken (fun b hb hn => by omega)⟩
  unfold Go.PM.sigAll at hb
  split at hb
  · rename_i hlt; rw [hsame b hlt]; exact hR.sig _ _ hb
  · exact hb

theorem ro_call (hK : KOk P G K) (hR : Rel lo Tch φ σ T L h tmps w) {H : PT HB} (hH : h = H.get) (hlv : ∀ id, h id ≠ none → id < n) (hG : GRel σ G)
    {f : FuncId} {args : List DV} {rargs : Array Value} (ha : RepDs φ σ args rargs) {v v' : DV} {H1 : PT HB} {n' : Nat} (he : K f args H n n = some (v, H1, n')) (hv : frz H1.get n v = some v') (hF : Fresh φ n n') :
    Calls P f rargs w (CPost lo Tch φ σ T L h tmps w n n' v') := by
  subst hH
  refine (hK.snd f args H n n v H1 n' he (Nat.le_refl _) hlv (fun b => w.heap.size ≤ b) φ σ w rargs hG (fun b hb => hb)
    (hR.enter (fun id hb bi h1 h2 h3 => by
      have := hlv id (by rw [h2]; simp)
      omega)) ha hF).mono fun e w' hp => ?_
  cases e with
  | returned rv =>
    obtain ⟨φ1, σ1, q1, q2, q3, q4⟩ := hp
    obtain ⟨z1, z2, z3⟩ := hR.sigAll (n := n) q3
    refine ⟨φ, sigAll σ w w', z1, z2.wide (Nat.le_refl _) (hK.mon _ _ _ _ _ _ _ _ he).le, z3, ?_⟩
    refine frz_rep (w := w') (fun id hb hid => ?_) (fun id hb bi hl hid hbi o ho => ?_) (fun b o hb => ?_) (fun id bi hl hbi => ?_) q4 hv
    · obtain ⟨bi, g1, g2, _⟩ := q1.heap id hb hid; exact ⟨bi, g1, g2⟩
    · obtain ⟨bi', g1, g2, g3⟩ := q1.heap id hb hid
      rw [hbi] at g1; cases g1
      have : w.heap.size ≤ bi.blk := g3 hl
      unfold sigAll
      rw [if_neg (by omega)]; exact ho
    · unfold sigAll
      split
      · rcases q2.sgn b o hb with g | g
        · exact g
        · omega
      · exact q1.sig _ _ hb
    · cases hh : φ id with
      | none => have := q2.new id bi hh hbi; omega
      | some bj => have := q2.ext _ _ hh; rw [hbi] at this; exact this.symm
  | panicked _ => exact hp.elim
  | outgrown => exact hp.elim

theorem Sig.le_of_le {σ σ2 : Sig} {φ φ0 : Phi} {v : DV} {rv : Value} (h : RepD φ0 σ v rv) (h0 : φ0 = fun _ => none) (hs : ∀ b o, σ b = some o → σ2 b = some o) : RepD φ σ2 v rv :=
  h.mono (fun id bi hi => by rw [h0] at hi; cases hi) hs

theorem lf_get (id : Nat) : (PT.lf : PT HB).get id = none := rfl
theorem lf_noH : (PT.lf : PT HB).get = noH := rfl

theorem blind_call (hK : KOk P G K) (hR : Rel lo Tch φ σ T L h tmps w) (hG : GRel σ G)
    {f : FuncId} {args : List DV} {rargs : Array Value} (ha : RepDs φ σ args rargs) (hp : DV.pure.pures args = true) {v v' : DV} {H1 : PT HB} {n' : Nat} (he : K f args .lf 0 0 = some (v, H1, n')) (hv : frz H1.get 0 v = some v') :
    Calls P f rargs w (CPost lo Tch φ σ T L h tmps w n n v') := by
  refine (hK.snd f args .lf 0 0 v H1 n' he (Nat.le_refl _) (fun id hid => absurd (lf_get id) hid) (fun b => w.heap.size ≤ b) (fun _ => none) σ w rargs hG (fun b hb => hb)
    (hR.bare hR.sig) ⟨ha.1, fun i c u h1 h2 => pure_rep (ha.2 i c u h1 h2) (pures_get hp i c h1)⟩ (fun _ _ _ => rfl)).mono fun e w' hp => ?_
  cases e with
  | returned rv =>
    obtain ⟨φ1, σ1, q1, q2, q3, q4⟩ := hp
    obtain ⟨z1, z2, z3⟩ := hR.sigAll (n := n) q3
    refine ⟨φ, sigAll σ w w', z1, z2, z3, ?_⟩
    refine frz_rep (w := w') (fun id hb hid => ?_) (fun id hb bi hl hid hbi o ho => ?_) (fun b o hb => ?_) (fun id bi hl hbi => by omega) q4 hv
    · obtain ⟨bi, g1, g2, _⟩ := q1.heap id hb hid; exact ⟨bi, g1, g2⟩
    · obtain ⟨bi', g1, g2, g3⟩ := q1.heap id hb hid
      rw [hbi] at g1; cases g1
      have : w.heap.size ≤ bi.blk := g3 hl
      unfold sigAll
      rw [if_neg (by omega)]; exact ho
    · unfold sigAll
      split
      · rcases q2.sgn b o hb with g | g
        · exact g
        · omega
      · exact q1.sig _ _ hb
  | panicked _ => exact hp.elim
  | outgrown => exact hp.elim

open Classical in
/-- The heap's blocks as they are now. -/
noncomputable def sigNow (φ : Phi) (σ : Sig) (h : Nat → Option HB) (w : World) : Sig := fun b => if ∃ id hb bi, h id = some hb ∧ φ id = some bi ∧ bi.blk = b then w.heap[b]? else σ b

theorem snap_call (hK : KOk P G K) (hR : Rel lo Tch φ σ T L h tmps w) (hG : GRel σ G)
    {f : FuncId} {args args' : List DV} {rargs : Array Value} (ha : RepDs φ σ args rargs) (hs : snap.snaps h args = some args') {v : DV} {H1 : PT HB} {n' : Nat} (he : K f args' .lf 0 0 = some (v, H1, n')) (hv : v.flat = true) :
    Calls P f rargs w (CPost lo Tch φ σ T L h tmps w n n v) := by
  have hmono : ∀ b o, σ b = some o → sigNow φ σ h w b = some o := fun b o hb => by
    unfold sigNow
    split
    · exact hR.sig _ _ hb
    · exact hb
  obtain ⟨s1, s2⟩ := snaps_get hs
  refine (hK.snd f args' .lf 0 0 v H1 n' he (Nat.le_refl _) (fun id hid => absurd (lf_get id) hid) (fun b => w.heap.size ≤ b) (fun _ => none) (sigNow φ σ h w) w rargs (hG.mono hmono) (fun b hb => hb)
    (hR.bare (fun b o hb => by
      unfold sigNow at hb
      split at hb
      · exact hb
      · exact hR.sig _ _ hb)) ⟨s1.trans ha.1, fun i c u h1 h2 => by
        obtain ⟨c0, g1, g2⟩ := s2 i c h1
        refine snap_rep (w := w) (fun id hb hid => ?_) (fun id hb bi hid hbi o ho => ?_) hmono (ha.2 i c0 u g1 h2) g2
        · obtain ⟨bi, p1, p2, _⟩ := hR.heap id hb hid; exact ⟨bi, p1, p2⟩
        · unfold sigNow
          rw [if_pos ⟨id, hb, bi, hid, hbi, rfl⟩]; exact ho⟩ (fun _ _ _ => rfl)).mono fun e w' hp => ?_
  cases e with
  | returned rv =>
    obtain ⟨φ1, σ1, q1, q2, q3, q4⟩ := hp
    obtain ⟨z1, z2, z3⟩ := hR.sigAll (n := n) q3
    exact ⟨φ, sigAll σ w w', z1, z2, z3, flat_rep q4 hv⟩
  | panicked _ => exact hp.elim
  | outgrown => exact hp.elim

/-- All calls. -/
theorem call_sound (hK : KOk P G K) (hR : Rel lo Tch φ σ T L h tmps w) {H : PT HB} (hlo : lo ≤ n) (hlv : ∀ id, H.get id ≠ none → id < n) (hG : GRel σ G) (hT : ∀ b, w.heap.size ≤ b → Tch b)
    {m : CM} {f : FuncId} {args : List DV} {rargs : Array Value} (ha : RepDs φ σ args rargs) {e : CEff} (he : callM K m f args H n lo = some e) {h' : Nat → Option HB}
    (hh : (e.acc = [] ∧ h' = h) ∨ (h = H.get ∧ h' = e.H'.get)) (hF : Fresh φ n e.n') :
    Calls P f rargs w (CPost lo Tch φ σ T L h' tmps w n e.n' e.v) := by
  unfold callM at he
  split at he
  · split at he
    · simp only [Option.map_eq_some_iff] at he
      obtain ⟨⟨v, H', n'⟩, h1, rfl⟩ := he
      rcases hh with ⟨h2, _⟩ | ⟨h2, rfl⟩
      · simp at h2
      · exact eff_call hK hR h2 hlo (h2 ▸ hlv) hG hT ha h1 hF
    · cases he
  · split at he
    · split at he
      · rename_i v H1 n1 h1
        simp only [Option.map_eq_some_iff] at he
        obtain ⟨v', g1, rfl⟩ := he
        rcases hh with ⟨h2, _⟩ | ⟨h2, rfl⟩
        · simp at h2
        · have := ro_call hK hR h2 (h2 ▸ hlv) hG ha h1 g1 hF
          subst h2
          exact this
      · cases he
    · cases he
  · split at he
    · split at he
      · split at he
        · rename_i v H1 n1 h1
          split at he
          · cases he
            rcases hh with ⟨h2, _⟩ | ⟨h2, rfl⟩
            · simp at h2
            · exact eff_call hK hR h2 hlo (h2 ▸ hlv) hG hT ha h1 hF
          · cases he
        · cases he
      · cases he
    · cases he
  · split at he
    · rename_i hp
      split at he
      · rename_i v H1 n1 h1
        simp only [Option.map_eq_some_iff] at he
        obtain ⟨v', g1, rfl⟩ := he
        have hhh : h' = h := by
          rcases hh with ⟨_, h2⟩ | ⟨h2, h3⟩
          · exact h2
          · rw [h2, h3]
        subst hhh
        exact blind_call hK hR hG ha hp h1 g1
      · cases he
    · split at he
      · rename_i args' g0
        split at he
        · rename_i v H1 n1 h1
          split at he
          · rename_i hfl
            cases he
            rcases hh with ⟨h2, _⟩ | ⟨h2, rfl⟩
            · simp at h2
            · subst h2
              exact snap_call hK hR hG ha g0 h1 hfl
          · cases he
        · cases he
      · cases he
end
end Go.PM
