/-
  What one operation of D's does to the relation: a new block, a block written.
-/
import Derived.Test.YtkgjgehffijepabDoorMem
set_option linter.unusedVariables false
set_option linter.unusedSimpArgs false
namespace Go.PM

def upd {α : Type} (f : Nat → Option α) (k : Nat) (v : Option α) : Nat → Option α := fun x => if x = k then v else f x
def updL (f : Nat → Option LV) : List (Nat × LV) → Nat → Option LV
  | [] => f
  | (k, v) :: r => updL (upd f k (some v)) r
def updH (f : Nat → Option HB) : List (Nat × Option HB) → Nat → Option HB
  | [] => f
  | (k, v) :: r => updH (upd f k v) r

theorem upd_same {α : Type} (f : Nat → Option α) (k : Nat) (v : Option α) : upd f k v k = v := by simp [upd]
theorem upd_ne {α : Type} (f : Nat → Option α) {k x : Nat} (v : Option α) (h : x ≠ k) : upd f k v x = f x := by simp [upd, h]

def Fresh (φ : Phi) (n n' : Nat) : Prop := ∀ id, n ≤ id → id < n' → φ id = none

/-- What an operation leaves. -/
structure OpOut (lo : Nat) (Tch : Nat → Prop) (φ : Phi) (σ : Sig) (T : Nat → Option DV) (L : Nat → Option LV) (h : Nat → Option HB) (tmps : Array Value) (w : World) (n : Nat) (e : Eff)
    (rv : Value) (w' : World) (φ' : Phi) (σ' : Sig) : Prop where
  rel : Rel lo Tch φ' σ' T (updL L e.lw) (updH h e.hw) tmps w'
  grow : Grow φ φ' σ σ' n e.n' w
  fr : Fr Tch w w'
  val : RepD φ' σ' e.v rv
  le : n ≤ e.n'

section
variable {lo : Nat} {Tch : Nat → Prop} {φ : Phi} {σ : Sig} {T : Nat → Option DV} {L : Nat → Option LV} {h : Nat → Option HB} {tmps : Array Value} {w : World} {n : Nat}

theorem OpOut.pure (hR : Rel lo Tch φ σ T L h tmps w) {v : DV} {acc : List Acc} {rv : Value} (hv : RepD φ σ v rv) : OpOut lo Tch φ σ T L h tmps w n { v, n' := n, acc } rv w φ σ :=
  ⟨hR, .refl _ _ _ _ _, .refl _ _, hv, Nat.le_refl _⟩

/-- Nothing but a draw. -/
theorem Rel.drew (hR : Rel lo Tch φ σ T L h tmps w) (k : Nat) : Rel lo Tch φ σ T L h tmps { w with drawn := k } :=
  hR.same (w' := { w with drawn := k }) (n := 0) (n' := 0) (.refl _ _ _ _ _) (fun _ _ => rfl) (Nat.le_refl _) hR.sig hR.rng

def sigPush (σ : Sig) (b : Nat) (o : Obj) : Sig := fun x => if x = b then some o else σ x

theorem Rel.sigNone (hR : Rel lo Tch φ σ T L h tmps w) {b : Nat} (hb : w.heap.size ≤ b) : σ b = none := by
  cases he : σ b with
  | none => rfl
  | some o =>
    have := hR.sig _ _ he
    have := (Array.getElem?_eq_some_iff.1 this).1
    omega

theorem sigPush_mono (hR : Rel lo Tch φ σ T L h tmps w) (o : Obj) : ∀ b o', σ b = some o' → sigPush σ w.heap.size o b = some o' := fun b o' hb => by
  unfold sigPush
  split
  · subst_vars; rw [hR.sigNone (Nat.le_refl _)] at hb; cases hb
  · exact hb

/-- A new block that nobody writes. w': the world behind it. -/
theorem Rel.pushSig (hR : Rel lo Tch φ σ T L h tmps w) {o : Obj} {w' : World} (hsz : w'.heap.size = w.heap.size + 1) (hget : ∀ b, b < w.heap.size → w'.heap[b]? = w.heap[b]?)
    (hnew : w'.heap[w.heap.size]? = some o) :
    Rel lo Tch φ (sigPush σ w.heap.size o) T L h tmps w' ∧ Grow φ φ σ (sigPush σ w.heap.size o) n n w := by
  have hg : Grow φ φ σ (sigPush σ w.heap.size o) n n w := ⟨fun _ _ h => h, fun _ _ h h' => (by rw [h] at h'; cases h'), sigPush_mono hR o, fun b o' hb => by
    unfold sigPush at hb
    split at hb
    · right; omega
    · exact .inl hb⟩
  refine ⟨hR.same hg hget (by omega) (fun b o' hb => ?_) (fun i bi hi => by have := hR.rng i bi hi; omega), hg⟩
  unfold sigPush at hb
  split at hb
  · subst_vars; cases hb; exact hnew
  · have := hR.sig _ _ hb
    rw [hget b (Array.getElem?_eq_some_iff.1 this).1]; exact this

theorem Fr.push {w' : World} (hos : w'.os = w.os) (hout : w'.output = w.output) (hsz : w.heap.size ≤ w'.heap.size) (hget : ∀ b, b < w.heap.size → w'.heap[b]? = w.heap[b]?) : Fr Tch w w' :=
  ⟨hos, hout, hsz, fun b hb _ => hget b hb⟩

def phiPush (φ : Phi) (n : Nat) (bi : BI) : Phi := fun x => if x = n then some bi else φ x

/-- What is known with a new number for a new block. -/
theorem phiPush_grow' (hf : φ n = none) (bi : BI) : Grow φ (phiPush φ n bi) σ σ n (n + 1) w := by
  refine ⟨fun id bi hi => ?_, fun id bi hi hi' => ?_, fun _ _ h => h, fun _ _ h => .inl h⟩
  · unfold phiPush
    split
    · subst_vars; rw [hf] at hi; cases hi
    · exact hi
  · unfold phiPush at hi'
    split at hi'
    · subst_vars; exact ⟨Nat.le_refl _, by omega⟩
    · rw [hi] at hi'; cases hi'

theorem phiPush_grow (hR : Rel lo Tch φ σ T L h tmps w) (hf : φ n = none) (sz size : Nat) : Grow φ (phiPush φ n ⟨w.heap.size, sz, size⟩) σ σ n (n + 1) w := phiPush_grow' hf _

theorem Rel.pushPhi (hR : Rel lo Tch φ σ T L h tmps w) (hf : φ n = none) {o : Obj} {w' : World} (hsz : w'.heap.size = w.heap.size + 1)
    (hget : ∀ b, b < w.heap.size → w'.heap[b]? = w.heap[b]?) (hnew : w'.heap[w.heap.size]? = some o) (sz size : Nat) :
    Rel lo Tch (phiPush φ n ⟨w.heap.size, sz, size⟩) σ T L h tmps w' := by
  refine hR.same (phiPush_grow hR hf sz size) hget (by omega) (fun b o' hb => ?_) (fun i bi hi => ?_)
  · have := hR.sig _ _ hb
    rw [hget b (Array.getElem?_eq_some_iff.1 this).1]; exact this
  · unfold phiPush at hi
    split at hi
    · cases hi; simp; omega
    · have := hR.rng _ _ hi; omega

theorem liv_updH {k : Nat} {v : Option HB} {i : Nat} (hl : Liv L (upd h k v) i) : i = k ∨ Liv L h i := by
  rcases hl with ⟨hb, h1⟩ | h1
  · unfold upd at h1
    split at h1
    · exact .inl (by assumption)
    · exact .inr (.inl ⟨hb, h1⟩)
  · exact .inr (.inr h1)

theorem liv_updL {k : Nat} {v : LV} {i : Nat} (hl : Liv (upd L k (some v)) h i) : i = v.id ∨ Liv L h i := by
  rcases hl with h1 | ⟨k', v', h1, h2⟩
  · exact .inr (.inl h1)
  · unfold upd at h1
    split at h1
    · cases h1; exact .inl h2.symm
    · exact .inr (.inr ⟨k', v', h1, h2⟩)

theorem Rel.liv (hR : Rel lo Tch φ σ T L h tmps w) {id : Nat} (hid : Liv L h id) : ∃ bi, φ id = some bi := by
  rcases hid with ⟨hb, h1⟩ | ⟨k, v, h1, rfl⟩
  · obtain ⟨bi, h2, _⟩ := hR.heap _ _ h1; exact ⟨bi, h2⟩
  · obtain ⟨_, bi, h2, _⟩ := hR.locs _ _ h1; exact ⟨bi, h2⟩

/-- A new number beside those in use. -/
theorem Rel.injPush (hR : Rel lo Tch φ σ T L h tmps w) (hf : φ n = none) {sz size : Nat} {L' : Nat → Option LV} {h' : Nat → Option HB} (hl : ∀ i, Liv L' h' i → i = n ∨ Liv L h i) :
    ∀ i j bi bj, Liv L' h' i → Liv L' h' j → phiPush φ n ⟨w.heap.size, sz, size⟩ i = some bi → phiPush φ n ⟨w.heap.size, sz, size⟩ j = some bj → bi.blk = bj.blk → i = j := fun i j bi bj li lj hi hj hb => by
  have old : ∀ i bi, i ≠ n → phiPush φ n ⟨w.heap.size, sz, size⟩ i = some bi → φ i = some bi := fun i bi hne h => by
    unfold phiPush at h; rw [if_neg hne] at h; exact h
  have new : ∀ bi, phiPush φ n ⟨w.heap.size, sz, size⟩ n = some bi → bi.blk = w.heap.size := fun bi h => by
    unfold phiPush at h; rw [if_pos rfl] at h; cases h; rfl
  by_cases h1 : i = n
  · by_cases h2 : j = n
    · rw [h1, h2]
    · subst h1
      have := new _ hi
      have := hR.rng _ _ (old _ _ h2 hj)
      omega
  · by_cases h2 : j = n
    · subst h2
      have := new _ hj
      have := hR.rng _ _ (old _ _ h1 hi)
      omega
    · exact hR.inj i j bi bj ((hl i li).resolve_left h1) ((hl j lj).resolve_left h2) (old _ _ h1 hi) (old _ _ h2 hj) hb

theorem Rel.noneH (hR : Rel lo Tch φ σ T L h tmps w) (hf : φ n = none) : h n = none := by
  cases he : h n with
  | none => rfl
  | some hb => obtain ⟨bi, h1, _⟩ := hR.heap _ _ he; rw [hf] at h1; cases h1

theorem Rel.neL (hR : Rel lo Tch φ σ T L h tmps w) (hf : φ n = none) {k : Nat} {v : LV} (hk : L k = some v) : v.id ≠ n := fun he => by
  obtain ⟨_, bi, h1, _⟩ := hR.locs _ _ hk
  rw [he, hf] at h1; cases h1

/-- A new block of D's heap. -/
theorem Rel.pushH (hR : Rel lo Tch φ σ T L h tmps w) (hT : ∀ b, w.heap.size ≤ b → Tch b) (hf : φ n = none) {c : Array Value} {t : TypeId} {w' : World} (hsz : w'.heap.size = w.heap.size + 1)
    (hget : ∀ b, b < w.heap.size → w'.heap[b]? = w.heap[b]?) (hnew : w'.heap[w.heap.size]? = some (.cells c t (0, 0))) (hb : HB) (hpos : 0 < hb.sz) (hlen : hb.rows.length * hb.sz ≤ c.size)
    (hrows : ∀ r ∈ hb.rows, r.length = hb.sz) (hc : ∀ (i : Nat) r, hb.rows[i]? = some r → CellsAt φ σ c (i * hb.sz) r) :
    Rel lo Tch (phiPush φ n ⟨w.heap.size, hb.sz, c.size⟩) σ T L (upd h n (some hb)) tmps w' := by
  have hR' := hR.pushPhi hf hsz hget hnew hb.sz c.size
  have hgr := phiPush_grow hR hf hb.sz c.size
  refine ⟨hR'.sig, hR.injPush hf (fun i hi => liv_updH hi), hR'.rng, fun id x hx => ?_, fun k v hk => ?_, hR'.apart, hR'.tmp⟩
  · unfold upd at hx
    split at hx
    · subst_vars; cases hx
      refine ⟨⟨w.heap.size, hb.sz, c.size⟩, by simp [phiPush], ⟨rfl, hpos, hR.sigNone (Nat.le_refl _), c, t, (0, 0), ⟨hnew, .zero _⟩, rfl, hlen, hrows, fun i r hr => (hc i r hr).mono hgr.ext hgr.sg⟩, fun _ => hT _ (Nat.le_refl _)⟩
    · exact hR'.heap id x hx
  · obtain ⟨h0, rest⟩ := hR'.locs k v hk
    refine ⟨?_, rest⟩
    rw [upd_ne _ _ (hR.neL hf hk)]
    exact h0

/-- A new block of the frame's own. -/
theorem Rel.pushL (hR : Rel lo Tch φ σ T L h tmps w) (hT : ∀ b, w.heap.size ≤ b → Tch b) (hf : φ n = none) {o : Obj} {w' : World} (hsz : w'.heap.size = w.heap.size + 1)
    (hget : ∀ b, b < w.heap.size → w'.heap[b]? = w.heap[b]?) (hnew : w'.heap[w.heap.size]? = some o) (slot sz size : Nat) (lv : LV) (hid : lv.id = n)
    (hl : ∀ φ', (∀ id bi, φ id = some bi → φ' id = some bi) → LocalAt φ' σ w' lv ⟨w.heap.size, sz, size⟩) :
    Rel lo Tch (phiPush φ n ⟨w.heap.size, sz, size⟩) σ T (upd L slot (some lv)) h tmps w' := by
  have hR' := hR.pushPhi hf hsz hget hnew sz size
  have hgr := phiPush_grow hR hf sz size
  refine ⟨hR'.sig, hR.injPush hf (fun i hi => by rw [← hid]; exact liv_updL hi), hR'.rng, hR'.heap, fun k v hk => ?_, fun k k' v v' hk hk' he => ?_, hR'.tmp⟩
  · unfold upd at hk
    split at hk
    · subst_vars; cases hk
      refine ⟨hR.noneH hf, ⟨w.heap.size, sz, size⟩, by simp [phiPush], hl _ hgr.ext, hT _ (Nat.le_refl _)⟩
    · exact hR'.locs k v hk
  · unfold upd at hk hk'
    split at hk <;> split at hk'
    · subst_vars; rfl
    · cases hk; exact absurd (he.symm.trans hid) (hR.neL hf hk')
    · cases hk'; exact absurd (he.trans hid) (hR.neL hf hk)
    · exact hR.apart k k' v v' hk hk' he

/-- The block of a number of D's heap gets other cells. -/
theorem Rel.setH (hR : Rel lo Tch φ σ T L h tmps w) {id : Nat} {hb hb' : HB} {bi : BI} (hid : h id = some hb) (hbi : φ id = some bi) {c' : Array Value} {t : TypeId} {fr : Nat × Nat} (hfr : Unfr fr c'.size)
    (hsz : hb'.sz = hb.sz) (hcs : c'.size = bi.size) (hlen : hb'.rows.length * hb'.sz ≤ bi.size) (hrows : ∀ r ∈ hb'.rows, r.length = hb'.sz)
    (hc : ∀ (i : Nat) r, hb'.rows[i]? = some r → CellsAt φ σ c' (i * hb'.sz) r) :
    Rel lo Tch φ σ T L (upd h id (some hb')) tmps (setBlock w bi.blk (.cells c' t fr)) := by
  obtain ⟨bi', h1, h2, h3⟩ := hR.heap _ _ hid
  rw [hbi] at h1; cases h1
  have hlt := hR.rng _ _ hbi
  have hsize := setBlock_size w bi.blk (.cells c' t fr)
  have hne : ∀ b, b ≠ bi.blk → (setBlock w bi.blk (.cells c' t fr)).heap[b]? = w.heap[b]? := fun b hb => by
    rw [setBlock_get, if_neg (fun ⟨e, _⟩ => hb e.symm)]
  have lid : Liv L h id := .inl ⟨hb, hid⟩
  refine ⟨fun b o hb => ?_, fun i j bi bj li lj => hR.inj i j bi bj ((liv_updH li).elim (fun e => e ▸ lid) (fun x => x)) ((liv_updH lj).elim (fun e => e ▸ lid) (fun x => x)), fun i x hi => by rw [hsize]; exact hR.rng i x hi, fun j x hx => ?_, fun k v hk => ?_, hR.apart, hR.tmp⟩
  · rw [hne b (fun e => by rw [e, h2.free] at hb; cases hb)]
    exact hR.sig _ _ hb
  · unfold upd at hx
    split at hx
    · subst_vars; cases hx
      exact ⟨bi, hbi, ⟨h2.sz.trans hsz.symm, hsz ▸ h2.pos, h2.free, c', t, fr, ⟨by rw [setBlock_get]; simp [hlt], hfr⟩, hcs, hlen, hrows, hc⟩, h3⟩
    · rename_i hji
      obtain ⟨bj, g1, g2, g3⟩ := hR.heap _ _ hx
      have : bj.blk ≠ bi.blk := fun e => hji (hR.inj _ _ _ _ (.inl ⟨x, hx⟩) lid g1 hbi e)
      exact ⟨bj, g1, g2.mono (fun _ _ h => h) (fun _ _ h => h) g2.free (hne _ this), g3⟩
  · obtain ⟨h0, bj, g1, g2, g3⟩ := hR.locs _ _ hk
    have hvi : v.id ≠ id := fun e => by rw [e, hid] at h0; cases h0
    have : bj.blk ≠ bi.blk := fun e => hvi (hR.inj _ _ _ _ (.inr ⟨k, v, hk, rfl⟩) lid g1 hbi e)
    refine ⟨by rw [upd_ne _ _ hvi]; exact h0, bj, g1, g2.mono (fun _ _ h => h) (fun _ _ h => h) g2.free (hne _ this), g3⟩

theorem Fr.setBlock {b : Nat} {o : Obj} (hb : Tch b) : Fr Tch w (setBlock w b o) :=
  ⟨rfl, rfl, by rw [setBlock_size]; exact Nat.le_refl _, fun x hx hn => by rw [setBlock_get, if_neg (fun ⟨e, _⟩ => hn (e ▸ hb))]⟩

/-- A number of D's heap is given up. -/
theorem Rel.dropH (hR : Rel lo Tch φ σ T L h tmps w) (id : Nat) : Rel lo Tch φ σ T L (upd h id none) tmps w := by
  have hlv : ∀ i, Liv L (upd h id none) i → Liv L h i := fun i hi => by
    rcases hi with ⟨hb, h1⟩ | h1
    · unfold upd at h1; split at h1
      · cases h1
      · exact .inl ⟨hb, h1⟩
    · exact .inr h1
  refine ⟨hR.sig, fun i j bi bj li lj => hR.inj i j bi bj (hlv i li) (hlv j lj), hR.rng, fun j x hx => ?_, fun k v hk => ?_, hR.apart, hR.tmp⟩
  · unfold upd at hx
    split at hx
    · cases hx
    · exact hR.heap _ _ hx
  · obtain ⟨h0, rest⟩ := hR.locs _ _ hk
    refine ⟨?_, rest⟩
    unfold upd; split
    · rfl
    · exact h0

/-- A block of the frame's own is another one. -/
theorem Rel.setL (hR : Rel lo Tch φ σ T L h tmps w) {slot : Nat} {lv lv' : LV} {bi : BI} (hk : L slot = some lv) (hbi : φ lv.id = some bi) (hid : lv'.id = lv.id) {o : Obj}
    (hl : LocalAt φ σ (setBlock w bi.blk o) lv' bi) : Rel lo Tch φ σ T (upd L slot (some lv')) h tmps (setBlock w bi.blk o) := by
  obtain ⟨h0, bi', h1, h2, h3⟩ := hR.locs _ _ hk
  rw [hbi] at h1; cases h1
  have hlt := hR.rng _ _ hbi
  have hsize := setBlock_size w bi.blk o
  have hne : ∀ b, b ≠ bi.blk → (setBlock w bi.blk o).heap[b]? = w.heap[b]? := fun b hb => by
    rw [setBlock_get, if_neg (fun ⟨e, _⟩ => hb e.symm)]
  have lid : Liv L h lv.id := .inr ⟨slot, lv, hk, rfl⟩
  refine ⟨fun b x hb => ?_, fun i j bi bj li lj => hR.inj i j bi bj ((liv_updL li).elim (fun e => by rw [e, hid]; exact lid) (fun x => x)) ((liv_updL lj).elim (fun e => by rw [e, hid]; exact lid) (fun x => x)), fun i x hi => by rw [hsize]; exact hR.rng i x hi, fun j x hx => ?_, fun k v hv => ?_, fun k k' v v' hv hv' he => ?_, hR.tmp⟩
  · rw [hne b (fun e => by rw [e, h2.free] at hb; cases hb)]
    exact hR.sig _ _ hb
  · obtain ⟨bj, g1, g2, g3⟩ := hR.heap _ _ hx
    have hji : j ≠ lv.id := fun e => by rw [e, h0] at hx; cases hx
    have : bj.blk ≠ bi.blk := fun e => hji (hR.inj _ _ _ _ (.inl ⟨x, hx⟩) lid g1 hbi e)
    exact ⟨bj, g1, g2.mono (fun _ _ h => h) (fun _ _ h => h) g2.free (hne _ this), g3⟩
  · unfold upd at hv
    split at hv
    · subst_vars; cases hv
      rw [hid]
      exact ⟨h0, bi, hbi, hl, h3⟩
    · rename_i hks
      obtain ⟨g0, bj, g1, g2, g3⟩ := hR.locs _ _ hv
      have : bj.blk ≠ bi.blk := fun e => hks (hR.apart _ _ _ _ hv hk (hR.inj _ _ _ _ (.inr ⟨k, v, hv, rfl⟩) lid g1 hbi e))
      exact ⟨g0, bj, g1, g2.mono (fun _ _ h => h) (fun _ _ h => h) g2.free (hne _ this), g3⟩
  · unfold upd at hv hv'
    split at hv <;> split at hv'
    · subst_vars; rfl
    · subst_vars; cases hv; exact (hR.apart _ _ _ _ hv' hk (by rw [← he, hid])).symm
    · subst_vars; cases hv'; exact hR.apart _ _ _ _ hv hk (by rw [he, hid])
    · exact hR.apart _ _ _ _ hv hv' he
end
end Go.PM
