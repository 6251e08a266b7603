/-
  Regions, in the order of the text and in any order.
-/
import Derived.Test.YtkgjgehffijepabDoorSimO
import Derived.Test.YtkgjgehffijepabDoorOrd
set_option linter.unusedVariables false
set_option linter.unusedSimpArgs false
namespace Go.PM

/-- D's state beside a frame of the model. -/
structure SR (lo : Nat) (Tch : Nat → Prop) (φ : Phi) (σ : Sig) (G : Nat → Option (List IV)) (nt N : Nat) (s : St) (a : Act) (w : World) : Prop where
  fr : FR lo Tch φ σ G nt s.T.get s.L.get s.H.get a w
  fresh : Fresh φ s.n N
  live : ∀ id, s.H.get id ≠ none → id < s.n
  le : lo ≤ s.n

theorem Grow.over {φ φ1 φ2 : Phi} {σ σ1 σ2 : Sig} {n n' m m' : Nat} {w w1 : World} (a : Grow φ φ1 σ σ1 n n' w) (b : Grow φ1 φ2 σ1 σ2 m m' w1) (h1 : n ≤ m) (h2 : m' ≤ n')
    (hs : w.heap.size ≤ w1.heap.size) : Grow φ φ2 σ σ2 n n' w := by
  refine ⟨fun id bi h => b.ext _ _ (a.ext _ _ h), fun id bi h h' => ?_, fun x o h => b.sg _ _ (a.sg _ _ h), fun x o h => ?_⟩
  · cases he : φ1 id with
    | none => obtain ⟨p, q⟩ := b.new id bi he h'; exact ⟨by omega, by omega⟩
    | some bj => exact a.new id _ h he
  · rcases b.sgn x o h with h | h
    · exact a.sgn x o h
    · exact .inr (by omega)

theorem Grow.fresh {φ φ' : Phi} {σ σ' : Sig} {n n' N : Nat} {w : World} (g : Grow φ φ' σ σ' n n' w) (hl : n ≤ n') (hF : Fresh φ n N) : Fresh φ' n' N := fun id h1 h2 => by
  cases he : φ' id with
  | none => rfl
  | some bi =>
    have := g.new id bi (hF id (by omega) h2) he
    omega

theorem Mon.live {n n' : Nat} {h h' : Nat → Option HB} (m : Mon n n' h h') (hl : ∀ id, h id ≠ none → id < n) : ∀ id, h' id ≠ none → id < n' := fun id hid => by
  by_cases h0 : h id = none
  · by_cases h1 : id < n'
    · exact h1
    · exact absurd (m.fr id h0 (.inr (by omega))) hid
  · have := hl id h0
    have := m.le
    omega

section
variable {P : Program} {lo : Nat} {Tch : Nat → Prop} {φ : Phi} {σ : Sig} {G : Nat → Option (List IV)} {a : Act} {w : World} {nt N : Nat} {K : Callee} {ops : Array Oper}

theorem KOk.kmon (hK : KOk P G K) : KMon K := fun f args H n lo v H' n' => hK.mon f args H n lo v H' n'

theorem okOs_get : ∀ {os : List Oper} {ds : List DO}, okOs P nt ops os ds = true → os.length = ds.length ∧ ∀ (i : Nat) o d, os[i]? = some o → ds[i]? = some d → okO P nt ops o d = true
  | [], [], _ => ⟨rfl, by simp⟩
  | o :: os, d :: ds, h => by
    simp only [okOs, Bool.and_eq_true] at h
    obtain ⟨q1, q2⟩ := okOs_get h.2
    refine ⟨by simp [q1], fun i o' d' h1 h2 => ?_⟩
    cases i with
    | zero => simp at h1 h2; subst h1 h2; exact h.1
    | succ i => simp at h1 h2; exact q2 i o' d' h1 h2
  | [], _ :: _, h => by simp [okOs] at h
  | _ :: _, [], h => by simp [okOs] at h

theorem opsRun_states : ∀ {ds : List DO} {s s' : St} {accs : List (List Acc)}, opsRun G K lo ds s = some (s', accs) →
    ∃ st : Nat → St, st 0 = s ∧ st ds.length = s' ∧ accs.length = ds.length ∧ ∀ (i : Nat) d, ds[i]? = some d → ∃ acc, accs[i]? = some acc ∧ opRun G K lo d (st i) = some (st (i + 1), acc)
  | [], s, s', accs, h => by
    simp [opsRun] at h
    obtain ⟨rfl, rfl⟩ := h
    exact ⟨fun _ => s, rfl, rfl, rfl, by simp⟩
  | d :: ds, s, s', accs, h => by
    simp only [opsRun] at h
    split at h
    · rename_i s1 ac h1
      simp only [Option.map_eq_some_iff] at h
      obtain ⟨⟨s2, as⟩, h2, h3⟩ := h
      cases h3
      obtain ⟨st, q1, q2, q3, q4⟩ := opsRun_states h2
      refine ⟨fun i => match i with | 0 => s | i + 1 => st i, rfl, q2, by simp [q3], fun i d' hd => ?_⟩
      cases i with
      | zero =>
        simp at hd; subst hd
        refine ⟨ac, rfl, ?_⟩
        show opRun G K lo d s = some (st 0, ac)
        rw [q1]; exact h1
      | succ i =>
        simp at hd
        obtain ⟨acc, p1, p2⟩ := q4 i d' hd
        exact ⟨acc, by simpa using p1, p2⟩
    · cases h

theorem reg_sound (hK : KOk P G K) {Q : Exit → Act → World → Prop} {ds0 : List DO} (hok : okOs P nt ops ops.toList ds0 = true) :
    ∀ (ds : List DO) (i : Nat) (s s' : St) (accs : List (List Acc)) (φ : Phi) (σ : Sig) (a : Act) (w : World), ds0.drop i = ds → opsRun G K lo ds s = some (s', accs) → SR lo Tch φ σ G nt N s a w → s'.n ≤ N →
      (∀ a' w' φ' σ', SR lo Tch φ' σ' G nt N s' a' w' → Grow φ φ' σ σ' s.n s'.n w → Fr Tch w w' → Q .normal a' w') →
      wpOps P ops Q (List.range' i ds.length) a w := by
  obtain ⟨hlen, hpt⟩ := okOs_get hok
  intro ds
  induction ds with
  | nil =>
    intro i s s' accs φ σ a w hi hr hS hN hQ
    simp [opsRun] at hr
    obtain ⟨rfl, rfl⟩ := hr
    exact hQ a w φ σ hS (.refl _ _ _ _ _) (.refl _ _)
  | cons d ds ih =>
    intro i s s' accs φ σ a w hi hr hS hN hQ
    have hdi : ds0[i]? = some d := by
      have : (ds0.drop i)[0]? = some d := by rw [hi]; rfl
      simpa using this
    have hlt : i < ops.toList.length := by rw [hlen]; exact (List.getElem?_eq_some_iff.1 hdi).1
    have ho : ops.toList[i]? = some ops.toList[i] := List.getElem?_eq_getElem hlt
    generalize ops.toList[i] = o at ho
    have ho' : ops[i]? = some o := by simpa using ho
    have hoko := hpt i o d ho hdi
    simp only [opsRun] at hr
    split at hr
    · rename_i s1 ac h1
      simp only [Option.map_eq_some_iff] at hr
      obtain ⟨⟨s2, as⟩, h2, h3⟩ := hr
      cases h3
      have hfr := opRun_fr hK.kmon h1
      have hm2 := opsRun_mon hK.kmon h2
      simp only [List.length_cons, List.range'_succ, wpOps, ho']
      refine op_fun hK hoko h1 hS.fr (fun _ _ => rfl) (fun _ _ => rfl) (fun _ _ => rfl) (fun _ => rfl) (fun id p1 p2 => hS.fresh id p1 (by have := hm2.le; simp only at hN; omega)) hS.le hS.live ?_
      intro a' w' φ' σ' hF hg hfr'
      have e1 : (fun k => if d.dst = some k then s1.T.get k else s.T.get k) = s1.T.get := by
        funext k; split
        · rfl
        · rename_i hk; exact (hfr.t k hk).symm
      have e2 : (fun k => if Acc.wL k ∈ ac then s1.L.get k else s.L.get k) = s1.L.get := by
        funext k; split
        · rfl
        · rename_i hk; exact (hfr.l k hk).symm
      have e3 : (fun id => if Acc.wX id ∈ ac ∨ Acc.wA ∈ ac then s1.H.get id else s.H.get id) = s1.H.get := by
        funext id; split
        · rfl
        · rename_i hk; exact (hfr.x id (fun e => hk (.inl e)) (fun e => hk (.inr e))).symm
      rw [e1, e2, e3] at hF
      refine ih (i + 1) s1 s2 as φ' σ' a' w' (by rw [← List.drop_drop, hi]; rfl) h2 ⟨hF, hg.fresh hfr.mon.le hS.fresh, hfr.mon.live hS.live, Nat.le_trans hS.le hfr.mon.le⟩ hN ?_
      intro a'' w'' φ'' σ'' hS'' hg'' hfr''
      exact hQ a'' w'' φ'' σ'' hS'' (hg.trans hg'' hfr.mon.le hm2.le hfr'.size) (hfr'.trans hfr'')
    · cases hr

/-! ### Any order -/

theorem clash_of {x y : List Acc} (h : clashes x y = false) {p q : Acc} (hp : p ∈ x) (hq : q ∈ y) : p.clash q = false := by
  unfold clashes at h
  rw [List.any_eq_false] at h
  have := h p hp
  simp only [Bool.not_eq_true, List.any_eq_false] at this
  simpa using this q hq

structure Draw (ops : Array Oper) (ds : List DO) (accs : List (List Acc)) : Prop where
  slots : ∀ (i j : Nat) x y, i < j → ds[i]? = some x → ds[j]? = some y → ¬ Bef ops.toList i j → slotsApart x y = true
  accs : ∀ (i j : Nat) x y, i < j → accs[i]? = some x → accs[j]? = some y → ¬ Bef ops.toList i j → clashes x y = false

theorem draw_of {ds : List DO} {bef : List (List Nat)} {accs : List (List Acc)} (h1 : befOk (aheads ops.toList) bef = true) (h2 : pairsOk (aheads ops.toList) ds = true) (h3 : calm bef accs = true) : Draw ops ds accs := by
  have hA := aheads_bef ops.toList
  constructor
  · intro i j x y hij hx hy hb
    unfold pairsOk at h2
    rw [List.all_eq_true] at h2
    have := h2 (y, j) (List.mem_zipIdx_iff_getElem?.2 hy)
    simp only [List.all_eq_true] at this
    have := this (x, i) (List.mem_zipIdx_iff_getElem?.2 hx)
    simp only [hij, decide_true, Bool.not_true, Bool.false_or, Bool.or_eq_true, List.contains_iff_mem] at this
    rcases this with h | h
    · exact absurd (hA _ _ h) hb
    · exact h
  · intro i j x y hij hx hy hb
    unfold calm at h3
    rw [List.all_eq_true] at h3
    have := h3 (y, j) (List.mem_zipIdx_iff_getElem?.2 hy)
    simp only [Bool.or_eq_true, List.all_eq_true] at this
    rcases this with h | h
    · have : y = [] := by simpa using h
      subst this
      simp [clashes]
    · have := h (x, i) (List.mem_zipIdx_iff_getElem?.2 hx)
      simp only [hij, decide_true, Bool.not_true, Bool.false_or, Bool.or_eq_true, List.contains_iff_mem, Bool.not_eq_true'] at this
      rcases this with (h | h) | h
      · have : x = [] := by simpa using h
        subst this
        simp [clashes]
      · exfalso
        unfold befOk at h1
        rw [List.all_eq_true] at h1
        have hj : bef[j]? = some (bef.getD j []) := by
          rw [List.getD_eq_getElem?_getD] at h ⊢
          cases hb' : bef[j]? with
          | none => rw [hb'] at h; simp at h
          | some l => simp
        have := h1 (bef.getD j [], j) (List.mem_zipIdx_iff_getElem?.2 hj)
        simp only [List.all_eq_true, List.contains_iff_mem] at this
        exact hb (hA _ _ (this i (by simpa using h)))
      · simpa using h
end
end Go.PM
