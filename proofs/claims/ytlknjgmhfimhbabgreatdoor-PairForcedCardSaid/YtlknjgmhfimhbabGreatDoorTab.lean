/-
  A run over a table of calls that are known: what it gives the calls themselves give.
-/
import Derived.Test.YtlknjgmhfimhbabGreatDoorFast
import Derived.Test.YtlknjgmhfimhbabGreatDoorRun
set_option linter.unusedVariables false
set_option linter.unusedSimpArgs false
namespace Go.PM

/-! ### Callees that answer less -/
def Le (K' K : Callee) : Prop := ∀ f args H n lo r, K' f args H n lo = some r → K f args H n lo = some r
section
variable {G : Nat → Option (List IV)} {K' K : Callee} {lo : Nat}
theorem callM_le (h : Le K' K) {m : CM} {f : FuncId} {args : List DV} {H : PT HB} {n : Nat} {e : CEff} (he : callM K' m f args H n lo = some e) : callM K m f args H n lo = some e := by
  cases m with
  | eff =>
    simp only [callM] at he ⊢
    split at he
    · rename_i c
      rw [if_pos c]
      cases hk : K' f args H n lo with
      | none => rw [hk] at he; cases he
      | some r => rw [hk] at he; rw [h _ _ _ _ _ _ hk]; exact he
    · cases he
  | ro =>
    simp only [callM] at he ⊢
    split at he
    · rename_i c
      rw [if_pos c]
      cases hk : K' f args H n n with
      | none => rw [hk] at he; cases he
      | some r => rw [hk] at he; rw [h _ _ _ _ _ _ hk]; exact he
    · cases he
  | wr =>
    simp only [callM] at he ⊢
    split at he
    · rename_i c
      rw [if_pos c]
      split at he
      · cases hk : K' f _ H n lo with
        | none => rw [hk] at he; cases he
        | some r => rw [hk] at he; rw [h _ _ _ _ _ _ hk]; exact he
      · cases he
    · cases he
  | blind =>
    simp only [callM] at he ⊢
    split at he
    · rename_i c
      rw [if_pos c]
      cases hk : K' f args .lf 0 0 with
      | none => rw [hk] at he; cases he
      | some r => rw [hk] at he; rw [h _ _ _ _ _ _ hk]; exact he
    · rename_i c
      rw [if_neg c]
      split at he
      · rename_i args' hs
        cases hk : K' f args' .lf 0 0 with
        | none => rw [hk] at he; cases he
        | some r => rw [hk] at he; rw [h _ _ _ _ _ _ hk]; exact he
      · cases he
theorem opRun_le (h : Le K' K) {o : DO} {s : St} {r : St × List Acc} (he : opRun G K' lo o s = some r) : opRun G K lo o s = some r := by
  unfold opRun at he ⊢
  simp only at he ⊢
  split at he
  · cases he
  · exact he
  · split at he
    · split at he
      · simp only [Option.map_eq_some_iff] at he ⊢
        obtain ⟨e, h1, h2⟩ := he
        exact ⟨e, callM_le h h1, h2⟩
      · cases he
    · split at he
      · simp only [Option.map_eq_some_iff] at he ⊢
        obtain ⟨e, h1, h2⟩ := he
        exact ⟨e, callM_le h h1, h2⟩
      · cases he
    · exact he
theorem opsRun_le (h : Le K' K) : ∀ (os : List DO) {s : St} {r : St × List (List Acc)}, opsRun G K' lo os s = some r → opsRun G K lo os s = some r
  | [], s, r, he => he
  | o :: os, s, r, he => by
    simp only [opsRun] at he ⊢
    cases ho : opRun G K' lo o s with
    | none => rw [ho] at he; cases he
    | some p =>
      rw [ho] at he
      rw [opRun_le h ho]
      simp only at he ⊢
      cases hr : opsRun G K' lo os p.1 with
      | none => rw [hr] at he; cases he
      | some q => rw [hr] at he; rw [opsRun_le h os hr]; exact he
theorem iter_le {f g : St → Option (Ex × St)} (h : ∀ s r, f s = some r → g s = some r) : ∀ (k : Nat) {s : St} {r : Ex × St}, iter f k s = some r → iter g k s = some r
  | 0, s, r, he => by cases he
  | k + 1, s, r, he => by
    simp only [iter] at he ⊢
    cases hf : f s with
    | none => rw [hf] at he; cases he
    | some p =>
      rw [hf] at he
      rw [h _ _ hf]
      obtain ⟨e, s'⟩ := p
      cases e with
      | norm => exact iter_le h k he
      | exit i => exact he
      | ret => exact he
theorem run_le (h : Le K' K) : ∀ (c : DC) {s : St} {r : Ex × St}, c.run G K' lo s = some r → c.run G K lo s = some r := fun c => by
  induction c with
  | skip => intro s r he; exact he
  | reg ops =>
    intro s r he
    simp only [DC.run] at he ⊢
    cases hr : opsRun G K' lo ops s with
    | none => rw [hr] at he; cases he
    | some q => rw [hr] at he; rw [opsRun_le h ops hr]; exact he
  | drw ops bef =>
    intro s r he
    simp only [DC.run] at he ⊢
    cases hr : opsRun G K' lo ops s with
    | none => rw [hr] at he; cases he
    | some q => rw [hr] at he; rw [opsRun_le h ops hr]; exact he
  | seq a b iha ihb =>
    intro s r he
    simp only [DC.run] at he ⊢
    cases hr : a.run G K' lo s with
    | none => rw [hr] at he; cases he
    | some q =>
      rw [hr] at he
      rw [iha hr]
      obtain ⟨e, s'⟩ := q
      cases e with
      | norm => exact ihb he
      | exit i => exact he
      | ret => exact he
  | cond c a b iha ihb =>
    intro s r he
    simp only [DC.run] at he ⊢
    split at he
    · exact iha he
    · exact ihb he
    · cases he
  | block id b ih =>
    intro s r he
    simp only [DC.run] at he ⊢
    cases hr : b.run G K' lo s with
    | none => rw [hr] at he; cases he
    | some q => rw [hr] at he; rw [ih hr]; exact he
  | loop live own b ih =>
    intro s r he
    simp only [DC.run] at he ⊢
    exact iter_le (fun s r hs => ih hs) LOOP he
  | exit id => intro s r he; exact he
  | ret => intro s r he; exact he
theorem fn_le (h : Le K' K) {fn : DFn} {args : List DV} {H : PT HB} {n : Nat} {r : DV × PT HB × Nat} (he : fn.run G K' args H n lo = some r) : fn.run G K args H n lo = some r := by
  obtain ⟨np, res, body⟩ := fn
  simp only [DFn.run] at he ⊢
  split at he
  · rename_i hl
    rw [if_pos hl]
    cases hr : body.run G K' lo ⟨argsT 0 args, .lf, H, n⟩ with
    | none => rw [hr] at he; cases he
    | some q => rw [hr] at he; rw [run_le h body hr]; exact he
  · cases he
end

/-! ### Is it the same? -/
mutual
def eqIV : IV → IV → Bool
  | .bool a, .bool b => a == b
  | .int k a, .int k' b => k == k' && a == b
  | .str a, .str b => a == b
  | .nilp, .nilp => true
  | .nils, .nils => true
  | .nilf, .nilf => true
  | .nili, .nili => true
  | .undef, .undef => true
  | .lst f s es, .lst f' s' es' => f == f' && s == s' && eqRows es es'
  | .cref a, .cref b => eqIVs a b
  | .iface t v, .iface t' v' => t == t' && eqIV v v'
  | _, _ => false
def eqIVs : List IV → List IV → Bool
  | [], [] => true
  | a :: as', b :: bs => eqIV a b && eqIVs as' bs
  | _, _ => false
def eqRows : List (List IV) → List (List IV) → Bool
  | [], [] => true
  | a :: as', b :: bs => eqIVs a b && eqRows as' bs
  | _, _ => false
end
mutual
theorem eqIV_spec : ∀ a b, eqIV a b = true → a = b := fun a b h => by
  cases a <;> cases b <;> simp [eqIV] at h <;> first | rfl | (simp [h]; done) | skip
  · rename_i f s es f' s' es'
    obtain ⟨⟨rfl, rfl⟩, h⟩ := h
    rw [eqRows_spec es es' h]
  · rename_i x y
    rw [eqIVs_spec x y h]
  · rename_i t v t' v'
    obtain ⟨rfl, h⟩ := h
    rw [eqIV_spec v v' h]
theorem eqIVs_spec : ∀ a b, eqIVs a b = true → a = b := fun a b h => by
  cases a <;> cases b <;> simp [eqIVs] at h
  · rfl
  · rename_i x xs y ys
    rw [eqIV_spec x y h.1, eqIVs_spec xs ys h.2]
theorem eqRows_spec : ∀ a b, eqRows a b = true → a = b := fun a b h => by
  cases a <;> cases b <;> simp [eqRows] at h
  · rfl
  · rename_i x xs y ys
    rw [eqIVs_spec x y h.1, eqRows_spec xs ys h.2]
end
mutual
def eqDV : DV → DV → Bool
  | .imm a, .imm b => eqIV a b
  | .ptr a b c, .ptr a' b' c' => a == a' && b == b' && c == c'
  | .sl a b c d, .sl a' b' c' d' => a == a' && b == b' && c == c' && d == d'
  | .agg a, .agg b => eqDVs a b
  | .tup a, .tup b => eqDVs a b
  | .fnc f a, .fnc f' b => f == f' && eqDVs a b
  | .lref a b c, .lref a' b' c' => a == a' && b == b' && c == c'
  | _, _ => false
def eqDVs : List DV → List DV → Bool
  | [], [] => true
  | a :: as', b :: bs => eqDV a b && eqDVs as' bs
  | _, _ => false
end
mutual
theorem eqDV_spec : ∀ a b, eqDV a b = true → a = b := fun a b h => by
  cases a <;> cases b <;> simp [eqDV] at h
  · rename_i x y; rw [eqIV_spec x y h]
  · obtain ⟨⟨rfl, rfl⟩, rfl⟩ := h; rfl
  · obtain ⟨⟨⟨rfl, rfl⟩, rfl⟩, rfl⟩ := h; rfl
  · rename_i x y; rw [eqDVs_spec x y h]
  · rename_i x y; rw [eqDVs_spec x y h]
  · rename_i f x f' y; obtain ⟨rfl, h⟩ := h; rw [eqDVs_spec x y h]
  · obtain ⟨⟨rfl, rfl⟩, rfl⟩ := h; rfl
theorem eqDVs_spec : ∀ a b, eqDVs a b = true → a = b := fun a b h => by
  cases a <;> cases b <;> simp [eqDVs] at h
  · rfl
  · rename_i x xs y ys
    rw [eqDV_spec x y h.1, eqDVs_spec xs ys h.2]
end
def eqDRows : List (List DV) → List (List DV) → Bool
  | [], [] => true
  | a :: as', b :: bs => eqDVs a b && eqDRows as' bs
  | _, _ => false
theorem eqDRows_spec : ∀ a b, eqDRows a b = true → a = b
  | [], [], _ => rfl
  | x :: xs, y :: ys, h => by
    simp [eqDRows] at h
    rw [eqDVs_spec x y h.1, eqDRows_spec xs ys h.2]
def eqOB : Option HB → Option HB → Bool
  | none, none => true
  | some a, some b => a.sz == b.sz && eqDRows a.rows b.rows
  | _, _ => false
theorem eqOB_spec : ∀ a b, eqOB a b = true → a = b
  | none, none, _ => rfl
  | some ⟨s, r⟩, some ⟨s', r'⟩, h => by
    simp [eqOB] at h
    rw [h.1, eqDRows_spec r r' h.2]
def eqPT : PT HB → PT HB → Bool
  | .lf, .lf => true
  | .nd l v r, .nd l' v' r' => eqOB v v' && (eqPT l l' && eqPT r r')
  | _, _ => false
theorem eqPT_spec : ∀ a b, eqPT a b = true → a = b
  | .lf, .lf, _ => rfl
  | .nd l v r, .nd l' v' r', h => by
    simp [eqPT] at h
    rw [eqOB_spec v v' h.1, eqPT_spec l l' h.2.1, eqPT_spec r r' h.2.2]

/-! ### Tables of calls -/
structure Known where
  f : FuncId
  args : List DV
  H : PT HB
  n : Nat
  lo : Nat
  r : DV × PT HB × Nat
noncomputable def tabK : List Known → Callee := fun l f args H n lo => List.rec (motive := fun _ => Option (DV × PT HB × Nat)) none
  (fun e _ rest => bif Nat.beq e.f f && (Nat.beq e.n n && (Nat.beq e.lo lo && (eqDVs e.args args && eqPT e.H H))) then some e.r else rest) l
theorem tab_le {K : Callee} : ∀ {l : List Known}, (∀ e ∈ l, K e.f e.args e.H e.n e.lo = some e.r) → Le (tabK l) K
  | [], _ => fun f args H n lo r h => by cases h
  | e :: l, hl => fun f args H n lo r h => by
    have h' : (bif Nat.beq e.f f && (Nat.beq e.n n && (Nat.beq e.lo lo && (eqDVs e.args args && eqPT e.H H))) then some e.r else tabK l f args H n lo) = some r := h
    cases hb : (Nat.beq e.f f && (Nat.beq e.n n && (Nat.beq e.lo lo && (eqDVs e.args args && eqPT e.H H)))) with
    | false =>
      rw [hb] at h'
      exact tab_le (fun e he => hl e (List.mem_cons_of_mem _ he)) f args H n lo r h'
    | true =>
      rw [hb] at h'
      simp only [Bool.and_eq_true] at hb
      obtain ⟨h1, h2, h3, h4, h5⟩ := hb
      obtain rfl := Nat.eq_of_beq_eq_true h1
      obtain rfl := Nat.eq_of_beq_eq_true h2
      obtain rfl := Nat.eq_of_beq_eq_true h3
      obtain rfl := eqDVs_spec _ _ h4
      obtain rfl := eqPT_spec _ _ h5
      rw [hl e List.mem_cons_self]
      exact h'
end Go.PM
