/-
  UnitFollows: what its functions compute, and the law (part 1).
-/
import Derived.Test.YtnpcgejfkonfdabGreatDoorX0
import Derived.Test.YtnpcgejfkonfdabGreatDoorFast
-- K21
-- K15
set_option linter.unusedVariables false
set_option linter.unusedSimpArgs false
set_option maxHeartbeats 16000000
namespace Go.Proofs.YtnpcgejfkonfdabGreatDoor.D
open Go Go.PM Go.Lib
def ivRS (x : Rst) : List IV := [.int .i64 x.mode, .int .i64 x.timer, .int .i64 x.gone, .bool x.seen]
/-- No two routes that stand are in each other's way. -/
def NC (l : Lo) (rs : List Rst) : Prop := ∀ i j, i < l.rts.length → j < l.rts.length → i ≠ j → (nth rs i).mode ≠ 0 → (nth rs j).mode ≠ 0 → ¬ CF l i j
end Go.Proofs.YtnpcgejfkonfdabGreatDoor.D

-- K16
set_option linter.unusedVariables false
set_option linter.unusedSimpArgs false
set_option maxHeartbeats 16000000
namespace Go.Proofs.YtnpcgejfkonfdabGreatDoor.D
open Go Go.PM Go.Lib
structure INV (l : Lo) (rs : List Rst) : Prop where
  ln : rs.length = l.rts.length
  ro : ∀ r, r < l.rts.length → RsOk l r (nth rs r)
  nc : NC l rs
theorem CF_sym {l : Lo} {r s : Nat} (h : CF l r s) : CF l s r := by
  rcases h with h | h | ⟨z, h1, h2⟩ | ⟨x, h1, h2⟩
  · exact .inl h.symm
  · exact .inr (.inl h.symm)
  · exact .inr (.inr (.inl ⟨z, h2, h1⟩))
  · exact .inr (.inr (.inr ⟨_, h2, by simpa using h1⟩))
theorem nth_setx {α : Type} [Inhabited α] {xs : List α} {i j : Nat} {y : α} (hi : i < xs.length) : nth (xs.set i y) j = if i = j then y else nth xs j := by
  simp only [nth, List.getD, List.getElem?_set]
  by_cases h : i = j
  · subst h; simp [hi]
  · simp [h]
theorem INV.new {l : Lo} : INV l (List.replicate l.rts.length rs0) :=
  ⟨by simp, fun r hr => by rw [nth_rep' hr]; exact RsOk.idle, fun i j hi hj _ hm => by rw [nth_rep' hi] at hm; exact absurd rfl hm⟩
theorem INV.set {l : Lo} {rs : List Rst} (h : INV l rs) {r : Nat} (hr : r < l.rts.length) {y : Rst} (hy : RsOk l r y) (hc : y.mode ≠ 0 → ∀ s, s < l.rts.length → s ≠ r → (nth rs s).mode ≠ 0 → ¬ CF l r s) : INV l (rs.set r y) := by
  have hl := h.ln
  refine ⟨by simp [hl], fun s hs => ?_, fun i j hi hj hij mi mj => ?_⟩
  · rw [nth_setx (by omega)]
    split
    · rename_i e; subst e; exact hy
    · exact h.ro s hs
  · rw [nth_setx (by omega)] at mi mj
    by_cases h1 : r = i
    · subst h1
      rw [if_pos rfl] at mi
      rw [if_neg hij] at mj
      exact hc mi j hj (fun e => hij e.symm) mj
    · rw [if_neg h1] at mi
      by_cases h2 : r = j
      · subst h2
        rw [if_pos rfl] at mj
        exact fun e => hc mj i hi hij mi (CF_sym e)
      · rw [if_neg h2] at mj
        exact h.nc i j hi hj hij mi mj
theorem INV.call {l : Lo} {rs : List Rst} (h : INV l rs) {os : List Bool} {ls : List Int} {r : Nat} (hr : r < l.rts.length) : INV l (callF l rs os ls r).2 := by
  by_cases m0 : (nth rs r).mode = 0
  · by_cases hf : FRE l rs os ls r
    · have e : callF l rs os ls r = (0, rs.set r ⟨1, 0, 0, false⟩) := by simp [callF, dec_t m0, dec_t hf]
      rw [e]
      exact h.set hr ⟨by simp, by simp, by simp, by simp, by simp, by simp, by simp⟩ fun _ s hs _ hm => hf.cf s hs hm
    · have e : callF l rs os ls r = (8, rs) := by simp [callF, dec_t m0, dec_f hf]
      rw [e]; exact h
  · have e : callF l rs os ls r = (7, rs) := by simp [callF, dec_f m0]
    rw [e]; exact h
theorem INV.cancel {l : Lo} {rs : List Rst} (h : INV l rs) {r : Nat} (hr : r < l.rts.length) : INV l (cancelF rs r).2 := by
  by_cases m1 : (nth rs r).mode = 1
  · have e : cancelF rs r = (0, rs.set r rs0) := by simp [cancelF, dec_t m1]
    rw [e]
    exact h.set hr RsOk.idle fun h0 => absurd rfl h0
  · by_cases m2 : (nth rs r).mode = 2
    · have e : cancelF rs r = (0, rs.set r ⟨4, 0, 0, false⟩) := by simp [cancelF, dec_f m1, dec_t m2]
      rw [e]
      exact h.set hr ⟨by simp, by simp, by simp, by simp, by simp, by simp, by simp⟩ fun _ s hs hsr hm => h.nc r s hr hs (fun e => hsr e.symm) (by omega) hm
    · have e : cancelF rs r = (7, rs) := by simp [cancelF, dec_f m1, dec_f m2]
      rw [e]; exact h
theorem INV.cmd {l : Lo} {rs : List Rst} (h : INV l rs) {os : List Bool} {ls : List Int} {c r : Int} : INV l (cmdF l rs os ls c r).2 := by
  by_cases h1 : ¬ MI l os ls ∨ (c ≠ 1 ∧ c ≠ 2)
  · have e : cmdF l rs os ls c r = (1, rs) := by simp only [cmdF, dec_t h1, cond_true]
    rw [e]; exact h
  · by_cases hr : InR r l.rts.length
    · have hn : r.toNat < l.rts.length := by have := hr.1; have := hr.2; omega
      by_cases hc : c = 1
      · have e : cmdF l rs os ls c r = callF l rs os ls r.toNat := by simp only [cmdF, dec_f h1, dec_t hr, dec_t hc, cond_true, cond_false]
        rw [e]; exact h.call hn
      · have e : cmdF l rs os ls c r = cancelF rs r.toNat := by simp only [cmdF, dec_f h1, dec_t hr, dec_f hc, cond_true, cond_false]
        rw [e]; exact h.cancel hn
    · have e : cmdF l rs os ls c r = (5, rs) := by simp only [cmdF, dec_f h1, dec_f hr, cond_true, cond_false]
      rw [e]; exact h
theorem step_idle {l : Lo} {os : List Bool} {ls : List Int} {r : Nat} {x : Rst} (h : x.mode = 0) : stepF l os ls r x = x := by
  obtain ⟨m, t, g, s⟩ := x
  simp only at h
  subst h
  simp [stepF, dec_false]
theorem INV.step {l : Lo} (is : ISL l) {rs qs : List Rst} (h : INV l rs) {os : List Bool} {ls : List Int} (hl : qs.length = l.rts.length) (hq : ∀ j, j < l.rts.length → nth qs j = stepF l os ls j (nth rs j)) : INV l qs :=
  ⟨hl, fun r hr => by rw [hq r hr]; exact (h.ro r hr).step is hr, fun i j hi hj hij mi mj => h.nc i j hi hj hij
    (fun e => mi (by rw [hq i hi, step_idle e]; exact e)) (fun e => mj (by rw [hq j hj, step_idle e]; exact e))⟩
/-- Two routes that stand hold no section both. -/
theorem INV.apart {l : Lo} {rs : List Rst} (h : INV l rs) {i j : Nat} (hi : i < l.rts.length) (hj : j < l.rts.length) {z : Int} (ai : z ∈ hld l rs i) (aj : z ∈ hld l rs j) : i = j := by
  refine Classical.byContradiction fun hij => ?_
  have stands : ∀ {k : Nat}, z ∈ hld l rs k → (nth rs k).mode ≠ 0 := fun {k} hk e => by simp [hld, e] at hk
  exact h.nc i j hi hj hij (stands ai) (stands aj) (.inr (.inr (.inl ⟨z, hld_sub ai, hld_sub aj⟩)))
end Go.Proofs.YtnpcgejfkonfdabGreatDoor.D

-- K19
set_option linter.unusedVariables false
set_option linter.unusedSimpArgs false
set_option maxHeartbeats 16000000
namespace Go.Proofs.YtnpcgejfkonfdabGreatDoor.D
open Go Go.PM Go.Lib
structure Acv where
  kind : Int
  ov : IV
  lv : IV
  c : Int
  r : Int
  rv : IV
  os : List Bool
  ls : List Int
  rs : List Rst
instance : Inhabited Acv := ⟨⟨0, .nils, .nils, 0, 0, .nils, [], [], []⟩⟩
structure AcOk (x : Acv) : Prop where
  io : InOk x.ov x.lv x.os x.ls
  rv : Sl 4 x.rv (x.rs.map ivRS)
  lr : x.rs.length ≤ reachBytes
abbrev kdRS : List Kd := [.i .i64, .i .i64, .i .i64, .b]
abbrev kdAc : List Kd := [.i .i64, .sl [.b], .sl [.i .i64], .i .i64, .i .i64, .sl kdRS]
end Go.Proofs.YtnpcgejfkonfdabGreatDoor.D

-- K20
set_option linter.unusedVariables false
set_option linter.unusedSimpArgs false
set_option maxHeartbeats 16000000
namespace Go.Proofs.YtnpcgejfkonfdabGreatDoor.D
open Go Go.PM Go.Lib
theorem app_hp {h : Nat → Option HB} {n lo id : Nat} {rows : List (List DV)} (hh : h id = some ⟨4, rows⟩) (he : rows ≠ []) (hl : rows.length ≤ 2 ^ 20) :
    appOf h n lo 4 32 (.imm (.lst true 4 [])) (.sl id 0 rows.length rows.length) = some { v := .sl n 0 rows.length rows.length, hw := [(n, some ⟨4, rows⟩)], n' := n + 1, acc := [.wX n, .rX id] } := by
  have a1 : rows.length ≤ appMax := by unfold appMax; omega
  have a2 : rows.length * 32 ≤ appMax := by unfold appMax; omega
  simp [appOf, srcOf, rowsOf, hh, he, a1, a2, raccOf]
theorem app_hp0 {h : Nat → Option HB} {n lo id : Nat} (hh : h id = some ⟨4, []⟩) :
    appOf h n lo 4 32 (.imm (.lst true 4 [])) (.sl id 0 0 0) = some { v := .imm (.lst true 4 []), n' := n, acc := [.rX id] } := by
  simp [appOf, srcOf, rowsOf, hh, raccOf]
theorem map_rowRS (rs : List Rst) : rs.map rowRS = (rs.map ivRS).map imms := by
  induction rs with
  | nil => rfl
  | cons x xs ih => simp [rowRS, ivRS, imms] at *
theorem frz_rowK {h : Nat → Option HB} {lo id sz : Nat} {xs : List (List IV)} (hb : h id = some ⟨sz, xs.map imms⟩) (hlo : lo ≤ id) : frz h lo (.sl id 0 xs.length xs.length) = some (.imm (.lst false sz xs)) := by
  have ht : (xs.map imms).take xs.length = xs.map imms := List.take_of_length_le (by simp)
  have h1 : ¬ id < lo := by omega
  simp only [frz, if_neg h1, frzDepth, frzI, if_pos hlo, hb]
  simp [ht, mapO_frz2]
theorem frz_sl {H : PT HB} {m lo sz k : Nat} {es : List (List IV)} (h : H.get m = some ⟨sz, es.map imms⟩) (hk : es.length = k) (hlo : lo ≤ m) : frz H.get lo (.sl m 0 k k) = some (.imm (.lst false sz es)) := by
  subst hk
  exact frz_rowK h hlo
theorem cloneRS_run {d : Nat} {H : PT HB} {x : DV} {own : List Nat} {rs : List Rst} (h : RsAt H x own rs) (hl : rs.length ≤ 1000) {n lo : Nat} (hlo : lo ≤ n) :
    Fe (K DG (d + 1) 81 [x] H n lo) (fun v H' n' => n ≤ n' ∧ v.out = true ∧ ∃ w, frz H'.get lo v = some (.imm w) ∧ Sl 4 w (rs.map ivRS)) := by
  rw [D.k81]
  refine fn_dw rfl ?_
  rcases h with ⟨rfl, rfl, v, rfl, hv⟩ | ⟨id, rfl, rfl, hh⟩
  · have hv0 := hv
    rcases hv with ⟨rfl, _⟩ | ⟨f, rfl⟩
    · simp [B6, B7]
      first | exact .inl ⟨rfl, rfl⟩ | exact ⟨rfl, .inl ⟨rfl, rfl⟩⟩
    · have p1 := fun {h : Nat → Option HB} {n : Nat} {x : DV} hx => app_none (bytes := 32) (h := h) (n := n) (x := x) hx hv0
      simp [p1, evParts2, lay, unImms, unImm, mapO, rowsN, appOf, srcOf, rowsOf, raccOf, B6, B7]
      first | exact .inr ⟨_, rfl⟩ | exact ⟨rfl, .inr ⟨_, rfl⟩⟩
  · cases rs with
    | nil =>
      have p0 := fun {n : Nat} => app_hp0 (h := H.get) (n := n) (lo := lo) (id := id) (by simpa using hh)
      simp [hh, p0, evParts2, lay, unImms, unImm, mapO, rowsN, B6, B7]
      first | exact .inr ⟨_, rfl⟩ | exact ⟨rfl, .inr ⟨_, rfl⟩⟩
    | cons y ys =>
      have hlen : ((y :: ys).map rowRS).length = (y :: ys).length := by simp
      have p1 := fun {n : Nat} => app_hp (h := H.get) (n := n) (lo := lo) hh (by simp) (by rw [hlen]; omega)
      have hes := map_rowRS (y :: ys)
      have hel : ((y :: ys).map ivRS).length = (y :: ys).length := by simp
      rw [hlen] at p1
      generalize (y :: ys).map ivRS = es at hes hel ⊢
      generalize (y :: ys).map rowRS = rows at hh p1 hes
      generalize (y :: ys).length = k at hh p1 hel ⊢
      simp [hh, p1, evParts2, lay, unImms, unImm, mapO, rowsN, B6, B7]
      first | exact ⟨_, frz_sl (by simp [PT.get_put, hes]) hel hlo, .inr ⟨_, rfl⟩⟩ | exact ⟨rfl, _, frz_sl (by simp [PT.get_put, hes]) hel hlo, .inr ⟨_, rfl⟩⟩
theorem Routes_ro {d : Nat} (hd : 1 ≤ d) {H : PT HB} {p : Nat} {own : List Nat} {l : Lo} {rs : List Rst} (hl : rs.length ≤ 1000) (lk : LkAt H p own l rs) {n lo : Nat} :
    ∃ w m, callM (K DG (d + 1)) .ro 46 [.ptr p 0 0] H n lo = some ⟨.imm w, H, m, [.rA]⟩ ∧ n ≤ m ∧ Sl 4 w (rs.map ivRS) := by
  obtain ⟨d, rfl⟩ : ∃ d', d = d' + 1 := ⟨d - 1, by omega⟩
  obtain ⟨x, h1, h2, h3, h4⟩ := lk
  obtain ⟨v, H1, n1, e1, hn1, vo, w, hf, hw⟩ := cloneRS_run (d := d) h2 hl (n := n) (lo := n) (Nat.le_refl _)
  have xo : x.out = true := by
    rcases h2 with ⟨_, _, u, rfl, hu⟩ | ⟨id, _, rfl, _⟩
    · rfl
    · rfl
  have key : Fe (K DG (d + 1 + 1) 46 [.ptr p 0 0] H n n) (fun v' H' n' => v' = v ∧ H' = H1 ∧ n' = n1) := by
    rw [D.k46]
    refine fn_dw rfl ?_
    simp [h1, e1, xo, vo, B6, B7]
  obtain ⟨v', H', n', e, rfl, rfl, rfl⟩ := key
  have ho : DV.out.outs [DV.ptr p 0 0] = true := rfl
  refine ⟨w, n', ?_, hn1, hw⟩
  rw [callM_ro, if_pos ho, e]
  simp only [hf]
  rfl
end Go.Proofs.YtnpcgejfkonfdabGreatDoor.D

-- K21
set_option linter.unusedVariables false
set_option linter.unusedSimpArgs false
set_option maxHeartbeats 16000000
namespace Go.Proofs.YtnpcgejfkonfdabGreatDoor.D
open Go Go.PM Go.Lib
theorem LoEq.hld {l l' : Lo} (e : LoEq l l') {rs : List Rst} {r : Nat} (hr : r < l.rts.length) : hld l' rs r = hld l rs r := by
  simp only [D.hld, (e.rts r hr).path]
theorem find_congr {p q : Nat → Bool} : ∀ xs : List Nat, (∀ x ∈ xs, p x = q x) → xs.find? p = xs.find? q
  | [], _ => rfl
  | x :: xs, h => by
    simp only [List.find?_cons, h x (by simp), find_congr xs fun y hy => h y (by simp [hy])]
theorem LoEq.hol {l l' : Lo} (e : LoEq l l') {rs : List Rst} {z : Int} : hol l' rs z = hol l rs z := by
  have : (List.range l'.rts.length).find? (fun r => decide (z ∈ D.hld l' rs r)) = (List.range l.rts.length).find? (fun r => decide (z ∈ D.hld l rs r)) := by
    rw [e.len]
    refine find_congr _ fun x hx => ?_
    rw [e.hld (List.mem_range.1 hx)]
  simp only [D.hol, this]
theorem LoEq.nd {l l' : Lo} (e : LoEq l l') {r : Nat} (hr : r < l.rts.length) : nd (nth l'.rts r) = nd (nth l.rts r) := by
  simp only [D.nd, (e.rts r hr).pts, (e.rts r hr).flk]
theorem LoEq.lie {l l' : Lo} (e : LoEq l l') {ls : List Int} {r : Nat} (hr : r < l.rts.length) : Lie l' ls r ↔ Lie l ls r := by
  simp only [Lie, e.nd hr]
theorem LoEq.mi' {l l' : Lo} (e : LoEq l l') {os : List Bool} {ls : List Int} : MI l' os ls ↔ MI l os ls := by simp only [MI, e.secs, e.pts]
theorem LoEq.ro {l l' : Lo} (e : LoEq l l') {r : Nat} (hr : r < l.rts.length) {x : Rst} (h : RsOk l' r x) : RsOk l r x :=
  ⟨h.md, h.t0, h.t8, h.t6, h.tz, fun m => by have := h.g3 m; rw [(e.rts r hr).path] at this; exact this, h.gz⟩
theorem LoEq.inv {l l' : Lo} (e : LoEq l l') {rs : List Rst} (h : INV l' rs) : INV l rs :=
  ⟨by rw [h.ln, e.len], fun r hr => e.ro hr (h.ro r (by rw [e.len]; exact hr)), fun i j hi hj hij mi mj => by
    have := h.nc i j (by rw [e.len]; exact hi) (by rw [e.len]; exact hj) hij mi mj
    rw [e.cf hi hj] at this
    exact this⟩
theorem LoEq.dr {l l' : Lo} (e : LoEq l l') {rs : List Rst} {os : List Bool} {ls zs : List Int} (h : DrOk l' rs os ls zs) : DrOk l rs os ls zs := by
  refine ⟨by rw [h.1, e.pts], fun q hq => ?_⟩
  rcases h.2 q (by rw [e.pts]; exact hq) with h | ⟨r, x, h1, h2, h3, h4, h5, h6, h7, h8⟩
  · exact .inl h
  · have hr : r < l.rts.length := by rw [← e.len]; exact h1
    rw [e.nd hr] at h3
    rw [e.pts] at h7
    rw [e.pts, e.hol] at h8
    exact .inr ⟨r, x, hr, h2, h3, h4, h5, h6, h7, h8⟩
theorem LoEq.pr {l l' : Lo} (e : LoEq l l') {rs : List Rst} {os : List Bool} {ls : List Int} {bs : List Bool} (h : PrOk l' rs os ls bs) : PrOk l rs os ls bs := by
  refine ⟨by rw [h.1, e.sigs], fun s hs ht => ?_⟩
  obtain ⟨r, h1, h2, h3, h4, h5⟩ := h.2 s (by rw [e.sigs]; exact hs) ht
  have hr : r < l.rts.length := by rw [← e.len]; exact h1
  have hf := e.rts r hr
  rw [hf.fr] at h3
  rw [hf.path] at h4
  exact ⟨r, hr, h2, h3, h4, (e.lie hr).1 h5⟩
theorem eqSt_rs {a b c a' b' c' : Int} {e e' : Bool} : eqSt [.i, .i, .i, .b] [.imm (.int .i64 a), .imm (.int .i64 b), .imm (.int .i64 c), .imm (.bool e)] [.imm (.int .i64 a'), .imm (.int .i64 b'), .imm (.int .i64 c'), .imm (.bool e')] = some (dec ((⟨a, b, c, e⟩ : Rst) = ⟨a', b', c', e'⟩)) := by
  have : ((⟨a, b, c, e⟩ : Rst) = ⟨a', b', c', e'⟩) ↔ ((a == a') && ((b == b') && ((c == c') && ((e == e') && true)))) = true := by simp [Rst.mk.injEq]
  rw [dec_congr this]
  simp only [eqSt, eqSc, if_true]
  cases h : ((a == a') && ((b == b') && ((c == c') && ((e == e') && true)))) with
  | true => rw [dec_t rfl]
  | false => rw [dec_f nofun]
end Go.Proofs.YtnpcgejfkonfdabGreatDoor.D

-- FL
set_option linter.unusedVariables false
set_option linter.unusedSimpArgs false
set_option maxHeartbeats 16000000
namespace Go.Proofs.YtnpcgejfkonfdabGreatDoor.D
open Go Go.PM Go.Lib

/-- rows that a function makes: a block from w on -/
def Rw (sz : Nat) (H : PT HB) (w n : Nat) (x : DV) (rows : List (List IV)) : Prop := (x = .imm .nils ∧ rows = []) ∨ ∃ id, (w ≤ id ∧ id < n) ∧ x = .sl id 0 rows.length rows.length ∧ H.get id = some ⟨sz, rows.map imms⟩
theorem Rw.scal {sz : Nat} {H : PT HB} {w n : Nat} {x : DV} {rows : List (List IV)} (h : Rw sz H w n x rows) : x.scal = true := by
  rcases h with ⟨rfl, _⟩ | ⟨id, _, rfl, _⟩ <;> rfl
theorem Rw.out {sz : Nat} {H : PT HB} {w n : Nat} {x : DV} {rows : List (List IV)} (h : Rw sz H w n x rows) : x.out = true := by
  rcases h with ⟨rfl, _⟩ | ⟨id, _, rfl, _⟩ <;> rfl
theorem Rw.len {sz : Nat} {H : PT HB} {w n : Nat} {x : DV} {rows : List (List IV)} (h : Rw sz H w n x rows) : lenOf x = some rows.length := by
  rcases h with ⟨rfl, rfl⟩ | ⟨id, _, rfl, _⟩ <;> simp [lenOf]
theorem app_rw {sz bytes : Nat} {x : DV} {H : PT HB} {w n lo : Nat} {rows : List (List IV)} (hlo : lo ≤ w) (hwn : w ≤ n) (h : Rw sz H w n x rows) (hs : 0 < sz) (hl : rows.length ≤ 100000) (hb : bytes ≤ 100) {es : List (List IV)} (he : es ≠ []) (hel : es.length ≤ 100000) :
    ∃ x' hw acc, appOf H.get n lo sz bytes x (.imm (.lst true sz es)) = some { v := x', hw := hw, n' := n + 1, acc := acc } ∧ Rw sz (putH H hw) w (n + 1) x' (rows ++ es) ∧ ∀ j, j < w → (putH H hw).get j = H.get j := by
  have hm : 20000000 ≤ appMax := by unfold appMax; omega
  have hel0 : 0 < es.length := List.length_pos_iff.2 he
  rcases h with ⟨rfl, rfl⟩ | ⟨id, ⟨h1, h2⟩, rfl, h3⟩
  · have a2 : es.length ≤ appMax := by omega
    have a3 : es.length * bytes ≤ appMax := by
      have := Nat.mul_le_mul hel hb
      omega
    have hn0 : ¬ es = [] := he
    refine ⟨.sl n 0 es.length es.length, [(n, some ⟨sz, es.map imms⟩)], [.wX n], by simp [appOf, srcOf, rowsOf, raccOf, a2, a3, hs, hn0], .inr ⟨n, by omega, by simp, ?_⟩, fun j hj => ?_⟩
    · simp [putH, PT.get_put]
    · have : ¬ j = n := by omega
      simp [putH, PT.get_put, this]
  · have a1 : ¬ rows.length + es.length ≤ rows.length := by omega
    have a2 : rows.length + es.length ≤ appMax := by omega
    have a3 : (rows.length + es.length) * bytes ≤ appMax := by
      have := Nat.mul_le_mul (show rows.length + es.length ≤ 200000 by omega) hb
      omega
    have hn0 : ¬ es = [] := he
    have hl0 : lo ≤ id := by omega
    refine ⟨.sl n 0 (rows.length + es.length) (rows.length + es.length), [(id, none), (n, some ⟨sz, rows.map imms ++ es.map imms⟩)], _, by simp [appOf, srcOf, rowsOf, raccOf, h3, a1, a2, a3, hs, hn0, hl0]; rfl, .inr ⟨n, by omega, by simp, ?_⟩, fun j hj => ?_⟩
    · simp [putH, PT.get_put]
    · have b1 : ¬ j = n := by omega
      have b2 : ¬ j = id := by omega
      simp [putH, PT.get_put, b1, b2]
theorem frz_rw {sz : Nat} {x : DV} {H : PT HB} {w n : Nat} {rows : List (List IV)} (h : Rw sz H w n x rows) : ∃ v, frz H.get w x = some (.imm v) ∧ Sl sz v rows := by
  rcases h with ⟨rfl, rfl⟩ | ⟨id, ⟨h1, h2⟩, rfl, h3⟩
  · exact ⟨_, rfl, .inl ⟨rfl, rfl⟩⟩
  · refine ⟨.lst false sz rows, ?_, .inr ⟨_, rfl⟩⟩
    have hf : frzI H.get w frzDepth (.sl id 0 rows.length rows.length) = some (.lst false sz rows) := by
      show (if w ≤ id then _ else _) = _
      rw [if_pos h1]
      simp only [h3]
      rw [if_pos (by simp)]
      simp only [List.drop_zero]
      rw [List.take_of_length_le (by simp), mapO_frz2]
      rfl
    have hz : frz H.get w (.sl id 0 rows.length rows.length) = if id < w then some (.sl id 0 rows.length rows.length) else (frzI H.get w frzDepth (.sl id 0 rows.length rows.length)).map .imm := rfl
    rw [hz, if_neg (by omega), hf]
    rfl
def bi (b : Bool) : Int := if b then 1 else 0
def of1 (x : Rst) : List Int := [x.mode, x.timer, x.gone, bi x.seen]
def ofF (rs : List Rst) : List Int := rs.flatMap of1
theorem ofF_len (rs : List Rst) : (ofF rs).length = 4 * rs.length := by
  induction rs with
  | nil => rfl
  | cons x rs ih => simp only [ofF, List.flatMap_cons, List.length_append, of1, List.length_cons, List.length_nil] at *; omega
theorem ofF_succ {rs : List Rst} {i : Nat} (hi : i < rs.length) : ofF (rs.take (i + 1)) = ofF (rs.take i) ++ of1 (nth rs i) := by
  rw [List.take_add_one, List.getElem?_eq_getElem hi]
  simp only [Option.toList_some, ofF, List.flatMap_append, List.flatMap_cons, List.flatMap_nil, List.append_nil]
  congr 2
  simp [nth, List.getD_eq_getElem?_getD, List.getElem?_eq_getElem hi]
theorem fnum_bl {d : Nat} (b : Bool) : bl (K DG (d + 1)) 138 [.imm (.bool b)] = some (.imm (.int .i64 (bi b))) := by
  refine bl_fe ?_
  rw [D.k138]
  refine fn_dw rfl ?_
  cases b <;> simp [bi, B6, B7]
structure IOf (v : IV) (rs : List Rst) (i : Nat) (st : St) : Prop where
  c6 : st.T.get 6 = some (.imm v)
  c7 : st.T.get 7 = some (.imm (.int .i64 (rs.length : Int)))
  c8 : st.T.get 8 = some (.imm (.int .i64 (i : Int)))
  c3 : ∃ x, st.T.get 3 = some x ∧ Rw 1 st.H 0 st.n x ((ofF (rs.take i)).map ivI)
theorem loopOf {d : Nat} {v : IV} {rs : List Rst} (hv : Sl 4 v (rs.map ivRS)) (hl : rs.length ≤ 1000) {st : St} (h : IOf v rs 0 st) {ks : List Kf} {Q : Ex → St → Prop}
    (hk : ∀ s', IOf v rs rs.length s' → Bk DG (K DG (d + 1)) 0 (.exit 0) ks s' Q) : Wp DG (K DG (d + 1)) 0 D.l88_0 ks st Q := by
  refine dw_loop (N := rs.length) (small (by have := rb3; omega)) (fun i st => IOf v rs i st) (fun e s' => e = .exit 0 ∧ IOf v rs rs.length s') (fun i st hle hI => ?_) h (fun e s' h => by
    obtain ⟨rfl, h⟩ := h
    exact hk s' h)
  obtain ⟨c6, c7, c8, x, c3, hx⟩ := hI
  have vs := hv.scal
  have xs := hx.scal
  by_cases hi : i < rs.length
  · have hi1 : (i : Int) < rs.length := by omega
    have hi' := ilt_t hi1
    have hw8 : IntKind.i64.wrap ((i : Int) + 1) = (i : Int) + 1 := wr_succ hi (by have := rb3; omega)
    have ix := fun {h : Nat → Option HB} {n : Nat} => idx_sl (h := h) (n := n) hv (by omega) (k := .i64) (z := (i : Int)) (by omega) hi1
    simp only [Int.toNat_natCast] at ix
    have sc := ofF_succ hi
    have fb := fnum_bl (d := d) (nth rs i).seen
    have ol := ofF_len (rs.take i)
    obtain ⟨x', hw, acc, a1, a2, a3⟩ := app_rw (bytes := 8) (lo := 0) (w := 0) (n := st.n + 1) (H := st.H) (Nat.le_refl _) (by omega) (show Rw 1 st.H 0 (st.n + 1) x _ from by
      rcases hx with hx | ⟨id, ⟨p1, p2⟩, p3⟩
      · exact .inl hx
      · exact .inr ⟨id, ⟨p1, by omega⟩, p3⟩) (by omega) (by simp at ol ⊢; omega) (by omega) (es := [[.int .i64 (nth rs i).mode], [.int .i64 (nth rs i).timer], [.int .i64 (nth rs i).gone], [.int .i64 (bi (nth rs i).seen)]]) (by simp) (by simp)
    have a2s := a2.scal
    have fin : Rw 1 (putH st.H hw) 0 (st.n + 1 + 1) x' ((ofF (rs.take (i + 1))).map ivI) := by
      rw [sc, List.map_append]
      exact a2
    generalize nth rs i = y at *
    obtain ⟨ym, yt, yg, ys⟩ := y
    generalize hQ : (fun (e : Ex) (s' : St) => _) = Q'
    simp only [D.l88_0b]
    simp [c6, c7, c8, c3, vs, xs, hi', hw8, ix, fb, a1, a2s, ivRS, evParts2, lay, unImms, unImm, mapO, rowsN, imms, B6, B7]
    subst hQ
    exact .inl ⟨rfl, hi, by simp [PT.get_put], by simp [PT.get_put], by simp [PT.get_put], x', by simp [PT.get_put], fin⟩
  · obtain rfl : i = rs.length := by omega
    generalize hQ : (fun (e : Ex) (s' : St) => _) = Q'
    simp only [D.l88_0b]
    simp [c6, c7, c8, c3, vs, xs, B6, B7]
    subst hQ
    exact .inr ⟨nofun, rfl, by simp [PT.get_put, c6], by simp [PT.get_put, c7], by simp [PT.get_put, c8], x, by simp [PT.get_put, c3], hx⟩
theorem Of_bl {d : Nat} {v : IV} {rs : List Rst} (hv : Sl 4 v (rs.map ivRS)) (hl : rs.length ≤ 1000) : ∃ w, bl (K DG (d + 2)) 88 [.imm v] = some (.imm w) ∧ Sl 1 w ((ofF rs).map ivI) := by
  have key : Fe (K DG (d + 1 + 1) 88 [.imm v] .lf 0 0) (fun x H n => Rw 1 H 0 n x ((ofF rs).map ivI)) := by
    rw [D.k88]
    refine fn_dw rfl ?_
    have vl := hv.len
    simp only [List.length_map] at vl
    have vs := hv.scal
    simp [vl, vs, B6, B7]
    refine loopOf hv hl ⟨by simp [PT.get_put], by simp [PT.get_put], by simp [PT.get_put], .imm .nils, by simp [PT.get_put], .inl ⟨rfl, by simp [ofF]⟩⟩ (fun s' hI => ?_)
    obtain ⟨c6, c7, c8, x, c3, hx⟩ := hI
    rw [List.take_length] at hx
    have xs := hx.scal
    have xo := hx.out
    simp [c6, c7, c8, c3, xs, xo, B6, B7]
    exact hx
  obtain ⟨x, H, n, e, hx⟩ := key
  obtain ⟨w, h1, h2⟩ := frz_rw hx
  exact ⟨w, bl_of e h1, h2⟩
/-- what a telegram says -/
def layT (e c : Int) (rs : List Rst) : List Th := .text [115, 116, 97, 116, 101] :: ((e :: c :: (rs.length : Int) :: ofF rs).map .int)
structure ILy (H0 : PT HB) (w a : Nat) (x : DV) (zs : List Int) (i : Nat) (st : St) : Prop where
  c7 : st.T.get 7 = some (.ptr a 0 0)
  c8 : st.T.get 8 = some (.imm (.bool true))
  c21 : st.T.get 21 = some x
  c22 : st.T.get 22 = some (.imm (.int .i64 (zs.length : Int)))
  c23 : st.T.get 23 = some (.imm (.int .i64 (i : Int)))
  cr : CrAt st.H w st.n a (.text [115, 116, 97, 116, 101] :: (zs.take i).map .int)
  fr : ∀ j, j < w → st.H.get j = H0.get j
  xa : ∃ id, (w ≤ id ∧ id < st.n ∧ id ≠ a) ∧ x = .sl id 0 zs.length zs.length ∧ st.H.get id = some ⟨1, zs.map rowI⟩
end Go.Proofs.YtnpcgejfkonfdabGreatDoor.D

-- FM
set_option linter.unusedVariables false
set_option linter.unusedSimpArgs false
set_option maxHeartbeats 16000000
namespace Go.Proofs.YtnpcgejfkonfdabGreatDoor.D
open Go Go.PM Go.Lib

/-- a crate at a, its rows in the block ob -/
def CrX (H : PT HB) (a : Nat) (ob : Option Nat) (ts : List Th) : Prop := (H.get a = some ⟨1, [[.imm .nils]]⟩ ∧ ts = [] ∧ ob = none) ∨
  ∃ b, ob = some b ∧ b ≠ a ∧ H.get a = some ⟨1, [[.sl b 0 ts.length ts.length]]⟩ ∧ H.get b = some ⟨1, ts.map rowT⟩
theorem CrAddX {d : Nat} {H : PT HB} {n a lo : Nat} {ob : Option Nat} {ts : List Th} (hla : lo ≤ a) (ha : a < n) (hob : ∀ b, ob = some b → b < n ∧ lo ≤ b) (h : CrX H a ob ts) (hlt : ts.length < 100) (t : Th) :
    Fe (K DG (d + 1) 137 [.ptr a 0 0, .imm (thI t)] H n lo) (fun v H' n' => v = .imm (.bool true) ∧ n ≤ n' ∧ (∃ b, n ≤ b ∧ b < n' ∧ CrX H' a (some b) (ts ++ [t])) ∧ ∀ j, j < n → j ≠ a → ob ≠ some j → H'.get j = H.get j) := by
  have hs := thI_sc t
  rw [D.k137]
  refine fn_dw rfl ?_
  rcases h with ⟨h1, rfl, rfl⟩ | ⟨b, rfl, hba, h1, h2⟩
  · have a2 : 16 ≤ appMax := by unfold appMax; omega
    have a0 : 1 ≤ appMax := by unfold appMax; omega
    have i0 : ILt 0 100 = True := ilt_t (by omega)
    have e1 : ¬ a = n := by omega
    have l3 : lo ≤ n := by omega
    have e2 : ¬ n = a := by omega
    simp (config := {contextual := true}) [CrX, h1, hs, hla, l3, e1, e2, ha, i0, evParts2, lay, unImms, unImm, mapO, rowsN, appOf, srcOf, rowsOf, raccOf, a0, a2, rowT, B6, B7]
    refine ⟨⟨n, by omega, by omega, by simp [e2]⟩, fun j hj h4 => ?_⟩
    have h3 : ¬ j = n := by omega
    simp [h3, h4]
  · obtain ⟨hb, l2⟩ := hob b rfl
    have hab : ¬ a = b := fun e => hba e.symm
    have a1 : ¬ ts.length + 1 ≤ ts.length := by omega
    have a2 : ts.length + 1 ≤ appMax := by unfold appMax; omega
    have a3 : (ts.length + 1) * 16 ≤ appMax := by unfold appMax; omega
    have e1 : ¬ a = n := by omega
    have l3 : lo ≤ n := by omega
    have e2 : ¬ n = a := by omega
    have e3 : ¬ b = n := by omega
    have e4 : ¬ n = b := by omega
    have i0 : ILt (ts.length : Int) 100 = True := ilt_t (by omega)
    simp (config := {contextual := true}) [CrX, h1, h2, hs, hla, l2, l3, hba, hab, e1, e2, e3, e4, ha, hlt, i0, evParts2, lay, unImms, unImm, mapO, rowsN, appOf, srcOf, rowsOf, raccOf, a1, a2, a3, rowT, B6, B7]
    refine ⟨⟨n, by omega, by omega, by simp [e2]⟩, fun j hj h4 h5 => ?_⟩
    have h3 : ¬ j = n := by omega
    have h6 : ¬ j = b := fun e => h5 e.symm
    simp [h3, h4, h6]
theorem CrIntX {d : Nat} {H : PT HB} {n a lo : Nat} {ob : Option Nat} {ts : List Th} (hla : lo ≤ a) (ha : a < n) (hob : ∀ b, ob = some b → b < n ∧ lo ≤ b) (h : CrX H a ob ts) (hlt : ts.length < 100) (z : Int) :
    Fe (K DG (d + 2) 89 [.ptr a 0 0, .imm (.int .i64 z)] H n lo) (fun v H' n' => v = .imm (.bool true) ∧ n ≤ n' ∧ (∃ b, n ≤ b ∧ b < n' ∧ CrX H' a (some b) (ts ++ [.int z])) ∧ ∀ j, j < n → j ≠ a → ob ≠ some j → H'.get j = H.get j) := by
  obtain ⟨v, H', n', e, rfl, r⟩ := CrAddX (d := d) hla ha hob h hlt (.int z)
  simp only [thI] at e
  rw [D.k89]
  refine fn_dw rfl ?_
  simp [e, B6, B7]
  exact ⟨r.1, r.2.1, fun j h1 h2 h3 => r.2.2 j h1 h2 h3⟩
theorem CrTextX {d : Nat} {H : PT HB} {n a lo : Nat} {ob : Option Nat} {ts : List Th} (hla : lo ≤ a) (ha : a < n) (hob : ∀ b, ob = some b → b < n ∧ lo ≤ b) (h : CrX H a ob ts) (hlt : ts.length < 100) (z : List UInt8) :
    Fe (K DG (d + 2) 87 [.ptr a 0 0, .imm (.str z)] H n lo) (fun v H' n' => v = .imm (.bool true) ∧ n ≤ n' ∧ (∃ b, n ≤ b ∧ b < n' ∧ CrX H' a (some b) (ts ++ [.text z])) ∧ ∀ j, j < n → j ≠ a → ob ≠ some j → H'.get j = H.get j) := by
  obtain ⟨v, H', n', e, rfl, r⟩ := CrAddX (d := d) hla ha hob h hlt (.text z)
  simp only [thI] at e
  rw [D.k87]
  refine fn_dw rfl ?_
  simp [e, B6, B7]
  exact ⟨r.1, r.2.1, fun j h1 h2 h3 => r.2.2 j h1 h2 h3⟩
/-! ### Lay -/
structure ILz (H0 : PT HB) (n0 a : Nat) (x : DV) (zs : List Int) (i : Nat) (st : St) : Prop where
  c7 : st.T.get 7 = some (.ptr a 0 0)
  c8 : st.T.get 8 = some (.imm (.bool true))
  c21 : st.T.get 21 = some x
  c22 : st.T.get 22 = some (.imm (.int .i64 (zs.length : Int)))
  c23 : st.T.get 23 = some (.imm (.int .i64 (i : Int)))
  cr : ∃ b, (n0 ≤ b ∧ b < st.n) ∧ CrX st.H a (some b) (.text [115, 116, 97, 116, 101] :: (zs.take i).map .int) ∧ x ≠ .sl b 0 zs.length zs.length
  fr : ∀ j, j < n0 → st.H.get j = H0.get j
  xa : x = .imm (.lst true 1 (zs.map ivI)) ∨ ∃ id, (n0 ≤ id ∧ id < st.n ∧ id ≠ a) ∧ x = .sl id 0 zs.length zs.length ∧ st.H.get id = some ⟨1, zs.map rowI⟩
  an : n0 ≤ a ∧ a < st.n
theorem loopLy {d : Nat} {H0 : PT HB} {n0 a lo : Nat} {x : DV} {zs : List Int} (hlo : lo ≤ n0) (hl : zs.length ≤ 99) {st : St} (h : ILz H0 n0 a x zs 0 st) {ks : List Kf} {Q : Ex → St → Prop}
    (hk : ∀ s', ILz H0 n0 a x zs zs.length s' → Bk DG (K DG (d + 2)) lo (.exit 0) ks s' Q) : Wp DG (K DG (d + 2)) lo D.l52_0 ks st Q := by
  refine dw_loop (N := zs.length) (small (by have := rb3; omega)) (fun i st => ILz H0 n0 a x zs i st) (fun e s' => e = .exit 0 ∧ ILz H0 n0 a x zs zs.length s') (fun i st hle hI => ?_) h (fun e s' h => by
    obtain ⟨rfl, h⟩ := h
    exact hk s' h)
  obtain ⟨c7, c8, c21, c22, c23, ⟨b, ⟨b1, b2⟩, cr, xb⟩, fr, xa, an1, an2⟩ := hI
  by_cases hi : i < zs.length
  · have hi1 : (i : Int) < zs.length := by omega
    have hi' := ilt_t hi1
    have hw8 : IntKind.i64.wrap ((i : Int) + 1) = (i : Int) + 1 := wr_succ hi (by have := rb3; omega)
    have hL : (Th.text [115, 116, 97, 116, 101] :: (zs.take i).map Th.int).length < 100 := by simp; omega
    have hmt : (zs.take (i + 1)).map Th.int = (zs.take i).map Th.int ++ [.int zs[i]] := by
      rw [List.take_add_one, List.getElem?_eq_getElem hi, List.map_append]
      rfl
    obtain ⟨v, H', n', e, rfl, hn, ⟨b', p1, p2, p3⟩, p4⟩ := CrIntX (d := d) (lo := lo) (by omega) an2 (fun c hc => by cases hc; omega) cr hL zs[i]
    have cr2 : CrX H' a (some b') (.text [115, 116, 97, 116, 101] :: (zs.take (i + 1)).map .int) := by
      rw [hmt]
      exact p3
    have fr2 : ∀ j, j < n0 → H'.get j = H0.get j := fun j hj => by rw [p4 j (by omega) (by omega) (fun e => by cases e; omega)]; exact fr j hj
    rcases xa with rfl | ⟨id, ⟨i1, i2, i3⟩, rfl, hx⟩
    · have ix := fun {h : Nat → Option HB} {n : Nat} => idx_sl (h := h) (n := n) (v := .lst true 1 (zs.map ivI)) (xs := zs) (f := ivI) (.inr ⟨true, rfl⟩) (by omega) (k := .i64) (z := (i : Int)) (by omega) hi1
      simp only [Int.toNat_natCast, nth, List.getD_eq_getElem?_getD, List.getElem?_eq_getElem hi, Option.getD_some] at ix
      generalize hes : zs.map ivI = es at *
      generalize zs[i] = z at *
      generalize hQ : (fun (e : Ex) (s' : St) => _) = Q'
      simp only [D.l52_0b]
      simp [c7, c8, c21, c22, c23, hi', hw8, ix, e, ivI, imms, B6, B7]
      subst hQ
      exact .inl ⟨rfl, hi, by simp [PT.get_put], by simp [PT.get_put], by simp [PT.get_put], by simp [PT.get_put], by simp [PT.get_put], ⟨b', by simp; omega, cr2, fun e => by cases e⟩, fr2, .inl (by rw [hes]), by simp; omega⟩
    · have hidb : id ≠ b := fun e => xb (by rw [e])
      have ix := fun {n : Nat} => idx_hp (h := st.H.get) (n := n) (id := id) (row := 0) (len := zs.length) (cap := zs.length) hx rfl (k := .i64) (z := (i : Int)) (by omega) hi1
      simp only [Int.toNat_natCast, Nat.zero_add] at ix
      have hrow : (zs.map rowI)[i]? = some (rowI (zs[i])) := by rw [List.getElem?_map, List.getElem?_eq_getElem hi]; rfl
      have hx2 : H'.get id = some ⟨1, zs.map rowI⟩ := by rw [p4 id i2 i3 (fun e => by cases e; exact hidb rfl)]; exact hx
      generalize hrows : zs.map rowI = rows at *
      generalize zs[i] = z at *
      generalize hQ : (fun (e : Ex) (s' : St) => _) = Q'
      simp only [D.l52_0b]
      simp [c7, c8, c21, c22, c23, hi', hw8, ix, hx, hrow, e, rowI, B6, B7]
      subst hQ
      exact .inl ⟨rfl, hi, by simp [PT.get_put], by simp [PT.get_put], by simp [PT.get_put], by simp [PT.get_put], by simp [PT.get_put], ⟨b', by simp; omega, cr2, fun e => by cases e; omega⟩, fr2, .inr ⟨id, by simp; omega, rfl, by simpa [hrows] using hx2⟩, by simp; omega⟩
  · obtain rfl : i = zs.length := by omega
    have xs : x.scal = true := by rcases xa with rfl | ⟨id, _, rfl, _⟩ <;> rfl
    generalize hQ : (fun (e : Ex) (s' : St) => _) = Q'
    simp only [D.l52_0b]
    simp [c7, c8, c21, c22, c23, B6, B7]
    subst hQ
    exact .inr ⟨nofun, rfl, by simp [PT.get_put, c7], by simp [PT.get_put, c8], by simp [PT.get_put, c21], by simp [PT.get_put, c22], by simp [PT.get_put, c23], ⟨b, ⟨b1, b2⟩, cr, xb⟩, fr, xa, an1, an2⟩
theorem CrNewX {d : Nat} {H : PT HB} {n lo : Nat} (hlo : lo ≤ n) : ∃ H' n', K DG (d + 1) 86 [] H n lo = some (.ptr n 0 0, H', n') ∧ n' = n + 1 ∧ CrX H' n none [] ∧ ∀ j, j < n → H'.get j = H.get j := by
  have key : Fe (K DG (d + 1) 86 [] H n lo) (fun v H' n' => v = .ptr n 0 0 ∧ n' = n + 1 ∧ CrX H' n none [] ∧ ∀ j, j < n → H'.get j = H.get j) := by
    rw [D.k86]
    refine fn_dw rfl ?_
    simp (config := {contextual := true}) [CrX, hlo, evParts, lay, unImms, unImm, mapO, B6, B7]
    intro j h e
    omega
  obtain ⟨v, H', n', e, rfl, r⟩ := key
  exact ⟨H', n', e, r⟩
theorem CrX.at {H : PT HB} {w n a b : Nat} {ts : List Th} (h : CrX H a (some b) ts) (ha : w ≤ a ∧ a < n) (hb : w ≤ b ∧ b < n) : CrAt H w n a ts := by
  rcases h with ⟨_, _, h⟩ | ⟨c, hc, h1, h2, h3⟩
  · cases h
  · cases hc
    exact ⟨ha, .inr ⟨b, hb, h1, h2, h3⟩⟩
theorem Lay_fn {d : Nat} {H : PT HB} {n lo : Nat} {v : IV} {rs : List Rst} (hlo : lo ≤ n) (hv : Sl 4 v (rs.map ivRS)) (hl : rs.length ≤ 20) (e c : Int) :
    ∃ H' n', K DG (d + 3) 52 [.imm (.int .i64 e), .imm (.int .i64 c), .imm v] H n lo = some (.ptr n 0 0, H', n') ∧ n ≤ n' ∧ CrAt H' n n' n (layT e c rs) ∧ ∀ j, j < n → H'.get j = H.get j := by
  have vl := hv.len
  simp only [List.length_map] at vl
  have vs := hv.scal
  obtain ⟨H1, n1, e1, rfl, cx, f1⟩ := CrNewX (d := d + 1) (H := H) (n := n) (lo := lo) hlo
  obtain ⟨v2, H2, n2, e2, rfl, hn2, ⟨b, b1, b2, cx2⟩, f2⟩ := CrTextX (d := d) (H := H1) (n := n + 1) (lo := lo) hlo (by omega) (fun b hb => by cases hb) cx (by simp) [115, 116, 97, 116, 101]
  obtain ⟨w, ew, hw⟩ := Of_bl (d := d) hv (by omega)
  obtain ⟨zs, hzs⟩ : ∃ zs : List Int, zs = e :: c :: (rs.length : Int) :: ofF rs := ⟨_, rfl⟩
  have hzl : zs.length = 3 + 4 * rs.length := by rw [hzs]; simp [ofF_len]; omega
  have key : Fe (K DG (d + 2 + 1) 52 [.imm (.int .i64 e), .imm (.int .i64 c), .imm v] H n lo) (fun v' H' n' => v' = .ptr n 0 0 ∧ n ≤ n' ∧ CrAt H' n n' n (layT e c rs) ∧ ∀ j, j < n → H'.get j = H.get j) := by
    rw [D.k52]
    refine fn_dw rfl ?_
    have hz3 : zs.map ivI = [[.int .i64 e], [.int .i64 c], [.int .i64 (rs.length : Int)]] ++ (ofF rs).map ivI := by rw [hzs]; simp [ivI]
    have fin : ∀ (x : DV) (s' : St), ILz H n n x zs zs.length s' → CrAt s'.H n s'.n n (layT e c rs) ∧ n ≤ s'.n ∧ ∀ j, j < n → s'.H.get j = H.get j := fun x s' hI => by
      obtain ⟨c7, c8, c21, c22, c23, ⟨b, ⟨b1, b2⟩, cr, xb⟩, fr, xa, an1, an2⟩ := hI
      rw [List.take_length] at cr
      have : layT e c rs = .text [115, 116, 97, 116, 101] :: zs.map .int := by rw [hzs]; rfl
      rw [this]
      exact ⟨cr.at ⟨an1, an2⟩ ⟨b1, b2⟩, by omega, fr⟩
    have cx2' : CrX H2 n (some b) (.text [115, 116, 97, 116, 101] :: (zs.take 0).map .int) := by simpa using cx2
    have f3 : ∀ j, j < n → H2.get j = H.get j := fun j hj => by rw [f2 j (by omega) (by omega) (fun h => by cases h), f1 j hj]
    have ws := hw.scal
    by_cases hr : rs = []
    · have hw0 : Sl 1 w [] := by rw [hr] at hw; exact hw
      obtain ⟨sb, hsrc, _⟩ := src_sl hw0 H2.get
      have ha : appOf H2.get n2 lo 1 8 (.imm (.lst true 1 [[.int .i64 e], [.int .i64 c], [.int .i64 (rs.length : Int)]])) (.imm w) = some { v := .imm (.lst true 1 (zs.map ivI)), n' := n2, acc := [] } := by
        rw [hz3, hr]
        simp [appOf, hsrc, raccOf, ofF]
      have hle : (zs.map ivI).length = zs.length := by simp
      generalize hes : zs.map ivI = es at *
      simp [vl, vs, ws, e1, e2, ew, ha, hle, evParts2, lay, unImms, unImm, mapO, rowsN, imms, B6, B7]
      refine loopLy (n0 := n) (a := n) (zs := zs) (x := .imm (.lst true 1 es)) (H0 := H) hlo (by omega) ⟨by simp [PT.get_put], by simp [PT.get_put], by simp [PT.get_put], by simp [PT.get_put], by simp [PT.get_put], ⟨b, by simp; omega, cx2', fun e => by cases e⟩, f3, .inl (by rw [hes]), by simp; omega⟩ (fun s' hI => ?_)
      obtain ⟨g1, g2, g3⟩ := fin _ s' hI
      obtain ⟨c7, c8, c21, c22, c23, _, fr, xa, an1, an2⟩ := hI
      simp [c7, c8, c21, c22, c23, B6, B7]
      exact ⟨g2, g1, g3⟩
    · have hne : (ofF rs).map ivI ≠ [] := by
        intro h
        have := congrArg List.length h
        simp [ofF_len] at this
        exact hr (List.length_eq_zero_iff.1 (by omega))
      obtain ⟨sb, hsrc, hsb⟩ := src_sl hw H2.get
      obtain rfl := hsb hne
      have am : 20000000 ≤ appMax := by unfold appMax; omega
      have hol : ((ofF rs).map ivI).length ≤ 100 := by simp [ofF_len]; omega
      have hne2 : ¬ rs = [] := hr
      have hne3 : ¬ ofF rs = [] := fun h => hne (by rw [h]; rfl)
      have hll : 3 + (ofF rs).length = zs.length := by rw [hzl, ofF_len]
      have hpz : 0 < zs.length := by omega
      have a1 : zs.length ≤ appMax := by omega
      have a2 : zs.length * 8 ≤ appMax := by omega
      have ha : appOf H2.get n2 lo 1 8 (.imm (.lst true 1 [[.int .i64 e], [.int .i64 c], [.int .i64 (rs.length : Int)]])) (.imm w) = some { v := .sl n2 0 zs.length zs.length, hw := [(n2, some ⟨1, zs.map rowI⟩)], n' := n2 + 1, acc := [.wX n2] } := by
        have hrow : zs.map rowI = (zs.map ivI).map imms := by rw [List.map_map]; rfl
        rw [hrow, hz3]
        have ho : 3 + (ofF rs).length = zs.length := hll
        simp [appOf, hsrc, raccOf, hne3, imms] 
        constructor
        · constructor
          · omega
          · omega
        · omega
      generalize hes : zs.map rowI = es at *
      simp [vl, vs, ws, e1, e2, ew, ha, evParts2, lay, unImms, unImm, mapO, rowsN, imms, B6, B7]
      have hnb : ¬ n = n2 := by omega
      have hbb : ¬ b = n2 := by omega
      refine loopLy (n0 := n) (a := n) (zs := zs) (x := .sl n2 0 zs.length zs.length) (H0 := H) hlo (by omega) ⟨by simp [PT.get_put], by simp [PT.get_put], by simp [PT.get_put], by simp [PT.get_put], by simp [PT.get_put], ⟨b, by simp; omega, ?_, fun e => by cases e; omega⟩, fun j hj => ?_, .inr ⟨n2, by simp; omega, rfl, by simp [PT.get_put, hes]⟩, by simp; omega⟩ (fun s' hI => ?_)
      · rcases cx2' with ⟨_, _, h⟩ | ⟨b', h1, h2, h3, h4⟩
        · cases h
        · cases h1
          exact .inr ⟨b, rfl, h2, by simp [PT.get_put, hnb]; simpa using h3, by simp [PT.get_put, hbb]; simpa using h4⟩
      · have : ¬ j = n2 := by omega
        simp [PT.get_put, this]
        exact f3 j hj
      · obtain ⟨g1, g2, g3⟩ := fin _ s' hI
        obtain ⟨c7, c8, c21, c22, c23, _, fr, xa, an1, an2⟩ := hI
        simp [c7, c8, c21, c22, c23, B6, B7]
        exact ⟨g2, g1, g3⟩
  obtain ⟨v', H', n', e, rfl, r⟩ := key
  exact ⟨H', n', e, r⟩
end Go.Proofs.YtnpcgejfkonfdabGreatDoor.D

-- FN
set_option linter.unusedVariables false
set_option linter.unusedSimpArgs false
set_option maxHeartbeats 16000000
namespace Go.Proofs.YtnpcgejfkonfdabGreatDoor.D
open Go Go.PM Go.Lib

def intsF : List Th → Option (List Int)
  | [] => some []
  | .int z :: r => (intsF r).map (z :: ·)
  | _ :: _ => none
theorem intsF_app {ts : List Th} {zs : List Int} (h : intsF ts = some zs) (z : Int) : intsF (ts ++ [.int z]) = some (zs ++ [z]) := by
  induction ts generalizing zs with
  | nil => simp only [intsF] at h; cases h; rfl
  | cons t ts ih =>
    cases t with
    | int y =>
      simp only [intsF, Option.map_eq_some_iff] at h
      obtain ⟨ys, h1, rfl⟩ := h
      simp only [List.cons_append, intsF, ih h1]
      rfl
    | text s => simp [intsF] at h
    | bool s => simp [intsF] at h
theorem intsF_none {ts : List Th} {i : Nat} (hi : i < ts.length) (h : ∀ z, ts[i] ≠ .int z) : intsF ts = none := by
  induction ts generalizing i with
  | nil => simp at hi
  | cons t ts ih =>
    cases t with
    | int y =>
      cases i with
      | zero => exact absurd rfl (h y)
      | succ i =>
        simp only [intsF]
        rw [ih (i := i) (by simpa using hi) (fun z => by simpa using h z)]
        rfl
    | text s => rfl
    | bool s => rfl
theorem intsF_len {ts : List Th} {zs : List Int} (h : intsF ts = some zs) : zs.length = ts.length := by
  induction ts generalizing zs with
  | nil => simp only [intsF] at h; cases h; rfl
  | cons t ts ih =>
    cases t with
    | int y =>
      simp only [intsF, Option.map_eq_some_iff] at h
      obtain ⟨ys, h1, rfl⟩ := h
      simp [ih h1]
    | text s => simp [intsF] at h
    | bool s => simp [intsF] at h
theorem intsF_map (zs : List Int) : intsF (zs.map .int) = some zs := by
  induction zs with
  | nil => rfl
  | cons z zs ih => simp only [List.map_cons, intsF, ih]; rfl
def tkF : List Int → Option (List Rst)
  | m :: t :: g :: s :: r => if s = 0 ∨ s = 1 then (tkF r).map (⟨m, t, g, s == 1⟩ :: ·) else none
  | _ => some []
theorem takeI_tk : ∀ zs : List Int, takeI zs = (tkF zs).map (·.map ivRS)
  | m :: t :: g :: s :: r => by
    have ih := takeI_tk r
    simp only [takeI, tkF]
    by_cases h : s = 0 ∨ s = 1
    · rw [if_pos h, if_pos h, ih, Option.map_map, Option.map_map]
      rfl
    · rw [if_neg h, if_neg h]
      rfl
  | [] => rfl
  | [_] => rfl
  | [_, _] => rfl
  | [_, _, _] => rfl
theorem tkF_len : ∀ {zs : List Int} {qs : List Rst}, tkF zs = some qs → 4 * qs.length ≤ zs.length
  | m :: t :: g :: s :: r, qs, h => by
    simp only [tkF] at h
    split at h
    · simp only [Option.map_eq_some_iff] at h
      obtain ⟨us, h1, rfl⟩ := h
      have := tkF_len h1
      simp
      omega
    · cases h
  | [], qs, h => by simp only [tkF] at h; cases h; simp
  | [_], qs, h => by simp only [tkF] at h; cases h; simp
  | [_, _], qs, h => by simp only [tkF] at h; cases h; simp
  | [_, _, _], qs, h => by simp only [tkF] at h; cases h; simp
theorem tkF_of : ∀ rs : List Rst, tkF (ofF rs) = some rs
  | [] => rfl
  | x :: rs => by
    have e : ofF (x :: rs) = x.mode :: x.timer :: x.gone :: bi x.seen :: ofF rs := by simp [ofF, of1]
    obtain ⟨m, t, g, s⟩ := x
    rw [e, tkF, tkF_of rs]
    cases s <;> simp [bi]
def readF (ts : List Th) : Option (Int × Int × List Rst) := match intsF (ts.drop 1) with
  | none => none
  | some zs => match ts with
    | .text s :: _ => if s = [115, 116, 97, 116, 101] ∧ 3 ≤ zs.length ∧ (zs.length - 3) % 4 = 0 then match tkF (zs.drop 3) with
        | some qs => if nth zs 2 = (qs.length : Int) then some (nth zs 0, nth zs 1, qs) else none
        | none => none
      else none
    | _ => none
theorem readF_lay (e c : Int) (rs : List Rst) : readF (layT e c rs) = some (e, c, rs) := by
  have h1 : intsF ((layT e c rs).drop 1) = some (e :: c :: (rs.length : Int) :: ofF rs) := intsF_map _
  unfold readF
  rw [h1]
  simp only [layT]
  rw [if_pos ⟨trivial, by simp, by simp [ofF_len]⟩]
  have h2 : (e :: c :: (rs.length : Int) :: ofF rs).drop 3 = ofF rs := rfl
  rw [h2, tkF_of]
  exact if_pos rfl
structure IRd (H0 : PT HB) (w a : Nat) (ts : List Th) (j : Nat) (st : St) : Prop where
  c0 : st.T.get 0 = some (.ptr a 0 0)
  c7 : st.T.get 7 = some (.imm (.int .i64 ((j + 1 : Nat) : Int)))
  s : ∃ x zs, intsF ((ts.drop 1).take j) = some zs ∧ st.T.get 6 = some x ∧ Rw 1 st.H w st.n x (zs.map ivI)
  fr : ∀ i, i < w → st.H.get i = H0.get i
  hn : w ≤ st.n
theorem loopRd {d : Nat} {H0 : PT HB} {w a lo : Nat} {ts : List Th} (hlo : lo ≤ w) (hc : CrAt H0 0 w a ts) (hl : ts.length ≤ 100)
    {st : St} (h : IRd H0 w a ts 0 st) {ks : List Kf} {Q : Ex → St → Prop}
    (hk : ∀ s', IRd H0 w a ts (ts.length - 1) s' → Bk DG (K DG (d + 3)) lo (.exit 0) ks s' Q)
    (hr : ∀ s', intsF (ts.drop 1) = none → s'.T.get 2 = some (.imm (.int .i64 0)) → s'.T.get 3 = some (.imm (.int .i64 0)) → s'.T.get 4 = some (.imm .nils) → s'.T.get 5 = some (.imm (.bool false)) → w ≤ s'.n → Bk DG (K DG (d + 3)) lo .ret ks s' Q) :
    Wp DG (K DG (d + 3)) lo D.l56_0 ks st Q := by
  refine dw_loop (N := ts.length - 1) (small (by have := rb3; omega)) (fun i st => IRd H0 w a ts i st) (fun e s' => (e = .exit 0 ∧ IRd H0 w a ts (ts.length - 1) s') ∨ (e = .ret ∧ intsF (ts.drop 1) = none ∧ s'.T.get 2 = some (.imm (.int .i64 0)) ∧ s'.T.get 3 = some (.imm (.int .i64 0)) ∧ s'.T.get 4 = some (.imm .nils) ∧ s'.T.get 5 = some (.imm (.bool false)) ∧ w ≤ s'.n)) (fun i st hle hI => ?_) h (fun e s' h => by
    rcases h with ⟨rfl, h⟩ | ⟨rfl, h1, h2, h3, h4, h5, h6⟩
    · exact hk s' h
    · exact hr s' h1 h2 h3 h4 h5 h6)
  obtain ⟨c0, c7, ⟨x, zs, hz, c6, hx⟩, fr, hn⟩ := hI
  have xs := hx.scal
  have hc1 : CrAt st.H 0 st.n a ts := hc.mono hn fr
  obtain ⟨m1, e1, hm1⟩ := CrLen_ro (d := d + 1) hc1 lo
  have hc2 : CrAt st.H 0 m1 a ts := hc1.mono hm1 fun _ _ => rfl
  obtain ⟨m2, e2, hm2⟩ := CrInt_ro (d := d) hc2 (((i + 1 : Nat)) : Int) lo
  by_cases hi : i < ts.length - 1
  · have hi1 : i + 1 < ts.length := by omega
    have hi' : ILt (((i + 1 : Nat)) : Int) (ts.length : Int) = True := ilt_t (by omega)
    have hw8 : IntKind.i64.wrap (((i + 1 : Nat) : Int) + 1) = ((i + 1 + 1 : Nat) : Int) := wr_succ (n := ts.length) hi1 (by have := rb3; omega)
    rw [atI_get hi1] at e2
    have htk : (ts.drop 1).take (i + 1) = (ts.drop 1).take i ++ [ts[i + 1]] := by
      rw [List.take_add_one, List.getElem?_drop, Nat.add_comm 1 i, List.getElem?_eq_getElem hi1]
      rfl
    have hnone : (∀ z, ts[i + 1] ≠ .int z) → intsF (ts.drop 1) = none := fun h => intsF_none (i := i) (by simp; omega) (fun z => by
      rw [List.getElem_drop]
      simpa [Nat.add_comm 1 i] using h z)
    have hzl := intsF_len hz
    cases ht : ts[i + 1] with
    | int z =>
      rw [ht] at e2 htk
      simp only [thI, intOf, Option.getD_some, Option.isSome_some] at e2
      obtain ⟨x', hw, acc, a1, a2, a3⟩ := app_rw (bytes := 8) (lo := lo) (w := w) (n := m2) (H := st.H) hlo (by omega) (show Rw 1 st.H w m2 x _ from by
        rcases hx with hx | ⟨id, ⟨p1, p2⟩, p3⟩
        · exact .inl hx
        · exact .inr ⟨id, ⟨p1, by omega⟩, p3⟩) (by omega) (by simp at hzl ⊢; omega) (by omega) (es := [[.int .i64 z]]) (by simp) (by simp)
      have a2s := a2.scal
      have a2' : Rw 1 (putH st.H hw) w (m2 + 1) x' ((zs ++ [z]).map ivI) := by
        rw [List.map_append]
        exact a2
      generalize (((i + 1 : Nat)) : Int) = iz at *
      generalize hQ : (fun (e : Ex) (s' : St) => _) = Q'
      simp only [D.l56_0b]
      simp [c0, c6, c7, xs, hi', hw8, e1, e2, a1, a2s, evParts2, lay, unImms, unImm, mapO, rowsN, imms, B6, B7]
      subst hQ
      exact .inl ⟨rfl, hi, by simp [PT.get_put], by simp [PT.get_put], ⟨x', zs ++ [z], by rw [htk]; exact intsF_app hz z, by simp [PT.get_put], a2'⟩, fun j hj => (a3 j hj).trans (fr j hj), by simp; omega⟩
    | text s =>
      rw [ht] at e2
      simp only [thI, intOf, Option.getD_none, Option.isSome_none] at e2
      have hno := hnone (fun z => by rw [ht]; exact nofun)
      generalize (((i + 1 : Nat)) : Int) = iz at *
      generalize hQ : (fun (e : Ex) (s' : St) => _) = Q'
      simp only [D.l56_0b]
      simp [c0, c6, c7, xs, hi', hw8, e1, e2, B6, B7]
      subst hQ
      exact .inr ⟨nofun, .inr ⟨rfl, hno, by simp [PT.get_put], by simp [PT.get_put], by simp [PT.get_put], by simp [PT.get_put], by simp; omega⟩⟩
    | bool s =>
      rw [ht] at e2
      simp only [thI, intOf, Option.getD_none, Option.isSome_none] at e2
      have hno := hnone (fun z => by rw [ht]; exact nofun)
      generalize (((i + 1 : Nat)) : Int) = iz at *
      generalize hQ : (fun (e : Ex) (s' : St) => _) = Q'
      simp only [D.l56_0b]
      simp [c0, c6, c7, xs, hi', hw8, e1, e2, B6, B7]
      subst hQ
      exact .inr ⟨nofun, .inr ⟨rfl, hno, by simp [PT.get_put], by simp [PT.get_put], by simp [PT.get_put], by simp [PT.get_put], by simp; omega⟩⟩
  · obtain rfl : i = ts.length - 1 := by omega
    have hi' : ILt (((ts.length - 1 + 1 : Nat)) : Int) (ts.length : Int) = False := ilt_f (by omega)
    generalize hiz : (((ts.length - 1 + 1 : Nat)) : Int) = iz at c7 hi'
    generalize hQ : (fun (e : Ex) (s' : St) => _) = Q'
    simp only [D.l56_0b]
    simp [c0, c6, c7, xs, hi', e1, B6, B7]
    subst hQ
    exact .inr ⟨nofun, .inl ⟨rfl, by simp [PT.get_put, c0], by rw [hiz]; simp [PT.get_put, c7], ⟨x, zs, hz, by simp [PT.get_put, c6], by
      rcases hx with hx | ⟨id, ⟨p1, p2⟩, p3⟩
      · exact .inl hx
      · exact .inr ⟨id, ⟨p1, by simp; omega⟩, p3⟩⟩, fr, by simp; omega⟩⟩
theorem mapO_rowInt : ∀ zs : List Int, mapO rowInt (zs.map rowI) = some zs
  | [] => rfl
  | z :: zs => by
    have h := mapO_rowInt zs
    simp only [List.map_cons, mapO, h]
    rfl
theorem rowI_imms (zs : List Int) : (zs.map ivI).map imms = zs.map rowI := by
  rw [List.map_map]
  rfl
/-- what Take answers -/
theorem takeP_of {zs : List Int} : (zs.length % 4 ≠ 0 ∧ takeP zs = (.nils, false)) ∨ (zs.length % 4 = 0 ∧ ((tkF zs = none ∧ takeP zs = (.nils, false)) ∨ ∃ qs v, tkF zs = some qs ∧ takeP zs = (v, true) ∧ Sl 4 v (qs.map ivRS))) := by
  unfold takeP
  by_cases h : zs.length % 4 ≠ 0
  · exact .inl ⟨h, if_pos h⟩
  · refine .inr ⟨by omega, ?_⟩
    rw [if_neg h, takeI_tk]
    cases htk : tkF zs with
    | none => exact .inl ⟨rfl, rfl⟩
    | some qs =>
      refine .inr ⟨qs, ?_⟩
      cases qs with
      | nil => exact ⟨.nils, rfl, rfl, .inl ⟨rfl, rfl⟩⟩
      | cons q qs => exact ⟨_, rfl, rfl, .inr ⟨false, rfl⟩⟩
theorem Take_ro {d : Nat} {H : PT HB} {n lo : Nat} {w : Option Nat} {x : DV} {zs : List Int} (hx : rowsOf H.get x = some (w, 1, zs.map rowI) ∨ (zs = [] ∧ ∃ s sz, rowsOf H.get x = some (s, sz, []))) (ho : x.out = true) (hl : zs.length ≤ 1000) :
    callM (K DG (d + 1)) .ro 95 [x] H n lo = some ⟨.tup [.imm (takeP zs).1, .imm (.bool (takeP zs).2)], H, n, [.rA]⟩ := by
  have e : K DG (d + 1) 95 [x] H n n = some (.tup [.imm (takeP zs).1, .imm (.bool (takeP zs).2)], H, n) := by
    rw [D.k95]
    show primTake [x] H n n = _
    unfold primTake
    rcases hx with hx | ⟨rfl, s, sz, hx⟩
    · simp only [hx, mapO_rowInt]
      rw [if_pos ⟨.inl trivial, by omega⟩]
    · simp only [hx, mapO]
      rw [if_pos ⟨.inr trivial, by simp⟩]
  rw [callM_ro, if_pos (by simp [DV.out.outs, ho]), e]
  rfl
def RdP (ts : List Th) (v : DV) : Prop := (readF ts = none ∧ v = .tup [.imm (.int .i64 0), .imm (.int .i64 0), .imm .nils, .imm (.bool false)]) ∨
  ∃ e c qs u, readF ts = some (e, c, qs) ∧ v = .tup [.imm (.int .i64 e), .imm (.int .i64 c), .imm u, .imm (.bool true)] ∧ Sl 4 u (qs.map ivRS)
theorem Read_fe {d : Nat} {H : PT HB} {n a : Nat} {ts : List Th} (hc : CrAt H 0 n a ts) (hl : ts.length ≤ 100) :
    Fe (K DG (d + 4) 56 [.ptr a 0 0] H n n) (fun v _ n' => n ≤ n' ∧ RdP ts v) := by
  rw [D.k56]
  refine fn_dw rfl ?_
  simp [B6, B7]
  refine loopRd (w := n) (H0 := H) (ts := ts) (Nat.le_refl _) hc hl ⟨by simp [PT.get_put], by simp [PT.get_put], ⟨.imm .nils, [], by simp [intsF], by simp [PT.get_put], .inl ⟨rfl, rfl⟩⟩, fun _ _ => rfl, by simp⟩ (fun s' hI => ?_) (fun s' h1 h2 h3 h4 h5 h6 => ?_)
  · obtain ⟨c0, c7, ⟨x, zs, hz, c6, hx⟩, fr, hn⟩ := hI
    have hz' : intsF (ts.drop 1) = some zs := by
      rw [List.take_of_length_le (by simp)] at hz
      exact hz
    have hzl := intsF_len hz'
    simp only [List.length_drop] at hzl
    have hc1 : CrAt s'.H 0 s'.n a ts := hc.mono hn fr
    obtain ⟨m1, e1, hm1⟩ := CrText_ro (d := d) hc1 0 n
    have xs := hx.scal
    have xl := hx.len
    simp only [List.length_map] at xl
    have er : ∀ r, readF ts = r → readF ts = r := fun _ h => h
    cases ts with
    | nil =>
      have eF : readF [] = none := rfl
      have e0 : atI [] 0 = .nili := rfl
      rw [e0] at e1
      simp only [textOf, Option.getD_none, Option.isSome_none] at e1
      simp [c0, c6, xs, xl, e1, B6, B7]
      exact ⟨by omega, .inl ⟨eF, rfl⟩⟩
    | cons t r =>
      have e0 : atI (t :: r) 0 = thI t := atI_get (ts := t :: r) (i := 0) (by simp)
      rw [e0] at e1
      simp only [List.drop_succ_cons, List.drop_zero] at hz'
      cases t with
      | int z =>
        have eF : readF (.int z :: r) = none := by unfold readF; simp only [List.drop_succ_cons, List.drop_zero, hz']
        simp only [thI, textOf, Option.getD_none, Option.isSome_none] at e1
        simp [c0, c6, xs, xl, e1, B6, B7]
        exact ⟨by omega, .inl ⟨eF, rfl⟩⟩
      | bool z =>
        have eF : readF (.bool z :: r) = none := by unfold readF; simp only [List.drop_succ_cons, List.drop_zero, hz']
        simp only [thI, textOf, Option.getD_none, Option.isSome_none] at e1
        simp [c0, c6, xs, xl, e1, B6, B7]
        exact ⟨by omega, .inl ⟨eF, rfl⟩⟩
      | text s =>
        simp only [thI, textOf, Option.getD_some, Option.isSome_some] at e1
        have eF : readF (.text s :: r) = if s = [115, 116, 97, 116, 101] ∧ 3 ≤ zs.length ∧ (zs.length - 3) % 4 = 0 then match tkF (zs.drop 3) with
            | some qs => if nth zs 2 = (qs.length : Int) then some (nth zs 0, nth zs 1, qs) else none
            | none => none
          else none := by unfold readF; simp only [List.drop_succ_cons, List.drop_zero, hz']
        by_cases hs : s = [115, 116, 97, 116, 101]
        · by_cases h3 : 3 ≤ zs.length
          · have i0 : ILt (zs.length : Int) 3 = False := ilt_f (by omega)
            rcases hx with ⟨_, h0⟩ | ⟨id, ⟨p1, p2⟩, rfl, p3⟩
            · have := congrArg List.length h0
              simp at this
              subst this
              simp at h3
            · simp only [List.length_map, rowI_imms] at p3 c6 xs xl
              have hdl : (zs.drop 3).length ≤ 1000 := by rw [List.length_drop]; omega
              have tp := takeP_of (zs := zs.drop 3)
              simp only [List.length_drop] at tp
              have g0 : (zs.map rowI)[0]? = some (rowI (nth zs 0)) := by rw [List.getElem?_map, nth_get (by omega)]; rfl
              have g1 : (zs.map rowI)[1]? = some (rowI (nth zs 1)) := by rw [List.getElem?_map, nth_get (by omega)]; rfl
              have g2 : (zs.map rowI)[2]? = some (rowI (nth zs 2)) := by rw [List.getElem?_map, nth_get (by omega)]; rfl
              have ix := fun {n : Nat} {k : Nat} (hk : k < zs.length) => idx_hp (h := s'.H.get) (n := n) (id := id) (row := 0) (len := zs.length) (cap := zs.length) p3 rfl (k := .i64) (z := (k : Int)) (by omega) (by omega)
              have i1 := fun {n : Nat} => ix (n := n) (k := 0) (by omega)
              have i2 := fun {n : Nat} => ix (n := n) (k := 1) (by omega)
              have i3 := fun {n : Nat} => ix (n := n) (k := 2) (by omega)
              simp at i1 i2 i3
              obtain ⟨y, acc, hsl, ys, tk⟩ : ∃ y acc, (∀ n, sliceOf s'.H.get n 1 (.sl id 0 zs.length zs.length) (some (.imm (.int .i64 3))) none none = some { v := y, n' := n, acc := acc }) ∧ y.scal = true ∧ ∀ {n lo : Nat}, callM (K DG (d + 3)) .ro 95 [y] s'.H n lo = some ⟨.tup [.imm (takeP (zs.drop 3)).1, .imm (.bool (takeP (zs.drop 3)).2)], s'.H, n, [.rA]⟩ := by
                have e6 : asNat (.imm (.int .i64 3)) = some 3 := by simp [asNat]
                by_cases h4 : 3 < zs.length
                · refine ⟨.sl id 3 (zs.length - 3) (zs.length - 3), [.rX id], fun n => ?_, rfl, fun {n lo} => Take_ro (d := d + 2) (w := some id) (.inl ?_) rfl hdl⟩
                  · simp only [sliceOf, natOr, e6, p3, if_true]
                    rw [if_pos ⟨h3, Nat.le_refl _, Nat.le_refl _⟩, if_neg (by omega), if_pos h4]
                  · simp only [rowsOf, p3]
                    have : 3 + (zs.length - 3) ≤ (zs.map rowI).length := by simp; omega
                    rw [if_pos this]
                    congr 3
                    rw [List.take_of_length_le (by simp), List.map_drop]
                · have hz0 : zs.drop 3 = [] := List.drop_eq_nil_of_le (by omega)
                  refine ⟨.imm (.lst false 1 []), [], fun n => ?_, rfl, fun {n lo} => Take_ro (d := d + 2) (w := none) (.inr ⟨hz0, none, 1, rfl⟩) rfl hdl⟩
                  simp only [sliceOf, natOr, e6, p3, if_true]
                  rw [if_pos ⟨h3, Nat.le_refl _, Nat.le_refl _⟩, if_neg (by omega), if_neg h4]
              rcases tp with ⟨t1, t2⟩ | ⟨t1, ⟨t2, t3⟩ | ⟨qs, v, t2, t3, t4⟩⟩
              · rw [if_neg (fun h => t1 h.2.2)] at eF
                rw [t2] at tk
                simp only at tk
                generalize zs.map rowI = rows at *
                simp [c0, c6, xs, xl, e1, hs, i0, hsl, ys, tk, B6, B7]
                exact ⟨by omega, .inl ⟨hs ▸ eF, rfl⟩⟩
              · rw [if_pos ⟨hs, h3, t1⟩, t2] at eF
                rw [t3] at tk
                simp only at tk
                generalize zs.map rowI = rows at *
                simp [c0, c6, xs, xl, e1, hs, i0, hsl, ys, tk, B6, B7]
                exact ⟨by omega, .inl ⟨hs ▸ eF, rfl⟩⟩
              · rw [if_pos ⟨hs, h3, t1⟩, t2] at eF
                rw [t3] at tk
                simp only at tk eF
                have vs := t4.scal
                have vl := t4.len
                simp only [List.length_map] at vl
                generalize zs.map rowI = rows at *
                by_cases hq : nth zs 2 = (qs.length : Int)
                · rw [if_pos hq] at eF
                  simp [c0, c6, xs, xl, e1, hs, i0, hsl, ys, tk, vs, vl, i1, i2, i3, p3, g0, g1, g2, rowI, hq, B6, B7]
                  exact ⟨by omega, .inr ⟨_, _, qs, v, hs ▸ eF, rfl, t4⟩⟩
                · rw [if_neg hq] at eF
                  simp [c0, c6, xs, xl, e1, hs, i0, hsl, ys, tk, vs, vl, i1, i2, i3, p3, g0, g1, g2, rowI, hq, B6, B7]
                  exact ⟨by omega, .inl ⟨hs ▸ eF, rfl⟩⟩
          · have i0 : ILt (zs.length : Int) 3 = True := ilt_t (by omega)
            rw [if_neg (fun h => h3 h.2.1)] at eF
            simp [c0, c6, xs, xl, e1, hs, i0, B6, B7]
            exact ⟨by omega, .inl ⟨hs ▸ eF, rfl⟩⟩
        · rw [if_neg (fun h => hs h.1)] at eF
          simp [c0, c6, xs, xl, e1, hs, B6, B7]
          exact ⟨by omega, .inl ⟨eF, rfl⟩⟩
  · have eF : readF ts = none := by unfold readF; rw [h1]
    simp [h2, h3, h4, h5, B6, B7]
    exact ⟨h6, .inl ⟨eF, rfl⟩⟩
theorem Read_ro {d : Nat} {H : PT HB} {n a lo : Nat} {ts : List Th} (hc : CrAt H 0 n a ts) (hl : ts.length ≤ 100) :
    ∃ v m, callM (K DG (d + 4)) .ro 56 [.ptr a 0 0] H n lo = some ⟨v, H, m, [.rA]⟩ ∧ n ≤ m ∧ RdP ts v := by
  obtain ⟨v, H', n', e, hn, hv⟩ := Read_fe (d := d) hc hl
  refine ⟨v, n', ?_, hn, hv⟩
  rw [callM_ro, if_pos (by rfl), e]
  rcases hv with ⟨_, rfl⟩ | ⟨_, _, _, _, _, rfl, _⟩ <;> rfl
end Go.Proofs.YtnpcgejfkonfdabGreatDoor.D

-- RA
set_option linter.unusedVariables false
set_option linter.unusedSimpArgs false
set_option maxHeartbeats 16000000
namespace Go.Proofs.YtnpcgejfkonfdabGreatDoor.D
open Go Go.PM Go.Lib

theorem bool9_bl {d : Nat} (b : Bool) : bl (K DG (d + 1)) 154 [.imm (.bool b)] = some (.imm (.int .i64 (bi b))) := by
  refine bl_fe ?_
  rw [D.k154]
  refine fn_dw rfl ?_
  cases b <;> simp [bi, B6, B7]
structure IO9 (v : IV) (rs : List Rst) (i : Nat) (st : St) : Prop where
  c0 : st.T.get 0 = some (.imm v)
  c4 : st.T.get 4 = some (.imm (.int .i64 (i : Int)))
  c3 : ∃ x, st.T.get 3 = some x ∧ Rw 1 st.H 0 st.n x ((ofF (rs.take i)).map ivI)
theorem loopO9 {d : Nat} {v : IV} {rs : List Rst} (hv : Sl 4 v (rs.map ivRS)) (hl : rs.length ≤ 1000) {st : St} (h : IO9 v rs 0 st) {ks : List Kf} {Q : Ex → St → Prop}
    (hk : ∀ s', IO9 v rs rs.length s' → Bk DG (K DG (d + 1)) 0 (.exit 0) ks s' Q) : Wp DG (K DG (d + 1)) 0 D.l115_0 ks st Q := by
  refine dw_loop (N := rs.length) (small (by have := rb3; omega)) (fun i st => IO9 v rs i st) (fun e s' => e = .exit 0 ∧ IO9 v rs rs.length s') (fun i st hle hI => ?_) h (fun e s' h => by
    obtain ⟨rfl, h⟩ := h
    exact hk s' h)
  obtain ⟨c0, c4, x, c3, hx⟩ := hI
  have vs := hv.scal
  have xs := hx.scal
  have vl := hv.len
  simp only [List.length_map] at vl
  by_cases hi : i < rs.length
  · have hi1 : (i : Int) < rs.length := by omega
    have hi' := ilt_t hi1
    have hw8 : IntKind.i64.wrap ((i : Int) + 1) = (i : Int) + 1 := wr_succ hi (by have := rb3; omega)
    have ix := fun {h : Nat → Option HB} {n : Nat} => idx_sl (h := h) (n := n) hv (by omega) (k := .i64) (z := (i : Int)) (by omega) hi1
    simp only [Int.toNat_natCast] at ix
    have sc := ofF_succ hi
    have fb := bool9_bl (d := d) (nth rs i).seen
    have ol := ofF_len (rs.take i)
    obtain ⟨x', hw, acc, a1, a2, a3⟩ := app_rw (bytes := 8) (lo := 0) (w := 0) (n := st.n) (H := st.H) (Nat.le_refl _) (by omega) hx (by omega) (by simp at ol ⊢; omega) (by omega) (es := [[.int .i64 (nth rs i).mode], [.int .i64 (nth rs i).timer], [.int .i64 (nth rs i).gone], [.int .i64 (bi (nth rs i).seen)]]) (by simp) (by simp)
    have a2s := a2.scal
    have fin : Rw 1 (putH st.H hw) 0 (st.n + 1) x' ((ofF (rs.take (i + 1))).map ivI) := by
      rw [sc, List.map_append]
      exact a2
    generalize nth rs i = y at *
    obtain ⟨ym, yt, yg, ys⟩ := y
    generalize hQ : (fun (e : Ex) (s' : St) => _) = Q'
    simp only [D.l115_0b]
    simp [c0, c4, c3, vs, vl, xs, hi', hw8, ix, fb, a1, a2s, ivRS, evParts2, lay, unImms, unImm, mapO, rowsN, imms, B6, B7]
    subst hQ
    exact .inl ⟨rfl, hi, by simp [PT.get_put], by simp [PT.get_put], x', by simp [PT.get_put], fin⟩
  · obtain rfl : i = rs.length := by omega
    generalize hQ : (fun (e : Ex) (s' : St) => _) = Q'
    simp only [D.l115_0b]
    simp [c0, c4, c3, vs, vl, xs, B6, B7]
    subst hQ
    exact .inr ⟨nofun, rfl, by simp [PT.get_put, c0], by simp [PT.get_put, c4], x, by simp [PT.get_put, c3], hx⟩
theorem Of9_bl {d : Nat} {v : IV} {rs : List Rst} (hv : Sl 4 v (rs.map ivRS)) (hl : rs.length ≤ 1000) : ∃ w, bl (K DG (d + 2)) 115 [.imm v] = some (.imm w) ∧ Sl 1 w ((ofF rs).map ivI) := by
  have key : Fe (K DG (d + 1 + 1) 115 [.imm v] .lf 0 0) (fun x H n => Rw 1 H 0 n x ((ofF rs).map ivI)) := by
    rw [D.k115]
    refine fn_dw rfl ?_
    have vs := hv.scal
    simp [vs, B6, B7]
    refine loopO9 hv hl ⟨by simp [PT.get_put], by simp [PT.get_put], .imm .nils, by simp [PT.get_put], .inl ⟨rfl, by simp [ofF]⟩⟩ (fun s' hI => ?_)
    obtain ⟨c0, c4, x, c3, hx⟩ := hI
    rw [List.take_length] at hx
    have xs := hx.scal
    have xo := hx.out
    simp [c0, c4, c3, xs, xo, B6, B7]
    exact hx
  obtain ⟨x, H, n, e, hx⟩ := key
  obtain ⟨w, h1, h2⟩ := frz_rw hx
  exact ⟨w, bl_of e h1, h2⟩
/-! ### the crate of pointsmanref2 -/
def rowTh : Th → List IV
  | .int z => [.int .i64 1, .int .i64 z, .str [], .bool false]
  | .text s => [.int .i64 2, .int .i64 0, .str s, .bool false]
  | .bool b => [.int .i64 3, .int .i64 0, .str [], .bool b]
def CrR (H : PT HB) (a : Nat) (ob : Option Nat) (ts : List Th) : Prop := (H.get a = some ⟨1, [[.imm .nils]]⟩ ∧ ts = [] ∧ ob = none) ∨ (H.get a = some ⟨1, [[.imm (.lst true 4 (ts.map rowTh))]]⟩ ∧ ob = none) ∨
  ∃ b, ob = some b ∧ b ≠ a ∧ H.get a = some ⟨1, [[.sl b 0 ts.length ts.length]]⟩ ∧ H.get b = some ⟨4, (ts.map rowTh).map imms⟩
theorem rowTh_sc (t : Th) : ∃ a b c e, rowTh t = [a, b, c, e] ∧ (DV.imm a).scal = true ∧ (DV.imm b).scal = true ∧ (DV.imm c).scal = true ∧ (DV.imm e).scal = true := by
  cases t <;> exact ⟨_, _, _, _, rfl, rfl, rfl, rfl, rfl⟩
theorem AddR {d : Nat} {H : PT HB} {n a lo : Nat} {ob : Option Nat} {ts : List Th} (hla : lo ≤ a) (ha : a < n) (hob : ∀ b, ob = some b → b < n ∧ lo ≤ b) (h : CrR H a ob ts) (hlt : ts.length ≤ 100) (t : Th) :
    Fe (K DG (d + 1) 50 [.ptr a 0 0, .agg (imms (rowTh t))] H n lo) (fun v H' n' => v = .imm (.bool (decide (ts.length < 100))) ∧ n ≤ n' ∧ (ts.length < 100 → ∃ b, n ≤ b ∧ b < n' ∧ CrR H' a (some b) (ts ++ [t])) ∧ ∀ j, j < n → j ≠ a → ob ≠ some j → H'.get j = H.get j) := by
  obtain ⟨r1, r2, r3, r4, hr, s1, s2, s3, s4⟩ := rowTh_sc t
  rw [D.k50]
  refine fn_dw rfl ?_
  rw [hr]
  by_cases h100 : ts.length < 100
  · have i0 : ILt (ts.length : Int) 100 = True := ilt_t (by omega)
    have i1 : ILt 0 100 = True := ilt_t (by omega)
    have a2 : 40 ≤ appMax := by unfold appMax; omega
    have a0 : 1 ≤ appMax := by unfold appMax; omega
    have b2 : ts.length + 1 ≤ appMax := by unfold appMax; omega
    have b3 : (ts.length + 1) * 40 ≤ appMax := by unfold appMax; omega
    have e1 : ¬ a = n + 1 := by omega
    have e2 : ¬ n + 1 = a := by omega
    have l3 : lo ≤ n + 1 := by omega
    have hmap : ((ts ++ [t]).map rowTh).map imms = (ts.map rowTh).map imms ++ [[.imm r1, .imm r2, .imm r3, .imm r4]] := by
      simp [hr, imms]
    rcases h with ⟨h1, rfl, rfl⟩ | ⟨h1, rfl⟩ | ⟨b, rfl, hba, h1, h2⟩
    · simp (config := {contextual := true}) [CrR, h1, e1, e2, ha, hla, l3, i1, s1, s2, s3, s4, imms, evParts2, lay, unImms, unImm, mapO, rowsN, appOf, srcOf, rowsOf, raccOf, a0, a2, hr, B6, B7]
      refine ⟨by omega, ⟨n + 1, by omega, by omega, by simp [e2]⟩, fun j hj h4 => ?_⟩
      have h3 : ¬ j = n + 1 := by omega
      simp [h3, h4]
    · have hml : (ts.map rowTh).length = ts.length := by simp
      generalize hes : ts.map rowTh = es at *
      simp (config := {contextual := true}) [CrR, h1, hml, e1, e2, ha, hla, l3, h100, i0, s1, s2, s3, s4, imms, evParts2, lay, unImms, unImm, mapO, rowsN, appOf, srcOf, rowsOf, raccOf, b2, b3, hr, B6, B7]
      refine ⟨by omega, ⟨n + 1, by omega, by omega, by simp [e2]; rw [← hes]; simp [imms]⟩, fun j hj h4 => ?_⟩
      have h3 : ¬ j = n + 1 := by omega
      simp [h3, h4]
    · obtain ⟨hb, l2⟩ := hob b rfl
      have hab : ¬ a = b := fun e => hba e.symm
      have a1 : ¬ ts.length + 1 ≤ ts.length := by omega
      have e3 : ¬ b = n + 1 := by omega
      have e4 : ¬ n + 1 = b := by omega
      have hml : ((ts.map rowTh).map imms).length = ts.length := by simp
      generalize hes : (ts.map rowTh).map imms = es at *
      simp (config := {contextual := true}) [CrR, h1, h2, hml, hba, hab, e1, e2, e3, e4, ha, hla, l2, l3, h100, i0, s1, s2, s3, s4, imms, evParts2, lay, unImms, unImm, mapO, rowsN, appOf, srcOf, rowsOf, raccOf, a1, b2, b3, hr, B6, B7]
      refine ⟨by omega, ⟨n + 1, by omega, by omega, by simp [e2]; rw [← hes]; simp [imms]⟩, fun j hj h4 h5 => ?_⟩
      have h3 : ¬ j = n + 1 := by omega
      have h6 : ¬ j = b := fun e => h5 e.symm
      simp [h3, h4, h6]
  · have i0 : ILt (ts.length : Int) 100 = False := ilt_f (by omega)
    rcases h with ⟨h1, rfl, rfl⟩ | ⟨h1, rfl⟩ | ⟨b, rfl, hba, h1, h2⟩
    · simp at h100
    · have hml : (ts.map rowTh).length = ts.length := by simp
      generalize hes : ts.map rowTh = es at *
      simp (config := {contextual := true}) [h1, hml, ha, h100, i0, s1, s2, s3, s4, imms, B6, B7]
    · simp (config := {contextual := true}) [h1, ha, h100, i0, s1, s2, s3, s4, imms, B6, B7]
end Go.Proofs.YtnpcgejfkonfdabGreatDoor.D

-- RB
set_option linter.unusedVariables false
set_option linter.unusedSimpArgs false
set_option maxHeartbeats 16000000
namespace Go.Proofs.YtnpcgejfkonfdabGreatDoor.D
open Go Go.PM Go.Lib

structure ILr (lo a : Nat) (x : DV) (zs : List Int) (i : Nat) (st : St) : Prop where
  c7 : st.T.get 7 = some x
  c8 : st.T.get 8 = some (.ptr a 0 0)
  c9 : st.T.get 9 = some (.imm (.int .i64 (i : Int)))
  cr : ∃ ob, (∀ b, ob = some b → b < st.n ∧ lo ≤ b) ∧ CrR st.H a ob (.text [115, 116, 97, 116, 101] :: (zs.take i).map .int) ∧ ∀ b, ob = some b → x ≠ .sl b 0 zs.length zs.length
  xa : x = .imm (.lst true 1 (zs.map ivI)) ∨ ∃ id, (id < st.n ∧ id ≠ a) ∧ x = .sl id 0 zs.length zs.length ∧ st.H.get id = some ⟨1, zs.map rowI⟩
  an : lo ≤ a ∧ a < st.n
theorem loopLr {d : Nat} {lo a : Nat} {x : DV} {zs : List Int} (hl : zs.length ≤ 99) {st : St} (h : ILr lo a x zs 0 st) {ks : List Kf} {Q : Ex → St → Prop}
    (hk : ∀ s', ILr lo a x zs zs.length s' → Bk DG (K DG (d + 1)) lo (.exit 0) ks s' Q) : Wp DG (K DG (d + 1)) lo D.l75_0 ks st Q := by
  refine dw_loop (N := zs.length) (small (by have := rb3; omega)) (fun i st => ILr lo a x zs i st) (fun e s' => e = .exit 0 ∧ ILr lo a x zs zs.length s') (fun i st hle hI => ?_) h (fun e s' h => by
    obtain ⟨rfl, h⟩ := h
    exact hk s' h)
  obtain ⟨c7, c8, c9, ⟨ob, hob, cr, hxb⟩, xa, ⟨anl, an⟩⟩ := hI
  have xs : x.scal = true := by rcases xa with rfl | ⟨id, _, rfl, _⟩ <;> rfl
  have xl : lenOf x = some zs.length := by rcases xa with rfl | ⟨id, _, rfl, _⟩ <;> simp [lenOf]
  by_cases hi : i < zs.length
  · have hi1 : (i : Int) < zs.length := by omega
    have hi' := ilt_t hi1
    have hw8 : IntKind.i64.wrap ((i : Int) + 1) = (i : Int) + 1 := wr_succ hi (by have := rb3; omega)
    have hL : (Th.text [115, 116, 97, 116, 101] :: (zs.take i).map Th.int).length < 100 := by simp; omega
    have hmt : (zs.take (i + 1)).map Th.int = (zs.take i).map Th.int ++ [.int zs[i]] := by
      rw [List.take_add_one, List.getElem?_eq_getElem hi, List.map_append]
      rfl
    obtain ⟨v, H', n', e, rfl, hn, hcr, p4⟩ := AddR (d := d) (lo := lo) anl an hob cr (by omega) (.int zs[i])
    obtain ⟨b', p1, p2, p3⟩ := hcr hL
    rw [decide_eq_true hL] at e
    have cr2 : CrR H' a (some b') (.text [115, 116, 97, 116, 101] :: (zs.take (i + 1)).map .int) := by
      rw [hmt]
      exact p3
    simp only [rowTh, imms, List.map_cons, List.map_nil] at e
    rcases xa with rfl | ⟨id, ⟨i2, i3⟩, rfl, hx⟩
    · have ix := fun {h : Nat → Option HB} {n : Nat} => idx_sl (h := h) (n := n) (v := .lst true 1 (zs.map ivI)) (xs := zs) (f := ivI) (.inr ⟨true, rfl⟩) (by omega) (k := .i64) (z := (i : Int)) (by omega) hi1
      simp only [Int.toNat_natCast, nth, List.getD_eq_getElem?_getD, List.getElem?_eq_getElem hi, Option.getD_some] at ix
      generalize hes : zs.map ivI = es at *
      have hel : es.length = zs.length := by rw [← hes]; simp
      generalize zs[i] = z at *
      generalize hQ : (fun (e : Ex) (s' : St) => _) = Q'
      simp only [D.l75_0b]
      simp [c7, c8, c9, hel, hi', hw8, ix, e, ivI, imms, evParts, lay, unImms, unImm, mapO, B6, B7]
      subst hQ
      exact .inl ⟨rfl, hi, by simp [PT.get_put], by simp [PT.get_put], by simp [PT.get_put], ⟨some b', fun b hb => by cases hb; exact ⟨p2, by omega⟩, cr2, fun b _ e => by cases e⟩, .inl (by rw [hes]), by simp; omega⟩
    · have hidb : ob ≠ some id := fun e => hxb id e rfl
      have ix := fun {n : Nat} => idx_hp (h := st.H.get) (n := n) (id := id) (row := 0) (len := zs.length) (cap := zs.length) hx rfl (k := .i64) (z := (i : Int)) (by omega) hi1
      simp only [Int.toNat_natCast, Nat.zero_add] at ix
      have hrow : (zs.map rowI)[i]? = some (rowI (zs[i])) := by rw [List.getElem?_map, List.getElem?_eq_getElem hi]; rfl
      have hx2 : H'.get id = some ⟨1, zs.map rowI⟩ := by rw [p4 id i2 i3 hidb]; exact hx
      generalize hrows : zs.map rowI = rows at *
      generalize zs[i] = z at *
      generalize hQ : (fun (e : Ex) (s' : St) => _) = Q'
      simp only [D.l75_0b]
      simp [c7, c8, c9, hi', hw8, ix, hx, hrow, e, rowI, evParts, lay, unImms, unImm, mapO, B6, B7]
      subst hQ
      exact .inl ⟨rfl, hi, by simp [PT.get_put], by simp [PT.get_put], by simp [PT.get_put], ⟨some b', fun b hb => by cases hb; exact ⟨p2, by omega⟩, cr2, fun b hb e => by cases hb; cases e; omega⟩, .inr ⟨id, by simp; omega, rfl, by simpa [hrows] using hx2⟩, by simp; omega⟩
  · obtain rfl : i = zs.length := by omega
    generalize hQ : (fun (e : Ex) (s' : St) => _) = Q'
    simp only [D.l75_0b]
    simp [c7, c8, c9, xs, xl, B6, B7]
    subst hQ
    exact .inr ⟨nofun, rfl, by simp [PT.get_put, c7], by simp [PT.get_put, c8], by simp [PT.get_put, c9], ⟨ob, hob, cr, hxb⟩, xa, anl, an⟩
/-! ### pointsmanref8 -/
theorem numY_get (m : Nat) : ∀ (k j : Nat), j < k → (numY m k)[j]? = some (UInt8.ofNat (m / 256 ^ (k - 1 - j)))
  | 0, j, h => by omega
  | k + 1, 0, h => by simp [numY]
  | k + 1, j + 1, h => by
    have := numY_get m k j (by omega)
    rw [numY, List.getElem?_cons_succ, this, show k + 1 - 1 - (j + 1) = k - 1 - j by omega]
theorem num_byteB (m c : Nat) : IntKind.u8.wrap ((m : Int).fdiv (2 ^ (8 * c))) = ((UInt8.ofNat (m / 256 ^ c)).toNat : Int) := by
  have e : ((2 : Int) ^ (8 * c)) = ((256 ^ c : Nat) : Int) := by
    rw [Int.natCast_pow, Int.pow_mul]; rfl
  rw [e, Int.fdiv_eq_ediv_of_nonneg _ (Int.natCast_nonneg _), ← Int.natCast_ediv, UInt8.toNat_ofNat']
  generalize m / 256 ^ c = y
  simp only [IntKind.wrap, IntKind.bits, IntKind.signed]
  simp
structure IBg (H0 : PT HB) (w : Nat) (m k j : Nat) (st : St) : Prop where
  c0 : st.T.get 0 = some (.imm (.int .u64 (m : Int)))
  c6 : st.T.get 6 = some (.imm (.int .i64 ((k : Int) - 1 - (j : Int))))
  y : ∃ x, st.T.get 5 = some x ∧ Rw 1 st.H w st.n x (((numY m k).take j).map ivY)
  fr : ∀ i, i < w → st.H.get i = H0.get i
  hn : w ≤ st.n
theorem loopBg {d : Nat} {H0 : PT HB} {w lo m k : Nat} (hlo : lo ≤ w) (hk8 : k ≤ 8) (hm : m < 2 ^ 64) {st : St} (h : IBg H0 w m k 0 st) {ks : List Kf} {Q : Ex → St → Prop}
    (hk : ∀ s', IBg H0 w m k k s' → Bk DG (K DG d) lo (.exit 0) ks s' Q) : Wp DG (K DG d) lo D.l117_0 ks st Q := by
  refine dw_loop (N := k) (small (by have := rb3; omega)) (fun i st => IBg H0 w m k i st) (fun e s' => e = .exit 0 ∧ IBg H0 w m k k s') (fun i st hle hI => ?_) h (fun e s' h => by
    obtain ⟨rfl, h⟩ := h
    exact hk s' h)
  obtain ⟨c0, c6, ⟨x, c5, hx⟩, fr, hn⟩ := hI
  have xs := hx.scal
  by_cases hi : i < k
  · obtain ⟨c, hc⟩ : ∃ c : Nat, c = k - 1 - i := ⟨_, rfl⟩
    have hci : (k : Int) - 1 - (i : Int) = (c : Int) := by omega
    have hci2 : (k : Int) - 1 - ((i + 1 : Nat) : Int) = (c : Int) - 1 := by omega
    rw [hci] at c6
    have hi' : ILt (c : Int) 0 = False := ilt_f (by omega)
    have w1 : IntKind.i64.wrap ((c : Int) - 1) = (c : Int) - 1 := wr_id (by omega) (by omega)
    have w2 : IntKind.i64.wrap (8 * (c : Int)) = ((8 * c : Nat) : Int) := by rw [wr_id (by omega) (by omega)]; omega
    have w3 : IntKind.u64.wrap ((8 * c : Nat) : Int) = ((8 * c : Nat) : Int) := wu64' (by omega)
    have b64 : IntKind.u64.bits = 64 := rfl
    have nb := num_byteB m c
    have gt := numY_get m k i hi
    rw [← hc] at gt
    obtain ⟨x', hw, acc, a1, a2, a3⟩ := app_rw (bytes := 1) (lo := lo) (w := w) (n := st.n) (H := st.H) hlo hn hx (by omega) (by simp; omega) (by omega) (es := [ivY (UInt8.ofNat (m / 256 ^ c))]) (by simp) (by simp)
    have a2s := a2.scal
    have fin : Rw 1 (putH st.H hw) w (st.n + 1) x' (((numY m k).take (i + 1)).map ivY) := by
      rw [List.take_add_one, gt, List.map_append]
      exact a2
    simp only [ivY] at a1
    generalize hub : UInt8.ofNat (m / 256 ^ c) = ub at *
    have g0 : ¬ ((8 * c : Nat) : Int) < 0 := by omega
    have g1 : min ((8 * c : Nat) : Int).toNat 64 = 8 * c := by omega
    generalize ((8 * c : Nat) : Int) = c8 at *
    generalize hQ : (fun (e : Ex) (s' : St) => _) = Q'
    simp only [D.l117_0b]
    simp [c0, c5, c6, xs, hi', w1, w2, w3, b64, g0, g1, nb, a1, a2s, evParts2, lay, unImms, unImm, mapO, rowsN, B6, B7]
    subst hQ
    exact .inl ⟨rfl, hi, by simp [PT.get_put], by simp [PT.get_put]; omega, ⟨x', by simp [PT.get_put], fin⟩, fun j hj => (a3 j hj).trans (fr j hj), by simp; omega⟩
  · obtain rfl : i = k := by omega
    have hi' : ILt ((i : Int) - 1 - (i : Int)) 0 = True := ilt_t (by omega)
    generalize hz : (i : Int) - 1 - (i : Int) = z at c6 hi'
    generalize hQ : (fun (e : Ex) (s' : St) => _) = Q'
    simp only [D.l117_0b]
    simp [c0, c5, c6, xs, hi', B6, B7]
    subst hQ
    exact .inr ⟨nofun, rfl, by simp [PT.get_put, c0], by rw [hz]; simp [PT.get_put, c6], ⟨x, by simp [PT.get_put, c5], hx⟩, fr, hn⟩
end Go.Proofs.YtnpcgejfkonfdabGreatDoor.D

-- RC
set_option linter.unusedVariables false
set_option linter.unusedSimpArgs false
set_option maxHeartbeats 16000000
namespace Go.Proofs.YtnpcgejfkonfdabGreatDoor.D
open Go Go.PM Go.Lib

theorem Rw.yw {H : PT HB} {w n : Nat} {x : DV} {bs : List UInt8} (h : Rw 1 H w n x (bs.map ivY)) : Yw H w n x bs := by
  rcases h with ⟨rfl, h⟩ | ⟨id, h1, rfl, h2⟩
  · exact .inl ⟨rfl, by simpa using h⟩
  · exact .inr (.inr ⟨id, h1, by simp, by rw [h2, map_imms_ivY]⟩)
theorem big_fn {d : Nat} {H : PT HB} {n lo w m k : Nat} (hlo : lo ≤ w) (hwn : w ≤ n) (hk1 : 1 ≤ k) (hk8 : k ≤ 8) (hm : m < 2 ^ 64) :
    ∃ x H' n', K DG (d + 1) 117 [.imm (.int .u64 (m : Int)), .imm (.int .i64 (k : Int))] H n lo = some (x, H', n') ∧ n ≤ n' ∧ Yw H' w n' x (numY m k) ∧ (∃ id, n ≤ id ∧ x = .sl id 0 k k) ∧ (∀ j, j < n → H'.get j = H.get j) := by
  have w1 : IntKind.i64.wrap ((k : Int) - 1) = (k : Int) - 1 := wr_id (by omega) (by omega)
  have key : Fe (K DG (d + 1) 117 [.imm (.int .u64 (m : Int)), .imm (.int .i64 (k : Int))] H n lo) (fun x H' n' => n ≤ n' ∧ Rw 1 H' n n' x ((numY m k).map ivY) ∧ ∀ j, j < n → H'.get j = H.get j) := by
    rw [D.k117]
    refine fn_dw rfl ?_
    simp [w1, B6, B7]
    refine loopBg (w := n) (H0 := H) (m := m) (k := k) (by omega) hk8 hm ⟨by simp [PT.get_put], by simp [PT.get_put], ⟨.imm .nils, by simp [PT.get_put], .inl ⟨rfl, by simp⟩⟩, fun _ _ => rfl, by simp⟩ (fun s' hI => ?_)
    obtain ⟨c0, c6, ⟨x, c5, hx⟩, fr, hn⟩ := hI
    rw [List.take_of_length_le (by rw [numY_len]; exact Nat.le_refl _)] at hx
    have xs := hx.scal
    have xo := hx.out
    simp [c0, c5, c6, xs, xo, B6, B7]
    exact ⟨hn, hx, fr⟩
  obtain ⟨x, H', n', e, hn, hx, fr⟩ := key
  refine ⟨x, H', n', e, hn, ?_, ?_, fr⟩
  · rcases hx.yw with h | h | ⟨id, ⟨h1, h2⟩, h3⟩
    · exact .inl h
    · exact .inr (.inl h)
    · exact .inr (.inr ⟨id, ⟨by omega, h2⟩, h3⟩)
  · rcases hx with ⟨_, h⟩ | ⟨id, h1, rfl, h2⟩
    · have := congrArg List.length h
      simp [numY_len] at this
      omega
    · exact ⟨id, h1.1, by simp [numY_len]⟩
theorem thing8_bl {d : Nat} (t : Th) (hts : ∀ s, t = .text s → s.length ≤ 9000) : ∃ w, bl (K DG (d + 2)) 116 [.agg (imms (rowTh t))] = some (.imm w) ∧ Sl 1 w ((thB t).map ivY) := by
  have key : Fe (K DG (d + 1 + 1) 116 [.agg (imms (rowTh t))] .lf 0 0) (fun x H n => Yw H 0 n x (thB t)) := by
    rw [D.k116]
    refine fn_dw rfl ?_
    cases t with
    | int z =>
      obtain ⟨m, hm, wz, mz⟩ := wz64 z
      obtain ⟨y, H2, n2, e2, hn2, hy, ⟨id, hid, rfl⟩, f2⟩ := big_fn (d := d) (H := .lf) (n := 1) (lo := 0) (w := 0) (m := m) (k := 8) (Nat.le_refl _) (by omega) (by omega) (by omega) hm
      have e2' : K DG (d + 1) 117 [.imm (.int .u64 (m : Int)), .imm (.int .i64 8)] .lf 1 0 = some (.sl id 0 8 8, H2, n2) := e2
      have hrow : H2.get id = some ⟨1, (numY m 8).map rowY⟩ := by
        rcases hy with ⟨h, _⟩ | h | ⟨id', _, h, h2⟩
        · cases h
        · cases h
        · rw [numY_len] at h
          cases h
          exact h2
      have src := rows_y (id := id) hrow
      rw [numY_len] at src
      obtain ⟨x1, hw, n1, acc, p1, p2, p3, p4, p5, p6, p7⟩ := app_y (H := H2) (n := n2) (lo := 0) (w := 0) (x := .imm (.lst true 1 [[.int .u8 1]])) (bs := [1]) (y := .sl id 0 8 8) (cs := numY m 8) (Nat.le_refl _) (by omega) (.inr (.inl rfl)) src (fun _ _ _ e => by cases e) (by simp [numY_len])
      have xo := p3.out
      have xs := p3.sc
      simp [rowTh, imms, wz, e2', p1, xs, xo, evParts2, lay, unImms, unImm, mapO, rowsN, B6, B7]
      have e9 : thB (.int z) = 1 :: numY m 8 := by
        show 1 :: numY (z % 2 ^ 64).toNat 8 = _
        rw [mz]
      rw [e9]
      simpa using p3
    | text s =>
      have hsl := hts s rfl
      have w8 : IntKind.u8.wrap (s.length : Int) = ((UInt8.ofNat s.length).toNat : Int) := by
        rw [UInt8.toNat_ofNat']
        simp only [IntKind.wrap, IntKind.bits, IntKind.signed]
        simp
      generalize hk : UInt8.ofNat s.length = k at w8
      have e9 : thB (.text s) = 2 :: k :: s := by
        rw [← hk]
        rfl
      have hrb : s.map rowOfByte = s.map ivY := rfl
      obtain ⟨x1, hw, n1, acc, p1, p2, p3, p4, p5, p6, p7⟩ := app_y (H := .lf) (n := 1) (lo := 0) (w := 0) (x := .imm (.lst true 1 [[.int .u8 2], [.int .u8 (k.toNat : Int)]])) (bs := [2, k]) (y := .imm (.lst false 1 (s.map ivY))) (cs := s) (Nat.le_refl _) (by omega) (.inr (.inl rfl)) (src := none) (by simp [srcOf, rowsOf, Function.comp_def, imms_ivY]) (fun _ _ _ e => by cases e) (by simp; omega)
      have xo := p3.out
      have xs := p3.sc
      rw [e9]
      simp [rowTh, imms, w8, hrb, p1, xs, xo, evParts2, lay, unImms, unImm, mapO, rowsN, B6, B7]
      simpa using p3
    | bool b =>
      cases b with
      | true =>
        simp [rowTh, imms, evParts2, lay, unImms, unImm, mapO, rowsN, B6, B7]
        exact .inr (.inl rfl)
      | false =>
        simp [rowTh, imms, evParts2, lay, unImms, unImm, mapO, rowsN, B6, B7]
        exact .inr (.inl rfl)
  obtain ⟨x, H, n, e, hx⟩ := key
  have hne : thB t ≠ [] := by cases t <;> simp [thB]
  obtain ⟨g, hg⟩ := frz_y hx hne
  exact ⟨_, bl_of e hg, .inr ⟨g, rfl⟩⟩
theorem ref_bl {d : Nat} {f : Bool} {bs : List UInt8} (hb : bs.length ≤ 1000000) :
    bl (K DG (d + 1)) 48 [.imm (.lst f 1 (bs.map ivY))] = some (.imm (.int .u32 (crcF bs : Int))) := by
  refine bl_fe ⟨_, .lf, 0, ?_, rfl⟩
  rw [D.k48]
  show primRef [.imm (.lst f 1 (bs.map ivY))] .lf 0 0 = _
  unfold primRef
  simp only [List.length_map]
  rw [Nat.ble_eq_true_of_le hb, cond_true, crcRows_y]
  rfl
theorem call_ref {d : Nat} {H : PT HB} {n lo id : Nat} {bs : List UInt8} (hb : bs.length ≤ 1000000) (h2 : H.get id = some ⟨1, bs.map rowY⟩) :
    callM (K DG (d + 1)) .blind 48 [.sl id 0 bs.length bs.length] H n lo = some ⟨.imm (.int .u32 (crcF bs : Int)), H, n, [.rA]⟩ := by
  have e1 : frzI H.get 0 4 (.sl id 0 bs.length bs.length) = some (.lst false 1 (bs.map ivY)) := by
    show (if 0 ≤ id then _ else none) = _
    rw [if_pos (Nat.zero_le _), h2]
    show (if 0 + bs.length ≤ (bs.map rowY).length then _ else none) = _
    rw [if_pos (by simp)]
    show (mapO (mapO (frzI H.get 0 3)) (((bs.map rowY).drop 0).take bs.length)).map _ = _
    rw [List.drop_zero, List.take_of_length_le (by simp), mapO_y]
    rfl
  have e2 : snap.snaps H.get [.sl id 0 bs.length bs.length] = some [.imm (.lst false 1 (bs.map ivY))] := by
    show (match (frzI H.get 0 4 (.sl id 0 bs.length bs.length)).map DV.imm, some [] with
      | some v', some vs' => some (v' :: vs')
      | _, _ => none) = _
    rw [e1]
    rfl
  have e3 : K DG (d + 1) 48 [.imm (.lst false 1 (bs.map ivY))] .lf 0 0 = some (.imm (.int .u32 (crcF bs : Int)), .lf, 0) := by
    rw [D.k48]
    show primRef [.imm (.lst false 1 (bs.map ivY))] .lf 0 0 = _
    unfold primRef
    simp only [List.length_map]
    rw [Nat.ble_eq_true_of_le hb, cond_true, crcRows_y]
    rfl
  have e4 : DV.pure.pures [.sl id 0 bs.length bs.length] = false := rfl
  unfold callM
  simp only [e4, e2, e3]
  rfl
structure IPr (H0 : PT HB) (w a : Nat) (ts : List Th) (i : Nat) (st : St) : Prop where
  c0 : st.T.get 0 = some (.ptr a 0 0)
  c5 : st.T.get 5 = some (.imm (.int .i64 (i : Int)))
  y : ∃ x, st.T.get 4 = some x ∧ Yw st.H w st.n x (UInt8.ofNat ts.length :: thsB (ts.take i))
  fr : ∀ j, j < w → st.H.get j = H0.get j
  hn : w ≤ st.n
theorem loopPr {d : Nat} {H0 : PT HB} {w a lo : Nat} {ob : Option Nat} {ts : List Th} (hlo : lo ≤ w) (hc : CrR H0 a ob ts) (ha : a < w) (hob : ∀ b, ob = some b → b < w) (hl : ts.length ≤ 100) (hts : ∀ t ∈ ts, (thB t).length ≤ 300) (hok : ∀ t ∈ ts, thOk t = true)
    {st : St} (h : IPr H0 w a ts 0 st) {ks : List Kf} {Q : Ex → St → Prop}
    (hk : ∀ s', IPr H0 w a ts ts.length s' → Bk DG (K DG (d + 2)) lo (.exit 0) ks s' Q) :
    Wp DG (K DG (d + 2)) lo D.l76_0 ks st Q := by
  refine dw_loop (N := ts.length) (small (by have := rbW; omega)) (fun i st => IPr H0 w a ts i st) (fun e s' => e = .exit 0 ∧ IPr H0 w a ts ts.length s') (fun i st hle hI => ?_) h (fun e s' h => by
    obtain ⟨rfl, h⟩ := h
    exact hk s' h)
  obtain ⟨c0, c5, ⟨x, c4, hy⟩, fr, hn⟩ := hI
  have hga := fr a ha
  have xs := hy.sc
  -- the crate's rows
  obtain ⟨cx, hcx, hcl, hcs, hci⟩ : ∃ cx, st.H.get a = some ⟨1, [[cx]]⟩ ∧ lenOf cx = some ts.length ∧ cx.scal = true ∧ (ts = [] ∨ cx = .imm (.lst true 4 (ts.map rowTh)) ∨ ∃ b, cx = .sl b 0 ts.length ts.length ∧ st.H.get b = some ⟨4, (ts.map rowTh).map imms⟩) := by
    rcases hc with ⟨h1, rfl, _⟩ | ⟨h1, _⟩ | ⟨b, hb, _, h1, h2⟩
    · exact ⟨_, by rw [hga]; exact h1, rfl, rfl, .inl rfl⟩
    · exact ⟨_, by rw [hga]; exact h1, by simp [lenOf], rfl, .inr (.inl rfl)⟩
    · exact ⟨_, by rw [hga]; exact h1, by simp [lenOf], rfl, .inr (.inr ⟨b, rfl, by rw [fr b (hob b hb)]; exact h2⟩)⟩
  by_cases hi : i < ts.length
  · have hi1 : (i : Int) < ts.length := by omega
    have hi' : ILt (i : Int) ts.length = True := ilt_t hi1
    have hw8 : IntKind.i64.wrap ((i : Int) + 1) = (i : Int) + 1 := wr_succ hi (by have := rbW; omega)
    have hlen : (UInt8.ofNat ts.length :: thsB (ts.take i)).length ≤ 90000 := by
      have := thsB_len (ts := ts.take i) fun t ht => hts t (List.mem_of_mem_take ht)
      simp only [List.length_cons, List.length_take] at *
      omega
    have h300 := hts _ (List.getElem_mem hi)
    have hoki := hok _ (List.getElem_mem hi)
    obtain ⟨wt, et, hwt⟩ := thing8_bl (d := d) ts[i] (fun s hs => by
      rw [hs] at h300
      simp [thB] at h300
      omega)
    obtain ⟨sb, hsrc, hsb⟩ := src_sl hwt st.H.get
    have hsb1 : sb = 1 := hsb (by
      intro h
      have := congrArg List.length h
      cases ht : ts[i] <;> simp [ht, thB] at this)
    subst hsb1
    rw [map_imms_ivY] at hsrc
    obtain ⟨x1, hw, n1, acc, p1, p2, p3, p4, p5, p6, p7⟩ := app_y (y := .imm wt) (cs := thB ts[i]) hlo hn hy (src := none) hsrc (fun _ _ _ _ => by simp) (by simp only [List.length_cons] at hlen ⊢; omega)
    have x1s := p3.sc
    have fin : Yw (putH st.H hw) w n1 x1 (UInt8.ofNat ts.length :: thsB (ts.take (i + 1))) := by
      rw [thsB_succ hi]
      exact p3
    have wts := hwt.scal
    have txt : ∃ a b s e, rowTh ts[i] = [a, b, .str s, e] ∧ s.length ≤ 200 := by
      cases ht : ts[i] with
      | int z => exact ⟨_, _, _, _, rfl, by simp⟩
      | text s => rw [ht] at hoki; exact ⟨_, _, _, _, rfl, of_decide_eq_true (p := s.length ≤ 200) hoki⟩
      | bool z => exact ⟨_, _, _, _, rfl, by simp⟩
    obtain ⟨ra, rb, rs, re, hrt, hrl⟩ := txt
    have il : ILt 200 (rs.length : Int) = False := ilt_f (by omega)
    have rsc := rowTh_sc ts[i]
    rw [hrt] at et
    simp only [imms, List.map_cons, List.map_nil] at et
    rcases hci with h0 | hcx' | ⟨b, hcx', hb⟩
    · rw [h0] at hi; simp at hi
    · have ix := fun {h : Nat → Option HB} {n : Nat} => (show idxE h n 4 (some (.imm (.lst true 4 (ts.map rowTh)))) (some (.imm (.int .i64 (i : Int)))) = some { v := .imm (.cref (rowTh ts[i])), n' := n } by
        have e1 : asNat (.imm (.int .i64 (i : Int))) = some i := by simp [asNat]
        simp only [idxE, e1, List.getElem?_map, List.getElem?_eq_getElem hi, Option.map_some, give]
        simp)
      rw [hrt] at ix
      rw [hcx'] at hcx hcl hcs
      generalize ts.map rowTh = es at *
      generalize thB ts[i] = tb at *
      generalize ts[i] = t at *
      generalize hQ : (fun (e : Ex) (s' : St) => _) = Q'
      simp only [D.l76_0b]
      simp [c0, c4, c5, hcx, hcl, hcs, xs, x1s, wts, hi', hw8, ix, il, et, p1, imms, B6, B7]
      subst hQ
      exact .inl ⟨rfl, hi, by simp [PT.get_put], by simp [PT.get_put], ⟨x1, by simp [PT.get_put], fin⟩, fun j hj => (p4 j hj).trans (fr j hj), by simp; omega⟩
    · have ix := fun {n : Nat} => idx_hp (h := st.H.get) (n := n) (id := b) (row := 0) (len := ts.length) (cap := ts.length) hb rfl (k := .i64) (z := (i : Int)) (by omega) hi1
      simp only [Int.toNat_natCast, Nat.zero_add] at ix
      have hrow : ((ts.map rowTh).map imms)[i]? = some (imms (rowTh ts[i])) := by simp [hi]
      rw [hrt] at hrow
      rw [hcx'] at hcx hcl hcs
      generalize (ts.map rowTh).map imms = es at *
      generalize thB ts[i] = tb at *
      generalize ts[i] = t at *
      generalize hQ : (fun (e : Ex) (s' : St) => _) = Q'
      simp only [D.l76_0b]
      simp only [imms, List.map_cons, List.map_nil] at hrow
      simp [c0, c4, c5, hcx, hcl, hcs, xs, x1s, wts, hi', hw8, ix, hb, hrow, il, et, p1, imms, B6, B7]
      subst hQ
      exact .inl ⟨rfl, hi, by simp [PT.get_put], by simp [PT.get_put], ⟨x1, by simp [PT.get_put], fin⟩, fun j hj => (p4 j hj).trans (fr j hj), by simp; omega⟩
  · obtain rfl : i = ts.length := by omega
    generalize hQ : (fun (e : Ex) (s' : St) => _) = Q'
    simp only [D.l76_0b]
    simp [c0, c4, c5, hcx, hcl, hcs, xs, B6, B7]
    subst hQ
    exact .inr ⟨nofun, rfl, by simp [PT.get_put, c0], by simp [PT.get_put, c5], ⟨x, by simp [PT.get_put, c4], hy⟩, fr, hn⟩
end Go.Proofs.YtnpcgejfkonfdabGreatDoor.D

-- K22
set_option linter.unusedVariables false
set_option linter.unusedSimpArgs false
set_option maxHeartbeats 16000000
namespace Go.Proofs.YtnpcgejfkonfdabGreatDoor.D
open Go Go.PM Go.Lib
theorem isState_run {d : Nat} {H : PT HB} {p : Nat} {own : List Nat} {l : Lo} {rs : List Rst} (ok : LoOk l) (is : ISL l) (lk : LkAt H p own l rs) {r : Nat} (hr : r < l.rts.length) (x : Rst) {n lo : Nat} :
    ∃ n', K DG (d + 1) 96 [.ptr p 0 0, .imm (.int .i64 r), .agg (rowRS x)] H n lo = some (.imm (.bool (dec (RsOk l r x))), H, n') ∧ n ≤ n' := by
  obtain ⟨y, h1, h2, h3, h4⟩ := lk
  have rk := ok.or _ (nth_mem hr)
  have pl := rk.p.len
  simp only [List.length_map] at pl
  have p5 := is.p5 r hr
  have p1 := (is.rr r hr).p1
  have hr1 : (r : Int) < l.rts.length := by omega
  have ix := fun {h : Nat → Option HB} {n : Nat} => idx_sl (h := h) (n := n) ok.r (by omega) (k := .i64) (z := (r : Int)) (by omega) hr1
  have hw : IntKind.i64.wrap (((nth l.rts r).path.length : Int) - 1) = ((nth l.rts r).path.length : Int) - 1 := wr_id (by omega) (by omega)
  simp only [Int.toNat_natCast] at ix
  obtain ⟨m, t, g, s⟩ := x
  have key : Fe (K DG (d + 1) 96 [.ptr p 0 0, .imm (.int .i64 r), .agg (rowRS ⟨m, t, g, s⟩)] H n lo) (fun v H' n' => v = .imm (.bool (dec (RsOk l r ⟨m, t, g, s⟩))) ∧ H' = H ∧ n ≤ n') := by
    rw [D.k96]
    refine fn_dw rfl ?_
    by_cases m0 : m = 0
    · subst m0
      have e : RsOk l r ⟨0, t, g, s⟩ ↔ (⟨0, t, g, s⟩ : Rst) = ⟨0, 0, 0, false⟩ := by
        rw [Rst.mk.injEq]
        exact ⟨fun h => ⟨rfl, h.tz (by simp) (by simp), h.gz (by simp)⟩, fun ⟨_, h1, h2, h3⟩ => by subst h1; subst h2; subst h3; exact RsOk.idle⟩
      rw [dec_congr e]
      simp [h1, eqSt_rs, evParts, lay, B6, B7]
      omega
    by_cases m2 : m = 2
    · subst m2
      have e : RsOk l r ⟨2, t, g, s⟩ ↔ (⟨2, t, g, s⟩ : Rst) = ⟨2, 0, 0, false⟩ := by
        rw [Rst.mk.injEq]
        exact ⟨fun h => ⟨rfl, h.tz (by simp) (by simp), h.gz (by simp)⟩, fun ⟨_, h1, h2, h3⟩ => by subst h1; subst h2; subst h3; exact ⟨by simp, by simp, by simp, by simp, by simp, by simp, by simp⟩⟩
      rw [dec_congr e]
      simp [h1, eqSt_rs, evParts, lay, B6, B7]
      omega
    by_cases m1 : m = 1
    · subst m1
      generalize hz : (if 8 < (if t < 0 then 0 else t) then 8 else (if t < 0 then 0 else t)) = z
      have e : RsOk l r ⟨1, t, g, s⟩ ↔ (⟨1, t, g, s⟩ : Rst) = ⟨1, z, 0, false⟩ := by
        rw [Rst.mk.injEq]
        refine ⟨fun h => ⟨rfl, ?_, h.gz (by simp)⟩, fun ⟨_, h1, h2, h3⟩ => ?_⟩
        · have a1 := h.t0
          have a2 := h.t8 rfl
          simp only at a1 a2
          subst hz
          repeat' split
          all_goals omega
        · subst h2; subst h3
          have hb : 0 ≤ t ∧ t ≤ 8 := by
            subst hz
            revert h1
            repeat' split
            all_goals omega
          exact ⟨by simp, by simp <;> omega, by simp <;> omega, by simp <;> omega, by simp, by simp, by simp⟩
      rw [dec_congr e]
      simp [h1, eqSt_rs, evParts, lay, B6, B7]
      subst hz
      exact ⟨rfl, by omega⟩
    by_cases m4 : m = 4
    · subst m4
      generalize hz : (if 5 < (if t < 0 then 0 else t) then 5 else (if t < 0 then 0 else t)) = z
      have e : RsOk l r ⟨4, t, g, s⟩ ↔ (⟨4, t, g, s⟩ : Rst) = ⟨4, z, 0, false⟩ := by
        rw [Rst.mk.injEq]
        refine ⟨fun h => ⟨rfl, ?_, h.gz (by simp)⟩, fun ⟨_, h1, h2, h3⟩ => ?_⟩
        · have a1 := h.t0
          have a2 := h.t6 rfl
          simp only at a1 a2
          subst hz
          repeat' split
          all_goals omega
        · subst h2; subst h3
          have hb : 0 ≤ t ∧ t ≤ 5 := by
            subst hz
            revert h1
            repeat' split
            all_goals omega
          exact ⟨by simp, by simp <;> omega, by simp <;> omega, by simp <;> omega, by simp, by simp, by simp⟩
      rw [dec_congr e]
      simp [h1, eqSt_rs, evParts, lay, B6, B7]
      subst hz
      exact ⟨rfl, by omega⟩
    by_cases m3 : m = 3
    · subst m3
      generalize hz : (if ((nth l.rts r).path.length : Int) - 1 < (if g < 0 then 0 else g) then ((nth l.rts r).path.length : Int) - 1 else (if g < 0 then 0 else g)) = z
      have e : RsOk l r ⟨3, t, g, s⟩ ↔ (⟨3, t, g, s⟩ : Rst) = ⟨3, 0, z, s⟩ := by
        rw [Rst.mk.injEq]
        refine ⟨fun h => ⟨rfl, h.tz (by simp) (by simp), ?_, rfl⟩, fun ⟨_, h1, h2, h3⟩ => ?_⟩
        · have a1 := h.g3 rfl
          simp only at a1
          subst hz
          repeat' split
          all_goals omega
        · subst h1
          have hb : 0 ≤ g ∧ g < (nth l.rts r).path.length := by
            subst hz
            revert h2
            repeat' split
            all_goals omega
          exact ⟨by simp, by simp, by simp, by simp, by simp, fun _ => hb, by simp⟩
      rw [dec_congr e]
      simp [h1, ix, pl, hw, ivRt, eqSt_rs, evParts, lay, B6, B7]
      subst hz
      exact ⟨rfl, by omega⟩
    · have e : ¬ RsOk l r ⟨m, t, g, s⟩ := fun h => by have := h.md; simp only at this; omega
      rw [dec_f e]
      simp [h1, m0, m1, m2, m3, m4, eqSt_rs, evParts, lay, B6, B7]
      omega
  obtain ⟨v, H', n', e, rfl, rfl, hn⟩ := key
  exact ⟨n', e, hn⟩
/-! ### Set -/
/-- Two routes that may not both stand. -/
def Bad (l : Lo) (qs : List Rst) (i s : Nat) : Prop := (nth qs i).mode ≠ 0 ∧ (nth qs s).mode ≠ 0 ∧ CF l i s
structure IQ1 (p : Nat) (w : IV) (H : PT HB) (n0 i k : Nat) (x : Rst) (j : Nat) (st : St) : Prop where
  h0 : st.T.get 0 = some (.ptr p 0 0)
  h1 : st.T.get 1 = some (.imm w)
  h5 : st.T.get 5 = some (.imm (.int .i64 i))
  b6 : BoxD st 6 (rowRS x)
  h21 : st.T.get 21 = some (.imm w)
  h22 : st.T.get 22 = some (.imm (.int .i64 k))
  h23 : st.T.get 23 = some (.imm (.int .i64 i))
  h35 : st.T.get 35 = some (.imm (takeV w i))
  h36 : st.T.get 36 = some (.imm (.int .i64 i))
  h37 : st.T.get 37 = some (.imm (.int .i64 j))
  hH : st.H = H
  hn : n0 ≤ st.n
theorem nth_take {α : Type} [Inhabited α] {xs : List α} {i j : Nat} (h : j < i) : nth (xs.take i) j = nth xs j := by simp [nth, List.getD, List.getElem?_take, h]
theorem loopQ1 {d : Nat} (hd : 9 ≤ d) {H : PT HB} {p n0 : Nat} {own : List Nat} {l : Lo} {rs : List Rst} (ok : LoOk l) (is : ISL l) (lk : LkAt H p own l rs) {w : IV} {qs : List Rst} (hw : Sl 4 w (qs.map ivRS)) (hq : qs.length = l.rts.length) {i k : Nat} (hi : i < l.rts.length) {ks : List Kf} {st : St} {Q : Ex → St → Prop} (h : IQ1 p w H n0 i k (nth qs i) 0 st)
    (h1 : ∀ st', st'.T.get 4 = some (.imm (.bool false)) → st'.H = H → n0 ≤ st'.n → (∃ s, s < i ∧ Bad l qs i s) → Bk DG (K DG d) 0 .ret ks st' Q)
    (h2 : ∀ st', IQ1 p w H n0 i k (nth qs i) i st' → (∀ s, s < i → ¬ Bad l qs i s) → Bk DG (K DG d) 0 (.exit 2) ks st' Q) : Wp DG (K DG d) 0 D.l58_1 ks st Q := by
  have hrb := rb3
  have lr := ok.lr
  obtain ⟨y, k1, k2, k3, k4⟩ := lk
  have vt := takeV_sl hw i
  have vtl := vt.len
  simp only [List.length_map, List.length_take] at vtl
  refine dw_loop (N := i) (small (by omega)) (fun j st => IQ1 p w H n0 i k (nth qs i) j st ∧ ∀ s, s < j → ¬ Bad l qs i s) (fun e st' => (e = .ret ∧ st'.T.get 4 = some (.imm (.bool false)) ∧ st'.H = H ∧ n0 ≤ st'.n ∧ ∃ s, s < i ∧ Bad l qs i s) ∨ (e = .exit 2 ∧ IQ1 p w H n0 i k (nth qs i) i st' ∧ ∀ s, s < i → ¬ Bad l qs i s)) (fun j st hle hI => ?_) ⟨h, fun s hs => absurd hs (by omega)⟩ (fun e s' h => by
    rcases h with ⟨rfl, a1, a2, a3, a4⟩ | ⟨rfl, a1, a2⟩
    · exact h1 s' a1 a2 a3 a4
    · exact h2 s' a1 a2)
  obtain ⟨⟨g0, g1, g5, ⟨i6, g6, L6⟩, g21, g22, g23, g35, g36, g37, hH, hn⟩, al⟩ := hI
  by_cases hj : j < i
  · have hj1 : (j : Int) < i := by omega
    have hj' := ilt_t hj1
    have hw8 : IntKind.i64.wrap ((j : Int) + 1) = (j : Int) + 1 := wr_succ hj (by omega)
    have ix := fun {h : Nat → Option HB} {n : Nat} => idx_sl (h := h) (n := n) vt (by omega) (k := .i64) (z := (j : Int)) (by omega) (by simp; omega)
    simp only [Int.toNat_natCast, nth_take hj] at ix
    have cf := Conflict_bl (D := d) (by omega) ok is.few hi (s := j) (by omega)
    have bad : Bad l qs i j ↔ (nth qs i).mode ≠ 0 ∧ (nth qs j).mode ≠ 0 ∧ CF l i j := Iff.rfl
    have nx : ¬ Bad l qs i j → ∀ s, s < j + 1 → ¬ Bad l qs i s := fun hb s hs => by
      by_cases e : s = j
      · subst e; exact hb
      · exact al s (by omega)
    generalize nth qs i = x at *
    generalize nth qs j = y at *
    generalize hQ : (fun (e : Ex) (s' : St) => _) = Q'
    simp only [D.l58_1b]
    by_cases mx : x.mode = 0
    · have nb := nx fun e => (bad.1 e).1 mx
      simp [g0, g1, g5, g6, L6, g21, g22, g23, g35, g36, g37, hj', hw8, ix, hH, k1, mx, ivRS, evParts, lay, B6, B7]
      subst hQ
      exact .inl ⟨rfl, hj, ⟨by simp [PT.get_put], by simp [PT.get_put], by simp [PT.get_put], ⟨i6, by simp [PT.get_put], by simp [PT.get_put, mx]⟩, by simp [PT.get_put], by simp [PT.get_put], by simp [PT.get_put], by simp [PT.get_put], by simp [PT.get_put], by simp [PT.get_put], rfl, by simp; omega⟩, nb⟩
    by_cases my : y.mode = 0
    · have nb := nx fun e => (bad.1 e).2.1 my
      simp [g0, g1, g5, g6, L6, g21, g22, g23, g35, g36, g37, hj', hw8, ix, hH, k1, mx, my, ivRS, evParts, lay, B6, B7]
      subst hQ
      exact .inl ⟨rfl, hj, ⟨by simp [PT.get_put], by simp [PT.get_put], by simp [PT.get_put], ⟨i6, by simp [PT.get_put], by simp [PT.get_put]⟩, by simp [PT.get_put], by simp [PT.get_put], by simp [PT.get_put], by simp [PT.get_put], by simp [PT.get_put], by simp [PT.get_put], rfl, by simp; omega⟩, nb⟩
    by_cases hc : CF l i j
    · rw [dec_t hc] at cf
      simp [g0, g1, g5, g6, L6, g21, g22, g23, g35, g36, g37, hj', hw8, ix, hH, k1, mx, my, cf, ok.s.scal, ok.p.scal, ok.g.scal, ok.r.scal, ivRS, evParts, lay, B6, B7]
      subst hQ
      exact .inr ⟨nofun, .inl ⟨rfl, by simp [PT.get_put], rfl, by simp; omega, j, hj, bad.2 ⟨mx, my, hc⟩⟩⟩
    · rw [dec_f hc] at cf
      have nb := nx fun e => hc (bad.1 e).2.2
      simp [g0, g1, g5, g6, L6, g21, g22, g23, g35, g36, g37, hj', hw8, ix, hH, k1, mx, my, cf, ok.s.scal, ok.p.scal, ok.g.scal, ok.r.scal, ivRS, evParts, lay, B6, B7]
      subst hQ
      exact .inl ⟨rfl, hj, ⟨by simp [PT.get_put], by simp [PT.get_put], by simp [PT.get_put], ⟨i6, by simp [PT.get_put], by simp [PT.get_put]⟩, by simp [PT.get_put], by simp [PT.get_put], by simp [PT.get_put], by simp [PT.get_put], by simp [PT.get_put], by simp [PT.get_put], rfl, by simp; omega⟩, nb⟩
  · obtain rfl : j = i := by omega
    generalize hQ : (fun (e : Ex) (s' : St) => _) = Q'
    simp only [D.l58_1b]
    simp [g0, g1, g5, g6, L6, g21, g22, g23, g35, g36, g37, hH, B6, B7]
    subst hQ
    exact .inr ⟨nofun, .inr ⟨rfl, ⟨by simp [PT.get_put, g0], by simp [PT.get_put, g1], by simp [PT.get_put, g5], ⟨i6, by simp [PT.get_put, g6], by simp [PT.get_put, L6]⟩, by simp [PT.get_put, g21], by simp [PT.get_put, g22], by simp [PT.get_put, g23], by simp [PT.get_put, g35], by simp [PT.get_put, g36], by simp [PT.get_put, g37], rfl, hn⟩, al⟩⟩
structure IQ0 (p : Nat) (w : IV) (H : PT HB) (n0 k i : Nat) (st : St) : Prop where
  h0 : st.T.get 0 = some (.ptr p 0 0)
  h1 : st.T.get 1 = some (.imm w)
  h21 : st.T.get 21 = some (.imm w)
  h22 : st.T.get 22 = some (.imm (.int .i64 k))
  h23 : st.T.get 23 = some (.imm (.int .i64 i))
  hH : st.H = H
  hn : n0 ≤ st.n
/-- A route that may stand so, beside those ahead of it. -/
def Good (l : Lo) (qs : List Rst) (r : Nat) : Prop := RsOk l r (nth qs r) ∧ ∀ s, s < r → ¬ Bad l qs r s
theorem good_inv {l : Lo} {qs : List Rst} (hq : qs.length = l.rts.length) : (∀ r, r < l.rts.length → Good l qs r) ↔ INV l qs := by
  refine ⟨fun h => ⟨hq, fun r hr => (h r hr).1, fun i j hi hj hij mi mj hc => ?_⟩, fun h r hr => ⟨h.ro r hr, fun s hs hb => h.nc r s hr (by omega) (by omega) hb.1 hb.2.1 hb.2.2⟩⟩
  rcases Nat.lt_or_gt_of_ne hij with hlt | hlt
  · exact (h j hj).2 i hlt ⟨mj, mi, CF_sym hc⟩
  · exact (h i hi).2 j hlt ⟨mi, mj, hc⟩
theorem loopQ0 {d : Nat} (hd : 10 ≤ d) {H : PT HB} {p n0 : Nat} {own : List Nat} {l : Lo} {rs : List Rst} (ok : LoOk l) (is : ISL l) (lk : LkAt H p own l rs) {w : IV} {qs : List Rst} (hw : Sl 4 w (qs.map ivRS)) (hq : qs.length = l.rts.length) {ks : List Kf} {st : St} {Q : Ex → St → Prop} (h : IQ0 p w H n0 l.rts.length 0 st)
    (h1 : ∀ st', st'.T.get 4 = some (.imm (.bool false)) → st'.H = H → n0 ≤ st'.n → ¬ (∀ r, r < l.rts.length → Good l qs r) → Bk DG (K DG d) 0 .ret ks st' Q)
    (h2 : ∀ st', IQ0 p w H n0 l.rts.length l.rts.length st' → (∀ r, r < l.rts.length → Good l qs r) → Bk DG (K DG d) 0 (.exit 0) ks st' Q) : Wp DG (K DG d) 0 D.l58_0 ks st Q := by
  have hrb := rb3
  have lr := ok.lr
  obtain ⟨d, rfl⟩ : ∃ d', d = d' + 1 := ⟨d - 1, by omega⟩
  refine dw_loop (N := l.rts.length) (small lr) (fun i st => IQ0 p w H n0 l.rts.length i st ∧ ∀ r, r < i → Good l qs r) (fun e st' => (e = .ret ∧ st'.T.get 4 = some (.imm (.bool false)) ∧ st'.H = H ∧ n0 ≤ st'.n ∧ ¬ ∀ r, r < l.rts.length → Good l qs r) ∨ (e = .exit 0 ∧ IQ0 p w H n0 l.rts.length l.rts.length st' ∧ ∀ r, r < l.rts.length → Good l qs r)) (fun i st hle hI => ?_) ⟨h, fun s hs => absurd hs (by omega)⟩ (fun e s' h => by
    rcases h with ⟨rfl, a1, a2, a3, a4⟩ | ⟨rfl, a1, a2⟩
    · exact h1 s' a1 a2 a3 a4
    · exact h2 s' a1 a2)
  obtain ⟨⟨g0, g1, g21, g22, g23, hH, hn⟩, al⟩ := hI
  by_cases hi : i < l.rts.length
  · have hi1 : (i : Int) < l.rts.length := by omega
    have hi' := ilt_t hi1
    have hw8 : IntKind.i64.wrap ((i : Int) + 1) = (i : Int) + 1 := wr_succ hi lr
    have ix := fun {h : Nat → Option HB} {n : Nat} => idx_sl (h := h) (n := n) hw (by omega) (k := .i64) (z := (i : Int)) (by omega) (by omega)
    simp only [Int.toNat_natCast] at ix
    have sl := fun {h : Nat → Option HB} {n : Nat} => slc_to (h := h) (n := n) hw (i := i) (by omega)
    have vt := (takeV_sl hw i).len
    simp only [List.length_map, List.length_take, Nat.min_eq_left (show i ≤ qs.length by omega)] at vt
    obtain ⟨n2, e2, hn2⟩ := isState_run (d := d) ok is lk hi (nth qs i) (n := st.n + 1) (lo := st.n + 1)
    subst hH
    have loop := fun {ks st Q} => loopQ1 (d := d + 1) (n0 := n0) (k := l.rts.length) (ks := ks) (st := st) (Q := Q) (by omega) ok is lk hw hq hi
    have gd : RsOk l i (nth qs i) → (∀ s, s < i → ¬ Bad l qs i s) → ∀ r, r < i + 1 → Good l qs r := fun a b r hr => by
      by_cases e : r = i
      · subst e; exact ⟨a, b⟩
      · exact al r (by omega)
    have nb : (∃ s, s < i ∧ Bad l qs i s) → ¬ ∀ r, r < l.rts.length → Good l qs r := fun ⟨s, hs, hb⟩ h => (h i hi).2 s hs hb
    have ns : ¬ RsOk l i (nth qs i) → ¬ ∀ r, r < l.rts.length → Good l qs r := fun hs h => hs (h i hi).1
    generalize nth qs i = x at *
    generalize hQ : (fun (e : Ex) (s' : St) => _) = Q'
    simp only [D.l58_0b]
    by_cases ho : RsOk l i x
    · rw [dec_t ho] at e2
      simp [g0, g1, g21, g22, g23, hi', hw8, ix, sl, vt, e2, ivRS, evParts, lay, B6, B7]
      refine loop ⟨by simp [PT.get_put], by simp [PT.get_put], by simp [PT.get_put], ⟨st.n, by simp [PT.get_put], by simp [PT.get_put]⟩, by simp [PT.get_put], by simp [PT.get_put], by simp [PT.get_put], by simp [PT.get_put], by simp [PT.get_put], by simp [PT.get_put], rfl, by simp; omega⟩ (fun s2 f4 fH fn hb => ?_) (fun s2 f hb => ?_)
      · simp [f4, B6, B7]
        subst hQ
        exact .inr ⟨nofun, .inl ⟨rfl, f4, fH, fn, nb hb⟩⟩
      · obtain ⟨f0, f1, f5, ⟨j6, f6, M6⟩, f21, f22, f23, f35, f36, f37, fH, fn⟩ := f
        simp [f0, f1, f5, f6, M6, f21, f22, f23, hw8, B6, B7]
        subst hQ
        exact .inl ⟨rfl, hi, ⟨by simp [PT.get_put, f0], by simp [PT.get_put, f1], by simp [PT.get_put, f21], by simp [PT.get_put, f22], by simp [PT.get_put], fH, fn⟩, gd ho hb⟩
    · rw [dec_f ho] at e2
      simp [g0, g1, g21, g22, g23, hi', hw8, ix, sl, vt, e2, ivRS, evParts, lay, B6, B7]
      subst hQ
      exact .inr ⟨nofun, .inl ⟨rfl, by simp [PT.get_put], rfl, by simp; omega, ns ho⟩⟩
  · obtain rfl : i = l.rts.length := by omega
    generalize hQ : (fun (e : Ex) (s' : St) => _) = Q'
    simp only [D.l58_0b]
    simp [g0, g1, g21, g22, g23, hH, B6, B7]
    subst hQ
    exact .inr ⟨nofun, .inr ⟨rfl, ⟨by simp [PT.get_put, g0], by simp [PT.get_put, g1], by simp [PT.get_put, g21], by simp [PT.get_put, g22], by simp [PT.get_put, g23], rfl, hn⟩, al⟩⟩
/-- A copy of a row that nobody writes: in the heap. -/
theorem clone_q {d : Nat} {w : IV} {qs : List Rst} (hw : Sl 4 w (qs.map ivRS)) (hl : qs.length ≤ 1000) (H : PT HB) (n : Nat) :
    Fe (K DG (d + 1) 81 [.imm w] H n 0) (fun x H' n' => n ≤ n' ∧ ((qs = [] ∧ H' = H ∧ ∃ u, x = .imm u ∧ Sl 4 u []) ∨ (qs ≠ [] ∧ x = .sl n 0 qs.length qs.length ∧ H' = H.put n (some ⟨4, qs.map rowRS⟩) ∧ n' = n + 1))) := by
  have hes := map_rowRS qs
  have hel : (qs.map ivRS).length = qs.length := by simp
  have hq0 : qs.map ivRS = [] ↔ qs = [] := by simp
  rw [← hq0, hes, ← hel]
  rw [← hel] at hl
  generalize qs.map ivRS = es at *
  have hv0 := hw
  rw [D.k81]
  refine fn_dw rfl ?_
  rcases hw with ⟨rfl, rfl⟩ | ⟨f, rfl⟩
  · simp [B6, B7]
    exact .inl ⟨rfl, rfl⟩
  · by_cases he : es = []
    · have p1 := fun {h : Nat → Option HB} {n : Nat} {x : DV} hx => app_none (bytes := 32) (h := h) (n := n) (x := x) hx (he ▸ hv0)
      subst he
      simp [p1, evParts2, lay, unImms, unImm, mapO, rowsN, B6, B7]
      exact .inr ⟨_, rfl⟩
    · have p1 := fun {h : Nat → Option HB} {n : Nat} => app_new (bytes := 32) (h := h) (n := n) hv0 he (by omega) (by omega) (by omega)
      simp [p1, he, evParts2, lay, unImms, unImm, mapO, rowsN, B6, B7]
      exact fun e => he (hq0.2 e)
theorem Set_run {d : Nat} (hd : 10 ≤ d) {H : PT HB} {p : Nat} {own : List Nat} {l : Lo} {rs : List Rst} (ok : LoOk l) (is : ISL l) (lk : LkAt H p own l rs) {w : IV} {qs : List Rst} (hw : Sl 4 w (qs.map ivRS)) (hl : qs.length ≤ reachBytes) {n : Nat} (hpn : ∀ i ∈ p :: own, i < n) :
    Fe (K DG (d + 1) 58 [.ptr p 0 0, .imm w] H n 0) (fun v H' n' => n ≤ n' ∧ v = .imm (.bool (dec (INV l qs))) ∧ (∀ j, j ≠ p → j < n → H'.get j = H.get j) ∧
      ((INV l qs ∧ ∃ own', LkAt H' p own' l qs ∧ ∀ i ∈ own', n ≤ i ∧ i < n') ∨ (¬ INV l qs ∧ LkAt H' p own l rs))) := by
  have hrb := rb3
  have lk0 := lk
  obtain ⟨x, h1, h2, h3, h4⟩ := lk
  have xl := h2.len
  have wl := hw.len
  simp only [List.length_map] at wl
  have hp := hpn p (by simp)
  obtain ⟨d, rfl⟩ : ∃ d', d = d' + 1 := ⟨d - 1, by omega⟩
  rw [D.k58]
  refine fn_dw rfl ?_
  by_cases hq : qs.length = rs.length
  · have hq' : qs.length = l.rts.length := by omega
    rw [h4] at xl
    rw [hq'] at wl
    simp [h1, xl, wl, B6, B7]
    refine loopQ0 (n0 := n) (by omega) ok is lk0 hw hq' ⟨by simp [PT.get_put], by simp [PT.get_put], by simp [PT.get_put], by simp [PT.get_put], by simp [PT.get_put], rfl, by simp⟩ (fun s2 f4 fH fn hb => ?_) (fun s2 f hb => ?_)
    · rw [good_inv hq'] at hb
      simp [f4, B6, B7]
      exact ⟨fn, hb, fun j hj hjn => by rw [fH], .inr ⟨hb, by rw [fH]; exact lk0⟩⟩
    · rw [good_inv hq'] at hb
      obtain ⟨f0, f1, f21, f22, f23, fH, fn⟩ := f
      obtain ⟨v, H1, n1, e1, hn1, hc⟩ := clone_q (d := d) hw (by have := is.r2; omega) H s2.n
      subst fH
      rcases hc with ⟨rfl, rfl, u, rfl, hu⟩ | ⟨hne, rfl, rfl, rfl⟩
      · simp [f0, f1, e1, h1, hu.scal, B6, B7]
        exact ⟨by omega, hb, fun j hj hjn => by simp [PT.get_put, hj], .inl ⟨hb, [], ⟨_, by simp [PT.get_put], .inl ⟨rfl, rfl, u, rfl, hu⟩, by simp, hq'⟩, by simp⟩⟩
      · have hpn' : ¬ p = s2.n := by omega
        have hnp : ¬ s2.n = p := by omega
        simp [f0, f1, e1, h1, hpn', B6, B7]
        refine ⟨by omega, hb, fun j hj hjn => ?_, .inl ⟨hb, [s2.n], ⟨_, by simp [PT.get_put], .inr ⟨s2.n, rfl, rfl, by simp [PT.get_put, hnp]⟩, by simp; omega, hq'⟩, by simp; omega⟩⟩
        have : ¬ j = s2.n := by omega
        simp [PT.get_put, hj, this]
  · have hni : ¬ INV l qs := fun h => hq (by have := h.ln; omega)
    have hq2 : ¬ (qs.length : Int) = (rs.length : Int) := by omega
    simp [h1, xl, wl, hq2, B6, B7]
    exact ⟨hni, .inr ⟨hni, lk0⟩⟩
end Go.Proofs.YtnpcgejfkonfdabGreatDoor.D

set_option linter.unusedVariables false
set_option linter.unusedSimpArgs false
set_option maxHeartbeats 16000000
namespace Go.Proofs.YtnpcgejfkonfdabGreatDoor.D
open Go Go.PM Go.Lib
/-- A Lock in the heap that stands as it may. -/
def LkI (H : PT HB) (n p : Nat) (l : Lo) : Prop := ∃ own rs, LkAt H p own l rs ∧ INV l rs ∧ ∀ j ∈ p :: own, j < n
theorem LkI.mono {H H' : PT HB} {n n' p : Nat} {l : Lo} (h : LkI H n p l) (hn : n ≤ n') (hf : ∀ j, j < n → H'.get j = H.get j) : LkI H' n' p l := by
  obtain ⟨own, rs, lk, inv, ho⟩ := h
  exact ⟨own, rs, lk.mono fun i hi => hf i (ho i hi), inv, fun j hj => by have := ho j hj; omega⟩
end Go.Proofs.YtnpcgejfkonfdabGreatDoor.D

-- T9a
set_option linter.unusedVariables false
set_option linter.unusedSimpArgs false
set_option maxHeartbeats 16000000
namespace Go.Proofs.YtnpcgejfkonfdabGreatDoor.D
open Go Go.PM Go.Lib
theorem AtS.keep {sz : Nat} {x : DV} {H H' : PT HB} {n : Nat} {rows : List (List IV)} (h : AtS sz x H n rows) (hk : ∀ j, j < n → H'.get j = H.get j) : AtS sz x H' n rows := by
  rcases h with h | ⟨id, h1, h2, h3⟩
  · exact .inl h
  · exact .inr ⟨id, h1, h2, by rw [hk id h1]; exact h3⟩
end Go.Proofs.YtnpcgejfkonfdabGreatDoor.D

-- K24
set_option linter.unusedVariables false
set_option linter.unusedSimpArgs false
set_option maxHeartbeats 16000000
namespace Go.Proofs.YtnpcgejfkonfdabGreatDoor.D
open Go Go.PM Go.Lib
theorem RtEq.symm {r r' : Rt} (h : RtEq r r') : RtEq r' r := ⟨h.name.symm, h.fr.symm, h.to.symm, h.path.symm, h.pts.symm, h.flk.symm⟩
theorem LoEq.symm {l l' : Lo} (e : LoEq l l') : LoEq l' l := ⟨e.secs.symm, e.pts.symm, e.sigs.symm, e.len.symm, fun i hi => (e.rts i (by rw [← e.len]; exact hi)).symm⟩
theorem LoEq.fre {l l' : Lo} (e : LoEq l l') {rs : List Rst} {os : List Bool} {ls : List Int} {r : Nat} (hr : r < l.rts.length) (h : FRE l rs os ls r) : FRE l' rs os ls r := by
  refine ⟨fun s hs hm => ?_, fun i hi => ?_, ?_⟩
  · have hs' : s < l.rts.length := by rw [← e.len]; exact hs
    rw [e.cf hr hs']; exact h.cf s hs' hm
  · rw [e.nd hr] at hi ⊢
    have := h.nf i hi
    unfold NFree secOf at *
    rw [e.pts, e.hol]; exact this
  · rw [(e.rts r hr).path]; exact h.oc
theorem LoEq.cmd {l l' : Lo} (e : LoEq l l') {rs : List Rst} {os : List Bool} {ls : List Int} {c r : Int} : cmdF l' rs os ls c r = cmdF l rs os ls c r := by
  unfold cmdF
  rw [dec_congr (show (¬ MI l' os ls ∨ (c ≠ 1 ∧ c ≠ 2)) ↔ (¬ MI l os ls ∨ (c ≠ 1 ∧ c ≠ 2)) by rw [e.mi']), e.len]
  by_cases hr : InR r l.rts.length
  · have hn : r.toNat < l.rts.length := by have := hr.1; have := hr.2; omega
    have : callF l' rs os ls r.toNat = callF l rs os ls r.toNat := by
      unfold callF
      rw [dec_congr (show FRE l' rs os ls r.toNat ↔ FRE l rs os ls r.toNat from ⟨fun h => e.symm.fre (by rw [e.len]; exact hn) h, fun h => e.fre hn h⟩)]
    rw [this]
  · rw [dec_f hr]; rfl
theorem LoEq.stp {l l' : Lo} (e : LoEq l l') {os : List Bool} {ls : List Int} {r : Nat} (hr : r < l.rts.length) {x : Rst} : stepF l' os ls r x = stepF l os ls r x := by
  unfold stepF usedF
  rw [dec_congr (e.lie hr), (e.rts r hr).path]
theorem LoEq.drF {l l' : Lo} (e : LoEq l l') {rs : List Rst} {os : List Bool} {ls : List Int} : D.drF l' rs os ls = D.drF l rs os ls := by
  unfold D.drF
  rw [e.len, e.pts]
  refine it_congr _ fun r x hr => ?_
  unfold drR
  rw [e.nd hr]
  congr 1
  refine it_congr _ fun i y hi => ?_
  unfold drN drC
  rw [e.nd hr, e.pts, e.hol]
theorem LoEq.prF {l l' : Lo} (e : LoEq l l') {rs : List Rst} {os : List Bool} {ls : List Int} : D.prF l' rs os ls = D.prF l rs os ls := by
  unfold D.prF
  rw [e.len, e.sigs]
  refine it_congr _ fun r x hr => ?_
  unfold prR
  rw [dec_congr (show prC l' rs os ls r ↔ prC l rs os ls r by unfold prC; rw [(e.rts r hr).path, e.lie hr]), (e.rts r hr).fr]
theorem LoEq.inv' {l l' : Lo} (e : LoEq l l') {rs : List Rst} (h : INV l rs) : INV l' rs := e.symm.inv h
/-- How all routes stand next. -/
noncomputable def stpF (l : Lo) (os : List Bool) (ls : List Int) (rs : List Rst) : List Rst := (List.range l.rts.length).map fun r => stepF l os ls r (nth rs r)
theorem stpF_eq {l : Lo} {os : List Bool} {ls : List Int} {rs qs : List Rst} (hl : qs.length = l.rts.length) (hq : ∀ j, j < l.rts.length → nth qs j = stepF l os ls j (nth rs j)) : qs = stpF l os ls rs := by
  refine List.ext_getElem (by simp [stpF, hl]) fun i h1 h2 => ?_
  have hi : i < l.rts.length := by omega
  have := hq i hi
  simp only [nth, List.getD, List.getElem?_eq_getElem h1, Option.getD_some] at this
  rw [this]
  simp [stpF, nth]
theorem LoEq.stpF {l l' : Lo} (e : LoEq l l') {os : List Bool} {ls : List Int} {rs : List Rst} : D.stpF l' os ls rs = D.stpF l os ls rs := by
  unfold D.stpF
  rw [e.len]
  refine List.map_congr_left fun r hr => ?_
  exact e.stp (List.mem_range.1 hr)
theorem INV.stp {l : Lo} (is : ISL l) {rs : List Rst} (h : INV l rs) {os : List Bool} {ls : List Int} : INV l (stpF l os ls rs) :=
  h.step is (os := os) (ls := ls) (by simp [stpF]) fun j hj => by simp [stpF, nth, hj]
/-- A cycle: how routes stand, what is driven, what proceeds. -/
noncomputable def cycF (l : Lo) (rs : List Rst) (os : List Bool) (ls : List Int) : List Rst × List Int × List Bool :=
  bif dec (MI l os ls) then (stpF l os ls rs, drF l (stpF l os ls rs) os ls, prF l (stpF l os ls rs) os ls) else (rs, List.replicate l.pts.length 0, List.replicate l.sigs.length false)
theorem LoEq.cyc {l l' : Lo} (e : LoEq l l') {rs : List Rst} {os : List Bool} {ls : List Int} : cycF l' rs os ls = cycF l rs os ls := by
  unfold cycF
  rw [dec_congr e.mi', e.stpF, e.drF, e.prF, e.pts, e.sigs]
theorem INV.cyc {l : Lo} (is : ISL l) {rs : List Rst} (h : INV l rs) {os : List Bool} {ls : List Int} : INV l (cycF l rs os ls).1 := by
  unfold cycF
  cases dec (MI l os ls) with
  | true => exact h.stp is
  | false => exact h
theorem drF_len {l : Lo} (is : ISL l) {rs : List Rst} {os : List Bool} {ls : List Int} : (drF l rs os ls).length = l.pts.length := (drF_ok is).1
theorem prF_len {l : Lo} (is : ISL l) {rs : List Rst} {os : List Bool} {ls : List Int} : (prF l rs os ls).length = l.sigs.length := (prF_ok is).1
theorem Cycle_all {d : Nat} (hd : 11 ≤ d) {H : PT HB} {p : Nat} {own : List Nat} {l : Lo} {rs : List Rst} (ok : LoOk l) (is : ISL l) (lk : LkAt H p own l rs) (inv : INV l rs) {ov lv : IV} {os : List Bool} {ls : List Int} (io : InOk ov lv os ls) {n : Nat} (hpn : ∀ i ∈ p :: own, i < n) :
    ∃ H' n', K DG (d + 1) 80 [.ptr p 0 0, inD ov lv] H n 0 = some (.agg [.sl (n + 2 + 1) 0 l.pts.length l.pts.length, .sl (n + 2 + 2) 0 l.sigs.length l.sigs.length], H', n') ∧ n + 5 ≤ n' ∧ (∀ j, j ∉ own → j < n → H'.get j = H.get j) ∧
      LkAt H' p own l (cycF l rs os ls).1 ∧ H'.get (n + 2 + 1) = some ⟨1, (cycF l rs os ls).2.1.map rowI⟩ ∧ H'.get (n + 2 + 2) = some ⟨1, (cycF l rs os ls).2.2.map rowB⟩ ∧ (cycF l rs os ls).2.1.length = l.pts.length ∧ (cycF l rs os ls).2.2.length = l.sigs.length := by
  by_cases mi : MI l os ls
  · obtain ⟨v, H', n', e, rfl, hn, fr, qs, lk', hq, h1, h2⟩ := Cycle_fn hd ok is lk inv.ro io mi hpn
    obtain rfl := stpF_eq (by obtain ⟨_, _, _, _, h⟩ := lk'; exact h) hq
    refine ⟨H', n', e, hn, fr, ?_⟩
    unfold cycF
    rw [dec_t mi]
    exact ⟨lk', h1, h2, drF_len is, prF_len is⟩
  · obtain ⟨v, H', n', e, rfl, hn, hH⟩ := Cycle_err (d := d) (by omega) ok is.p2 is.g2 lk io mi hpn
    have hf : ∀ j, j < n → H'.get j = H.get j := fun j hj => by
      have b1 : ¬ j = n + 2 + 1 := by omega
      have b2 : ¬ j = n + 2 + 2 := by omega
      rw [hH]; simp [PT.get_put, b1, b2]
    refine ⟨H', n', e, by omega, fun j _ hj => hf j hj, ?_⟩
    unfold cycF
    rw [dec_f mi]
    refine ⟨lk.mono fun i hi => hf i (hpn i hi), ?_, ?_, by simp, by simp⟩
    · have : ¬ n + 2 + 1 = n + 2 + 2 := by omega
      rw [hH]; simp [PT.get_put, this, rowI, imms]
    · rw [hH]; simp [PT.get_put, rowB, imms]
/-- Two Locks in the heap, apart. -/
def Two (H : PT HB) (n p q : Nat) (l k : Lo) (rs qs : List Rst) : Prop := ∃ o o', LkAt H p o l rs ∧ LkAt H q o' k qs ∧ (∀ j ∈ p :: o, j < n) ∧ (∀ j ∈ q :: o', j < n) ∧ ∀ j ∈ p :: o, j ∉ q :: o'
theorem Two.symm {H : PT HB} {n p q : Nat} {l k : Lo} {rs qs : List Rst} (h : Two H n p q l k rs qs) : Two H n q p k l qs rs := by
  obtain ⟨o, o', a, b, c, d, e⟩ := h
  exact ⟨o', o, b, a, d, c, fun j h1 h2 => e j h2 h1⟩
theorem Two.mono {H H' : PT HB} {n n' p q : Nat} {l k : Lo} {rs qs : List Rst} (h : Two H n p q l k rs qs) (hn : n ≤ n') (hf : ∀ j, j < n → H'.get j = H.get j) : Two H' n' p q l k rs qs := by
  obtain ⟨o, o', a, b, c, d, e⟩ := h
  exact ⟨o, o', a.mono fun i hi => hf i (c i hi), b.mono fun i hi => hf i (d i hi), fun j hj => by have := c j hj; omega, fun j hj => by have := d j hj; omega, e⟩
theorem Two.cmd {d : Nat} (hd : 11 ≤ d) {H : PT HB} {n p q : Nat} {l k : Lo} {rs qs : List Rst} (h : Two H n p q l k rs qs) (ok : LoOk l) (is : ISL l) (inv : INV l rs) {ov lv : IV} {os : List Bool} {ls : List Int} (io : InOk ov lv os ls) (c r : Int) :
    ∃ H1 n1, K DG (d + 1) 79 [.ptr p 0 0, inD ov lv, .agg [.imm (.int .i64 c), .imm (.int .i64 r)]] H n 0 = some (.imm (.int .i64 (cmdF l rs os ls c r).1), H1, n1) ∧ n ≤ n1 ∧ Two H1 n1 p q l k (cmdF l rs os ls c r).2 qs := by
  obtain ⟨o, o', a, b, hc, hd', e⟩ := h
  obtain ⟨H1, n1, e1, lk1, hn1, fr1⟩ := Command_run hd ok is a (go_of inv.ro) io c r (n := n)
  exact ⟨H1, n1, e1, hn1, o, o', lk1, b.mono fun i hi => fr1 i fun hi' => e i (by simp [hi']) hi, fun j hj => by have := hc j hj; omega, fun j hj => by have := hd' j hj; omega, e⟩
theorem Two.cyc {d : Nat} (hd : 11 ≤ d) {H : PT HB} {n p q : Nat} {l k : Lo} {rs qs : List Rst} (h : Two H n p q l k rs qs) (ok : LoOk l) (is : ISL l) (inv : INV l rs) {ov lv : IV} {os : List Bool} {ls : List Int} (io : InOk ov lv os ls) :
    ∃ v H1 n1, K DG (d + 1) 80 [.ptr p 0 0, inD ov lv] H n 0 = some (v, H1, n1) ∧ n ≤ n1 ∧ Two H1 n1 p q l k (cycF l rs os ls).1 qs := by
  obtain ⟨o, o', a, b, hc, hd', e⟩ := h
  obtain ⟨H1, n1, e1, hn1, fr1, lk1, h1, h2, h3, h4⟩ := Cycle_all hd ok is a inv io hc
  exact ⟨_, H1, n1, e1, by omega, o, o', lk1, b.mono fun i hi => fr1 i (fun hi' => e i (by simp [hi']) hi) (hd' i hi), fun j hj => by have := hc j hj; omega, fun j hj => by have := hd' j hj; omega, e⟩
/-- Two rows of states that are one. -/
theorem Same_same {D : Nat} (hD : 1 ≤ D) {w w' : IV} {rs : List Rst} (hw : Sl 4 w (rs.map ivRS)) (hw' : Sl 4 w' (rs.map ivRS)) (hl : rs.length ≤ reachBytes) : bl (K DG D) 21 [.imm w, .imm w'] = some (.imm (.bool true)) := by
  obtain ⟨d, rfl⟩ : ∃ d, D = d + 1 := ⟨D - 1, by omega⟩
  have wl := hw.len
  have wl' := hw'.len
  simp only [List.length_map] at wl wl'
  refine bl_fe ?_
  rw [D.k21]
  refine fn_dw rfl ?_
  simp [hw.scal, hw'.scal, wl, wl', B6, B7]
  refine dw_loop (N := rs.length) (small hl) (fun i st => st.T.get 0 = some (.imm w) ∧ st.T.get 1 = some (.imm w') ∧ st.T.get 5 = some (.imm (.int .i64 i))) (fun e st' => e = .exit 0) (fun i st hle hI => ?_) ⟨by simp [PT.get_put], by simp [PT.get_put], by simp [PT.get_put]⟩ (fun e s' h => by subst h; simp [B6, B7])
  obtain ⟨h0, h1, h5⟩ := hI
  by_cases hi : i < rs.length
  · have hi1 : (i : Int) < rs.length := by omega
    have hi' := ilt_t hi1
    have hw8 : IntKind.i64.wrap ((i : Int) + 1) = (i : Int) + 1 := wr_succ hi hl
    have ix := fun {h : Nat → Option HB} {n : Nat} => idx_sl (h := h) (n := n) hw (by omega) (k := .i64) (z := (i : Int)) (by omega) hi1
    have iy := fun {h : Nat → Option HB} {n : Nat} => idx_sl (h := h) (n := n) hw' (by omega) (k := .i64) (z := (i : Int)) (by omega) hi1
    generalize hQ : (fun (e : Ex) (s' : St) => _) = Q'
    simp only [D.l21_0b]
    simp [h0, h1, h5, wl, hi', hw8, ix, iy, ivRS, eqSt_rs, B6, B7]
    subst hQ
    exact .inl ⟨rfl, hi, by simp [PT.get_put], by simp [PT.get_put], by simp [PT.get_put]⟩
  · obtain rfl : i = rs.length := by omega
    generalize hQ : (fun (e : Ex) (s' : St) => _) = Q'
    simp only [D.l21_0b]
    simp [h0, h1, h5, wl, B6, B7]
    subst hQ
    simp
end Go.Proofs.YtnpcgejfkonfdabGreatDoor.D

-- UL
set_option linter.unusedVariables false
set_option linter.unusedSimpArgs false
set_option maxHeartbeats 16000000
namespace Go.Proofs.YtnpcgejfkonfdabGreatDoor.D
open Go Go.PM Go.Lib

def rowL (e t : Int) (g : Bool) : HB := ⟨3, [[.imm (.int .i64 e), .imm (.int .i64 t), .imm (.bool g)]]⟩
theorem lease_new {d : Nat} {H : PT HB} {n lo : Nat} (hlo : lo ≤ n) : ∃ n' H', K DG (d + 1) 38 [] H n lo = some (.ptr n 0 0, H', n') ∧ n' = n + 1 ∧ H' = H.put n (some (rowL 0 0 false)) := by
  have key : Fe (K DG (d + 1) 38 [] H n lo) (fun v H' n' => v = .ptr n 0 0 ∧ n' = n + 1 ∧ H' = H.put n (some (rowL 0 0 false))) := by
    rw [D.k38]
    refine fn_dw rfl ?_
    simp [hlo, rowL, evParts, lay, unImms, unImm, mapO, B6, B7]
  obtain ⟨v, H', n', e, rfl, r⟩ := key
  exact ⟨n', H', e, r⟩
theorem lease_grant {d : Nat} {H : PT HB} {n q : Nat} {e t : Int} {g : Bool} (h : H.get q = some (rowL e t g)) (e' k : Int) (h0 : 0 ≤ k) (h1 : k ≤ 1000000) :
    ∃ v H', K DG (d + 1) 41 [.ptr q 0 0, .imm (.int .i64 e'), .imm (.int .i64 k)] H n 0 = some (v, H', n) ∧ H'.get q = some (rowL e' (k + 5) true) ∧ ∀ j, j ≠ q → H'.get j = H.get j := by
  have w1 : IntKind.i64.wrap (k + 8) = k + 8 := wr_id (by omega) (by omega)
  have w2 : IntKind.i64.wrap (k + 8 - 3) = k + 8 - 3 := wr_id (by omega) (by omega)
  have w3 : IntKind.i64.wrap (k + 5) = k + 5 := wr_id (by omega) (by omega)
  have key : Fe (K DG (d + 1) 41 [.ptr q 0 0, .imm (.int .i64 e'), .imm (.int .i64 k)] H n 0) (fun v H' n' => n' = n ∧ H'.get q = some (rowL e' (k + 5) true) ∧ ∀ j, j ≠ q → H'.get j = H.get j) := by
    unfold rowL at h
    rw [D.k41]
    refine fn_dw rfl ?_
    simp (config := {contextual := true}) [h, w1, w2, w3, rowL, B6, B7]
    omega
  obtain ⟨v, H', n', e, rfl, r⟩ := key
  exact ⟨v, H', e, r⟩
theorem ro_of {K : Go.PM.Callee} {f : FuncId} {args : List DV} {H : PT HB} {n lo : Nat} {v : IV} (ho : DV.out.outs args = true) (h : Fe (K f args H n n) (fun v' H' n' => n ≤ n' ∧ v' = .imm v)) :
    ∃ m, callM K .ro f args H n lo = some ⟨.imm v, H, m, [.rA]⟩ ∧ n ≤ m := by
  obtain ⟨v', H', n', e, h1, rfl⟩ := h
  exact ⟨n', by rw [callM_ro, if_pos ho, e]; rfl, h1⟩
theorem lease_live {d : Nat} {H : PT HB} {n lo q : Nat} {e t : Int} {g : Bool} (h : H.get q = some (rowL e t g)) (k : Int) :
    ∃ m, callM (K DG (d + 1)) .ro 43 [.ptr q 0 0, .imm (.int .i64 k)] H n lo = some ⟨.imm (.bool (dec (g = true ∧ k < t))), H, m, [.rA]⟩ ∧ n ≤ m := by
  refine ro_of rfl ?_
  unfold rowL at h
  rw [D.k43]
  refine fn_dw rfl ?_
  cases g with
  | false =>
    have e1 : dec (false = true ∧ k < t) = false := dec_f (by simp)
    simp [h, e1, B6, B7]
  | true =>
    by_cases hk : k < t
    · have e1 : dec (true = true ∧ k < t) = true := dec_t ⟨rfl, hk⟩
      simp [h, e1, ilt_t hk, B6, B7]
      exact hk
    · have e1 : dec (true = true ∧ k < t) = false := dec_f (fun h => hk h.2)
      simp [h, e1, ilt_f (Int.not_lt.1 hk), B6, B7]
      omega
theorem lease_epoch {d : Nat} {H : PT HB} {n lo q : Nat} {e t : Int} {g : Bool} (h : H.get q = some (rowL e t g)) :
    ∃ m, callM (K DG (d + 1)) .ro 40 [.ptr q 0 0] H n lo = some ⟨.imm (.int .i64 e), H, m, [.rA]⟩ ∧ n ≤ m := by
  refine ro_of rfl ?_
  unfold rowL at h
  rw [D.k40]
  refine fn_dw rfl ?_
  simp [h, B6, B7]
/-! ### A unit -/
structure US where
  rs : List Rst
  ep : Int
  en : Int
  gr : Bool
  cp : Option (Int × Int × List Rst)
  mode : Int
  tick : Int
  count : Int
  left : Int
def CpAt (Z : Nat → Prop) (H : PT HB) (n : Nat) (bad : List Nat) (x : DV) : Option (Int × Int × List Rst) → Prop
  | none => x = .imm .nilp
  | some (e, c, qs) => ∃ m w, x = .ptr m 0 0 ∧ (m ∉ bad ∧ m < n ∧ Z m) ∧ H.get m = some ⟨3, [[.imm (.int .i64 e), .imm (.int .i64 c), .imm w]]⟩ ∧ Sl 4 w (qs.map ivRS)
def rowU (p q : Nat) (x : DV) (mode tick count left : Int) : HB := ⟨7, [[.ptr p 0 0, .ptr q 0 0, x, .imm (.int .i64 mode), .imm (.int .i64 tick), .imm (.int .i64 count), .imm (.int .i64 left)]]⟩
structure UAt (Z : Nat → Prop) (l : Lo) (H : PT HB) (n a p q : Nat) (own : List Nat) (x : DV) (u : US) : Prop where
  blk : H.get a = some (rowU p q x u.mode u.tick u.count u.left)
  lk : LkAt H p own l u.rs
  le : H.get q = some (rowL u.ep u.en u.gr)
  cp : CpAt Z H n (a :: p :: q :: own) x u.cp
  ap : a ≠ p
  aq : a ≠ q
  pq : p ≠ q
  ao : a ∉ own
  qo : q ∉ own
  lt : ∀ j ∈ a :: p :: q :: own, j < n ∧ Z j
def UI (Z : Nat → Prop) (l : Lo) (H : PT HB) (n a : Nat) (u : US) : Prop := ∃ p q own x, UAt Z l H n a p q own x u
theorem CpAt.mono {Z Z' : Nat → Prop} {H H' : PT HB} {n n' : Nat} {bad bad' : List Nat} {x : DV} {c : Option (Int × Int × List Rst)} (h : CpAt Z H n bad x c) (hn : n ≤ n') (hz : ∀ j, j < n → Z j → Z' j) (hb : ∀ j ∈ bad', j < n → j ∈ bad) (hf : ∀ j, j < n → Z j → j ∉ bad → H'.get j = H.get j) : CpAt Z' H' n' bad' x c := by
  rcases c with _ | ⟨e, c, qs⟩
  · exact h
  · obtain ⟨m, w, h1, ⟨h2, h3, h4⟩, h5, h6⟩ := h
    exact ⟨m, w, h1, ⟨fun h => h2 (hb m h h3), by omega, hz m h3 h4⟩, by rw [hf m h3 h4 h2]; exact h5, h6⟩
theorem UAt.mono {Z Z' : Nat → Prop} {l : Lo} {H H' : PT HB} {n n' a p q : Nat} {own : List Nat} {x : DV} {u : US} (h : UAt Z l H n a p q own x u) (hn : n ≤ n') (hz : ∀ j, j < n → Z j → Z' j) (hf : ∀ j, j < n → Z j → H'.get j = H.get j) : UAt Z' l H' n' a p q own x u := by
  obtain ⟨blk, lk, le, cp, ap, aq, pq, ao, qo, lt⟩ := h
  have hg : ∀ j ∈ a :: p :: q :: own, H'.get j = H.get j := fun j hj => hf j (lt j hj).1 (lt j hj).2
  refine ⟨by rw [hg a (by simp)]; exact blk, lk.mono fun i hi => hg i (by simp at hi ⊢; rcases hi with h | h <;> simp [h]), by rw [hg q (by simp)]; exact le, cp.mono hn hz (fun j hj _ => hj) (fun j h1 h2 _ => hf j h1 h2), ap, aq, pq, ao, qo, fun j hj => ⟨by have := (lt j hj).1; omega, hz j (lt j hj).1 (lt j hj).2⟩⟩
theorem UI.mono {Z Z' : Nat → Prop} {l : Lo} {H H' : PT HB} {n n' a : Nat} {u : US} (h : UI Z l H n a u) (hn : n ≤ n') (hz : ∀ j, j < n → Z j → Z' j) (hf : ∀ j, j < n → Z j → H'.get j = H.get j) : UI Z' l H' n' a u := by
  obtain ⟨p, q, own, x, h⟩ := h
  exact ⟨p, q, own, x, h.mono hn hz hf⟩
/-- the unit's block is written: another copy, other numbers -/
theorem UAt.upd {Z : Nat → Prop} {l : Lo} {H H' : PT HB} {n n' a p q : Nat} {own : List Nat} {x x' : DV} {u : US} (h : UAt Z l H n a p q own x u) (hn : n ≤ n') {c : Option (Int × Int × List Rst)} {m t k z : Int}
    (hb : H'.get a = some (rowU p q x' m t k z)) (hc : CpAt Z H' n' (a :: p :: q :: own) x' c) (hf : ∀ j, j ≠ a → j < n → H'.get j = H.get j) : UAt Z l H' n' a p q own x' ⟨u.rs, u.ep, u.en, u.gr, c, m, t, k, z⟩ := by
  obtain ⟨blk, lk, le, cp, ap, aq, pq, ao, qo, lt⟩ := h
  refine ⟨hb, lk.mono fun i hi => hf i ?_ ?_, by rw [hf q aq.symm (lt q (by simp)).1]; exact le, hc, ap, aq, pq, ao, qo, fun j hj => ⟨by have := (lt j hj).1; omega, (lt j hj).2⟩⟩
  · rcases List.mem_cons.1 hi with rfl | hi
    · exact ap.symm
    · exact fun e => ao (e ▸ hi)
  · exact (lt i (by simp at hi ⊢; rcases hi with h | h <;> simp [h])).1
/-- its lease is written -/
theorem UAt.updq {Z : Nat → Prop} {l : Lo} {H H' : PT HB} {n n' a p q : Nat} {own : List Nat} {x : DV} {u : US} (h : UAt Z l H n a p q own x u) (hn : n ≤ n') {e t : Int} {g : Bool}
    (hb : H'.get q = some (rowL e t g)) (hf : ∀ j, j ≠ q → j < n → H'.get j = H.get j) : UAt Z l H' n' a p q own x ⟨u.rs, e, t, g, u.cp, u.mode, u.tick, u.count, u.left⟩ := by
  obtain ⟨blk, lk, le, cp, ap, aq, pq, ao, qo, lt⟩ := h
  refine ⟨by rw [hf a aq (lt a (by simp)).1]; exact blk, lk.mono fun i hi => hf i ?_ ?_, hb, cp.mono hn (fun j _ h => h) (fun j hj _ => hj) (fun j h1 h2 h3 => hf j (fun e => h3 (by simp [e])) h1), ap, aq, pq, ao, qo, fun j hj => ⟨by have := (lt j hj).1; omega, (lt j hj).2⟩⟩
  · rcases List.mem_cons.1 hi with rfl | hi
    · exact pq
    · exact fun e => qo (e ▸ hi)
  · exact (lt i (by simp at hi ⊢; rcases hi with h | h <;> simp [h])).1
/-- its Lock stands otherwise -/
theorem UAt.lock {Z : Nat → Prop} {l : Lo} {H H' : PT HB} {n n' a p q : Nat} {own own' : List Nat} {x : DV} {u : US} (h : UAt Z l H n a p q own x u) (hz : ∀ j, n ≤ j → Z j) (hn : n ≤ n') {qs : List Rst}
    (hl : LkAt H' p own' l qs) (ho : ∀ j ∈ own', j ∈ own ∨ (n ≤ j ∧ j < n')) (hf : ∀ j, j ≠ p → j ∉ own → j < n → H'.get j = H.get j) : UAt Z l H' n' a p q own' x ⟨qs, u.ep, u.en, u.gr, u.cp, u.mode, u.tick, u.count, u.left⟩ := by
  obtain ⟨blk, lk, le, cp, ap, aq, pq, ao, qo, lt⟩ := h
  have la := (lt a (by simp)).1
  have lq := (lt q (by simp)).1
  refine ⟨by rw [hf a ap ao la]; exact blk, hl, by rw [hf q pq.symm qo lq]; exact le, cp.mono hn (fun j _ h => h) (fun j hj hlt => ?_) (fun j h1 h2 h3 => hf j (fun e => h3 (by simp [e])) (fun e => h3 (by simp [e])) h1), ap, aq, pq, fun e => ?_, fun e => ?_, fun j hj => ?_⟩
  · simp at hj ⊢
    rcases hj with h | h | h | h
    · simp [h]
    · simp [h]
    · simp [h]
    · rcases ho j h with h | h
      · simp [h]
      · omega
  · rcases ho a e with h | h
    · exact ao h
    · omega
  · rcases ho q e with h | h
    · exact qo h
    · omega
  · simp at hj
    rcases hj with rfl | rfl | rfl | hj
    · exact ⟨by have := (lt j (by simp)).1; omega, (lt j (by simp)).2⟩
    · exact ⟨by have := (lt j (by simp)).1; omega, (lt j (by simp)).2⟩
    · exact ⟨by have := (lt j (by simp)).1; omega, (lt j (by simp)).2⟩
    · rcases ho j hj with h | h
      · exact ⟨by have := (lt j (by simp [h])).1; omega, (lt j (by simp [h])).2⟩
      · exact ⟨by omega, hz _ h.1⟩
/-- what a call on a unit leaves -/
def UR (Z : Nat → Prop) (l : Lo) (H : PT HB) (n a : Nat) (u : US) (H' : PT HB) (n' : Nat) : Prop := n ≤ n' ∧ UI Z l H' n' a u ∧ ∀ j, j < n → ¬ Z j → H'.get j = H.get j
end Go.Proofs.YtnpcgejfkonfdabGreatDoor.D

-- UN
set_option linter.unusedVariables false
set_option linter.unusedSimpArgs false
set_option maxHeartbeats 16000000
namespace Go.Proofs.YtnpcgejfkonfdabGreatDoor.D
open Go Go.PM Go.Lib

theorem u_mode {Z : Nat → Prop} {l : Lo} {H : PT HB} {n a p q : Nat} {own : List Nat} {x : DV} {u : US} (h : UAt Z l H n a p q own x u) {d m lo : Nat} :
    ∃ k, callM (K DG (d + 1)) .ro 23 [.ptr a 0 0] H m lo = some ⟨.imm (.int .i64 u.mode), H, k, [.rA]⟩ ∧ m ≤ k := by
  have hb := h.blk
  unfold rowU at hb
  refine ro_of rfl ?_
  rw [D.k23]
  refine fn_dw rfl ?_
  simp [hb, B6, B7]
theorem u_count {Z : Nat → Prop} {l : Lo} {H : PT HB} {n a p q : Nat} {own : List Nat} {x : DV} {u : US} (h : UAt Z l H n a p q own x u) {d m lo : Nat} :
    ∃ k, callM (K DG (d + 1)) .ro 16 [.ptr a 0 0] H m lo = some ⟨.imm (.int .i64 u.count), H, k, [.rA]⟩ ∧ m ≤ k := by
  have hb := h.blk
  unfold rowU at hb
  refine ro_of rfl ?_
  rw [D.k16]
  refine fn_dw rfl ?_
  simp [hb, B6, B7]
def Wk (u : US) : Prop := u.mode = 3 ∨ u.mode = 4
theorem u_works {Z : Nat → Prop} {l : Lo} {H : PT HB} {n a p q : Nat} {own : List Nat} {x : DV} {u : US} (h : UAt Z l H n a p q own x u) {d m lo : Nat} :
    ∃ k, callM (K DG (d + 1)) .ro 39 [.ptr a 0 0] H m lo = some ⟨.imm (.bool (dec (Wk u))), H, k, [.rA]⟩ ∧ m ≤ k := by
  have hb := h.blk
  unfold rowU at hb
  refine ro_of rfl ?_
  rw [D.k39]
  refine fn_dw rfl ?_
  unfold Wk
  by_cases h3 : u.mode = 3
  · have e : dec (u.mode = 3 ∨ u.mode = 4) = true := dec_t (.inl h3)
    rw [e]
    rw [h3] at hb
    simp [hb, B6, B7]
  · by_cases h4 : u.mode = 4
    · have e : dec (u.mode = 3 ∨ u.mode = 4) = true := dec_t (.inr h4)
      rw [e]
      rw [h4] at hb
      simp [hb, B6, B7]
    · have e : dec (u.mode = 3 ∨ u.mode = 4) = false := dec_f (by simp [h3, h4])
      rw [e]
      simp [hb, h3, h4, B6, B7]
theorem u_routes {Z : Nat → Prop} {l : Lo} {H : PT HB} {n a p q : Nat} {own : List Nat} {x : DV} {u : US} (h : UAt Z l H n a p q own x u) (hl : u.rs.length ≤ 1000) {d m lo : Nat} (hd : 2 ≤ d) :
    ∃ w k, callM (K DG (d + 1)) .ro 15 [.ptr a 0 0] H m lo = some ⟨.imm w, H, k, [.rA]⟩ ∧ m ≤ k ∧ Sl 4 w (u.rs.map ivRS) := by
  obtain ⟨d, rfl⟩ : ∃ d', d = d' + 1 := ⟨d - 1, by omega⟩
  have hb := h.blk
  unfold rowU at hb
  obtain ⟨w, k, e, hk, hw⟩ := Routes_ro (d := d) (by omega) hl h.lk (n := m) (lo := m)
  have key : Fe (K DG (d + 1 + 1) 15 [.ptr a 0 0] H m m) (fun v' H' n' => m ≤ n' ∧ v' = .imm w) := by
    rw [D.k15]
    refine fn_dw rfl ?_
    have ws := hw.scal
    simp [hb, e, ws, B6, B7]
    omega
  obtain ⟨k', e', hk'⟩ := ro_of (lo := lo) rfl key
  exact ⟨w, k', e', hk', hw⟩
theorem UAt.set {d : Nat} (hd : 10 ≤ d) {Z : Nat → Prop} {l : Lo} {H : PT HB} {n a p q : Nat} {own : List Nat} {x : DV} {u : US} (ok : LoOk l) (is : ISL l) (h : UAt Z l H n a p q own x u) (hz : ∀ j, n ≤ j → Z j) {w : IV} {qs : List Rst} (hw : Sl 4 w (qs.map ivRS)) (hl : qs.length ≤ reachBytes) {m : Nat} (hm : n ≤ m) :
    ∃ H' n' own', K DG (d + 1) 58 [.ptr p 0 0, .imm w] H m 0 = some (.imm (.bool (dec (INV l qs))), H', n') ∧ m ≤ n' ∧ UAt Z l H' n' a p q own' x ⟨bif dec (INV l qs) then qs else u.rs, u.ep, u.en, u.gr, u.cp, u.mode, u.tick, u.count, u.left⟩ ∧ (∀ j, j ≠ p → j < m → H'.get j = H.get j) ∧ ∀ j ∈ own', j ∈ own ∨ m ≤ j := by
  have lt := h.lt
  have hp := lt p (by simp)
  obtain ⟨v, H', n', e, hn, rfl, fr, hc⟩ := Set_run hd ok is h.lk hw hl (n := m) (fun i hi => by
    have := (lt i (by simp at hi ⊢; rcases hi with h | h <;> simp [h])).1
    omega)
  rcases hc with ⟨iq, own', lk', ho⟩ | ⟨niq, lk'⟩
  · refine ⟨H', n', own', e, hn, ?_, fr, fun j hj => .inr (ho j hj).1⟩
    rw [dec_t iq]
    exact h.lock hz (by omega) lk' (fun j hj => .inr ⟨by have := ho j hj; omega, (ho j hj).2⟩) (fun j h1 h2 h3 => fr j h1 (by omega))
  · refine ⟨H', n', own, e, hn, ?_, fr, fun j hj => .inl hj⟩
    rw [dec_f niq]
    exact h.lock hz (by omega) lk' (fun j hj => .inl hj) (fun j h1 h2 h3 => fr j h1 (by omega))
/-- all routes idle -/
def rep0 (l : Lo) : List Rst := List.replicate l.rts.length rs0
theorem resets_fn {d : Nat} (hd : 10 ≤ d) {Z : Nat → Prop} {l : Lo} {H : PT HB} {n a p q : Nat} {own : List Nat} {x : DV} {u : US} (ok : LoOk l) (is : ISL l) (h : UAt Z l H n a p q own x u) (hz : ∀ j, n ≤ j → Z j) :
    ∃ v H' n' own', K DG (d + 2) 73 [.ptr a 0 0] H n 0 = some (v, H', n') ∧ n ≤ n' ∧ UAt Z l H' n' a p q own' x ⟨rep0 l, u.ep, u.en, u.gr, u.cp, u.mode, u.tick, u.count, u.left⟩ ∧ ∀ j, j ≠ p → j < n → H'.get j = H.get j := by
  have hb := h.blk
  unfold rowU at hb
  have hrl : u.rs.length = l.rts.length := by obtain ⟨_, _, _, _, h⟩ := h.lk; exact h
  have r6 := is.r2
  obtain ⟨w, k, e1, hk, hw⟩ := Routes_ro (d := d) (by omega) (by omega) h.lk (n := n) (lo := 0)
  have wl := hw.len
  simp only [List.length_map, hrl] at wl
  have ws := hw.scal
  have a1 : l.rts.length ≤ appMax := by unfold appMax; omega
  have a2 : l.rts.length * 32 ≤ appMax := by unfold appMax; omega
  obtain ⟨H', n', own', e2, hn, hu, fz, _⟩ := UAt.set (d := d) (by omega) ok is h hz (w := .lst true 4 (List.replicate l.rts.length [.int .i64 0, .int .i64 0, .int .i64 0, .bool false])) (qs := rep0 l) (.inr ⟨true, by simp [rep0, ivRS]⟩) (by simp [rep0]; have := rb3; omega) hk
  rw [dec_t (show INV l (rep0 l) from INV.new)] at hu e2
  have key : Fe (K DG (d + 1 + 1) 73 [.ptr a 0 0] H n 0) (fun v H2 n2 => H2 = H' ∧ n2 = n') := by
    rw [D.k73]
    refine fn_dw rfl ?_
    simp [hb, e1, wl, ws, a1, a2, e2, B6, B7]
  obtain ⟨v, H2, n2, e, h1, h2⟩ := key
  rw [h1, h2] at e
  exact ⟨v, H', n', own', e, by omega, hu, fun j h1 h2 => fz j h1 (by omega)⟩
end Go.Proofs.YtnpcgejfkonfdabGreatDoor.D

-- UT
set_option linter.unusedVariables false
set_option linter.unusedSimpArgs false
set_option maxHeartbeats 16000000
namespace Go.Proofs.YtnpcgejfkonfdabGreatDoor.D
open Go Go.PM Go.Lib

theorem UAt.xs {Z : Nat → Prop} {l : Lo} {H : PT HB} {n a p q : Nat} {own : List Nat} {x : DV} {u : US} (h : UAt Z l H n a p q own x u) : x.scal = true ∧ x.out = true := by
  have := h.cp
  cases hc : u.cp with
  | none => rw [hc] at this; rw [show x = .imm .nilp from this]; exact ⟨rfl, rfl⟩
  | some c => rw [hc] at this; obtain ⟨m, w, rfl, _⟩ := this; exact ⟨rfl, rfl⟩
/-- the unit's block is written: other numbers -/
theorem UAt.num {Z : Nat → Prop} {l : Lo} {H : PT HB} {n a p q : Nat} {own : List Nat} {x : DV} {u : US} (h : UAt Z l H n a p q own x u) (m t k z : Int) :
    UAt Z l (H.put a (some ⟨7, [[.ptr p 0 0, .ptr q 0 0, x, .imm (.int .i64 m), .imm (.int .i64 t), .imm (.int .i64 k), .imm (.int .i64 z)]]⟩)) n a p q own x ⟨u.rs, u.ep, u.en, u.gr, u.cp, m, t, k, z⟩ := by
  have f : ∀ j, j ≠ a → (H.put a (some ⟨7, [[.ptr p 0 0, .ptr q 0 0, x, .imm (.int .i64 m), .imm (.int .i64 t), .imm (.int .i64 k), .imm (.int .i64 z)]]⟩)).get j = H.get j := fun j hj => by simp [PT.get_put, hj]
  exact h.upd (Nat.le_refl _) (by simp [PT.get_put, rowU]) (h.cp.mono (Nat.le_refl _) (fun _ _ h => h) (fun _ h _ => h) fun j _ _ hj => f j (fun e => hj (by simp [e]))) (fun j hj _ => f j hj)
noncomputable def begF (l : Lo) (u : US) (e k : Int) : US := match u.cp with
  | some (e', c, qs) => if u.mode = 2 ∧ e' = e - 1 ∧ k ≤ c then ⟨qs, u.ep, u.en, u.gr, u.cp, 3, u.tick, c, u.left⟩ else ⟨rep0 l, u.ep, u.en, u.gr, u.cp, 4, u.tick, k, 10⟩
  | none => ⟨rep0 l, u.ep, u.en, u.gr, u.cp, 4, u.tick, k, 10⟩
/-- the copy may stand so -/
def CpOk (l : Lo) (u : US) : Prop := ∀ e c qs, u.cp = some (e, c, qs) → INV l qs
theorem begins_fn {d : Nat} (hd : 10 ≤ d) {Z : Nat → Prop} {l : Lo} {H : PT HB} {n a p q : Nat} {own : List Nat} {x : DV} {u : US} (ok : LoOk l) (is : ISL l) (h : UAt Z l H n a p q own x u) (hz : ∀ j, n ≤ j → Z j) (co : CpOk l u) {e k : Int} (he : 0 ≤ e ∧ e ≤ 1099511627776) :
    ∃ v H' n' own', K DG (d + 3) 42 [.ptr a 0 0, .imm (.int .i64 e), .imm (.int .i64 k)] H n 0 = some (v, H', n') ∧ n ≤ n' ∧ UAt Z l H' n' a p q own' x (begF l u e k) ∧ ∀ j, j < n → ¬ Z j → H'.get j = H.get j := by
  have hb := h.blk
  have xs := h.xs.1
  have la := h.lt a (by simp)
  have lp := h.lt p (by simp)
  unfold rowU at hb
  have w1 : IntKind.i64.wrap (e - 1) = e - 1 := wr_id (by omega) (by omega)
  obtain ⟨v3, H3, n3, own3, e3, hn3, hu3, fz3⟩ := resets_fn (d := d) hd ok is h hz
  have hb3 := hu3.blk
  unfold rowU at hb3
  have hF := hu3.num 4 u.tick k 10
  have fF : ∀ j, j < n → ¬ Z j → (H3.put a (some ⟨7, [[.ptr p 0 0, .ptr q 0 0, x, .imm (.int .i64 4), .imm (.int .i64 u.tick), .imm (.int .i64 k), .imm (.int .i64 10)]]⟩)).get j = H.get j := fun j hj hzj => by
    have : ¬ j = a := fun e => hzj (e ▸ la.2)
    simp [PT.get_put, this]
    exact fz3 j (fun e => hzj (e ▸ lp.2)) hj
  have up : ∀ {H' n' own'} {w : US}, Fe (K DG (d + 2 + 1) 42 [.ptr a 0 0, .imm (.int .i64 e), .imm (.int .i64 k)] H n 0) (fun _ H2 n2 => n2 = n' ∧ ∀ j, H2.get j = H'.get j) → n ≤ n' → UAt Z l H' n' a p q own' x w → (∀ j, j < n → ¬ Z j → H'.get j = H.get j) → ∃ v H' n' own', K DG (d + 3) 42 [.ptr a 0 0, .imm (.int .i64 e), .imm (.int .i64 k)] H n 0 = some (v, H', n') ∧ n ≤ n' ∧ UAt Z l H' n' a p q own' x w ∧ ∀ j, j < n → ¬ Z j → H'.get j = H.get j := by
    rintro H' n' own' w ⟨v, H2, n2, e, rfl, r⟩ hn hu hf
    exact ⟨v, H2, n2, own', e, hn, hu.mono (Nat.le_refl _) (fun _ _ h => h) (fun j _ _ => r j), fun j h1 h2 => by rw [r j]; exact hf j h1 h2⟩
  have frc : begF l u e k = ⟨rep0 l, u.ep, u.en, u.gr, u.cp, 4, u.tick, k, 10⟩ → Fe (K DG (d + 2 + 1) 42 [.ptr a 0 0, .imm (.int .i64 e), .imm (.int .i64 k)] H n 0) (fun _ H2 n2 => n2 = n3 ∧ ∀ j, H2.get j = (H3.put a (some ⟨7, [[.ptr p 0 0, .ptr q 0 0, x, .imm (.int .i64 4), .imm (.int .i64 u.tick), .imm (.int .i64 k), .imm (.int .i64 10)]]⟩)).get j) → ∃ v H' n' own', K DG (d + 3) 42 [.ptr a 0 0, .imm (.int .i64 e), .imm (.int .i64 k)] H n 0 = some (v, H', n') ∧ n ≤ n' ∧ UAt Z l H' n' a p q own' x (begF l u e k) ∧ ∀ j, j < n → ¬ Z j → H'.get j = H.get j := fun h1 h2 => by
    rw [h1]
    exact up h2 hn3 hF fF
  rw [D.k42] at frc up
  by_cases h2 : u.mode = 2
  · cases hc : u.cp with
    | none =>
      have hx : x = .imm .nilp := by have := h.cp; rw [hc] at this; exact this
      refine frc (by unfold begF; rw [hc]) ?_
      refine fn_dw rfl ?_
      rw [h2] at hb
      rw [hx] at hb hb3 ⊢
      simp [hb, e3, hb3, PT.get_put, B6, B7]
      intro j
      by_cases hj : j = a <;> simp [hj]
    | some c =>
      obtain ⟨e', c, qs⟩ := c
      have hx := h.cp
      rw [hc] at hx
      obtain ⟨m, w, rfl, ⟨m1, m2, m3⟩, hm, hw⟩ := hx
      have iq := co e' c qs hc
      have hql := iq.ln
      have r6 := is.r2
      obtain ⟨H4, n4, own4, e4, hn4, hu4, fz4, _⟩ := UAt.set (d := d + 1) (by omega) ok is h hz hw (by have := rb3; omega) (Nat.le_refl _)
      rw [dec_t iq] at e4 hu4
      have hb4 := hu4.blk
      unfold rowU at hb4
      have ws := hw.scal
      have hma : ¬ m = a := fun e => m1 (by simp [e])
      have hm4 : H4.get m = H.get m := fz4 m (fun e => m1 (by simp [e])) m2
      rw [hm] at hm4
      have iv1 : ¬ c < k → ILt c k = False := fun h => ilt_f (by omega)
      by_cases h5 : e' = e - 1
      · by_cases h6 : k ≤ c
        · have i0 : ILt c k = False := ilt_f h6
          have hG := hu4.num 3 u.tick c u.left
          have e9 : begF l u e k = ⟨qs, u.ep, u.en, u.gr, u.cp, 3, u.tick, c, u.left⟩ := by unfold begF; rw [hc]; exact if_pos ⟨h2, h5, h6⟩
          have fG : ∀ j, j < n → ¬ Z j → (H4.put a (some ⟨7, [[.ptr p 0 0, .ptr q 0 0, .ptr m 0 0, .imm (.int .i64 3), .imm (.int .i64 u.tick), .imm (.int .i64 c), .imm (.int .i64 u.left)]]⟩)).get j = H.get j := fun j hj hzj => by
            have : ¬ j = a := fun e => hzj (e ▸ la.2)
            simp [PT.get_put, this]
            exact fz4 j (fun e => hzj (e ▸ lp.2)) hj
          have fin := up (H' := H4.put a (some ⟨7, [[.ptr p 0 0, .ptr q 0 0, .ptr m 0 0, .imm (.int .i64 3), .imm (.int .i64 u.tick), .imm (.int .i64 c), .imm (.int .i64 u.left)]]⟩)) (n' := n4) (own' := own4) (w := begF l u e k)
          rw [e9] at fin ⊢
          refine fin ?_ hn4 hG fG
          refine fn_dw rfl ?_
          rw [h2] at hb hb4
          simp [hb, hm, hm4, hma, w1, h5, i0, ws, e4, hb4, PT.get_put, B6, B7]
          intro j
          by_cases hj : j = a <;> simp [hj]
        · have i0 : ILt c k = True := ilt_t (by omega)
          refine frc (by unfold begF; rw [hc]; exact if_neg (fun h => h6 h.2.2)) ?_
          refine fn_dw rfl ?_
          rw [h2] at hb hb3
          simp [hb, hm, hma, w1, h5, i0, ws, e3, hb3, PT.get_put, B6, B7]
          intro j
          by_cases hj : j = a <;> simp [hj]
      · refine frc (by unfold begF; rw [hc]; exact if_neg (fun h => h5 h.2.1)) ?_
        refine fn_dw rfl ?_
        rw [h2] at hb hb3
        simp [hb, hm, hma, w1, h5, ws, e3, hb3, PT.get_put, B6, B7]
        intro j
        by_cases hj : j = a <;> simp [hj]
  · refine frc (by unfold begF; split <;> simp [h2]) ?_
    refine fn_dw rfl ?_
    simp [hb, xs, h2, e3, hb3, PT.get_put, B6, B7]
    intro j
    by_cases hj : j = a <;> simp [hj]
def granted (u : US) (e : Int) : US := ⟨u.rs, e, u.tick + 5, true, u.cp, u.mode, u.tick, u.count, u.left⟩
def noCp (w : US) : US := ⟨w.rs, w.ep, w.en, w.gr, none, w.mode, w.tick, w.count, w.left⟩
open Classical in
noncomputable def grantF (l : Lo) (u : US) (e k : Int) : US :=
  if Wk u ∧ u.ep = e then granted u e
  else if Wk u ∨ u.mode = 2 then noCp (begF l (granted u e) e k)
  else u
end Go.Proofs.YtnpcgejfkonfdabGreatDoor.D

-- UG
set_option linter.unusedVariables false
set_option linter.unusedSimpArgs false
set_option maxHeartbeats 16000000
namespace Go.Proofs.YtnpcgejfkonfdabGreatDoor.D
open Go Go.PM Go.Lib

theorem grant_u {d : Nat} {Z : Nat → Prop} {l : Lo} {H : PT HB} {n a p q : Nat} {own : List Nat} {x : DV} {u : US} (h : UAt Z l H n a p q own x u) (t0 : 0 ≤ u.tick) (t1 : u.tick ≤ 1000000) (e : Int) {m : Nat} (hm : n ≤ m) :
    ∃ v H', K DG (d + 1) 41 [.ptr q 0 0, .imm (.int .i64 e), .imm (.int .i64 u.tick)] H m 0 = some (v, H', m) ∧ UAt Z l H' m a p q own x (granted u e) ∧ ∀ j, j < n → ¬ Z j → H'.get j = H.get j := by
  obtain ⟨v, H', e1, g, f⟩ := lease_grant (d := d) (n := m) h.le e u.tick t0 t1
  exact ⟨v, H', e1, h.updq hm g (fun j hj _ => f j hj), fun j _ hz => f j (fun e => hz (e ▸ (h.lt q (by simp)).2))⟩
theorem Granted_fn {d : Nat} (hd : 10 ≤ d) {Z : Nat → Prop} {l : Lo} {H : PT HB} {n a : Nat} {u : US} (ok : LoOk l) (is : ISL l) (h : UI Z l H n a u) (hz : ∀ j, n ≤ j → Z j) (co : CpOk l u) {e k : Int} (he : 0 ≤ e ∧ e ≤ 1099511627776) (t0 : 0 ≤ u.tick) (t1 : u.tick ≤ 1000000) :
    ∃ v H' n', K DG (d + 4) 12 [.ptr a 0 0, .imm (.int .i64 e), .imm (.int .i64 k)] H n 0 = some (v, H', n') ∧ UR Z l H n a (grantF l u e k) H' n' := by
  obtain ⟨p, q, own, x, h⟩ := h
  have hb := h.blk
  have xs := h.xs.1
  have la := h.lt a (by simp)
  simp only [rowU] at hb
  refine (fun (hq : Fe (K DG (d + 3 + 1) 12 [.ptr a 0 0, .imm (.int .i64 e), .imm (.int .i64 k)] H n 0) fun _ H' n' => UR Z l H n a (grantF l u e k) H' n') => by
    obtain ⟨v', H', n', e, r⟩ := hq
    exact ⟨v', H', n', e, r⟩) ?_
  -- a grant, and then begins
  have both : ∀ m, n ≤ m → ∃ v1 H1, K DG (d + 3) 41 [.ptr q 0 0, .imm (.int .i64 e), .imm (.int .i64 u.tick)] H m 0 = some (v1, H1, m) ∧ ∃ v2 H2 n2, K DG (d + 3) 42 [.ptr a 0 0, .imm (.int .i64 e), .imm (.int .i64 k)] H1 m 0 = some (v2, H2, n2) ∧
      ∃ x2 own2, H2.get a = some (rowU p q x2 (begF l (granted u e) e k).mode (begF l (granted u e) e k).tick (begF l (granted u e) e k).count (begF l (granted u e) e k).left) ∧ x2.scal = true ∧
      UR Z l H n a (noCp (begF l (granted u e) e k)) (H2.put a (some (rowU p q (.imm .nilp) (begF l (granted u e) e k).mode (begF l (granted u e) e k).tick (begF l (granted u e) e k).count (begF l (granted u e) e k).left))) n2 := fun m hm => by
    obtain ⟨v1, H1, e1, h1, f1⟩ := grant_u (d := d + 2) h t0 t1 e hm
    obtain ⟨v2, H2, n2, own2, e2, hn2, h2, f2⟩ := begins_fn (d := d) hd ok is h1 (fun j hj => hz j (by omega)) co he (k := k)
    refine ⟨v1, H1, e1, v2, H2, n2, e2, x, own2, h2.blk, xs, by omega, ⟨p, q, own2, .imm .nilp, ?_⟩, fun j hj hzj => ?_⟩
    · generalize begF l (granted u e) e k = w at *
      have := h2.upd (Nat.le_refl _) (H' := H2.put a (some (rowU p q (.imm .nilp) w.mode w.tick w.count w.left))) (c := none) (x' := .imm .nilp) (m := w.mode) (t := w.tick) (k := w.count) (z := w.left) (by simp [PT.get_put]) rfl (fun j hj _ => by simp [PT.get_put, hj])
      exact this
    · have : ¬ j = a := fun e => hzj (e ▸ la.2)
      simp [PT.get_put, this]
      rw [f2 j (by omega) hzj, f1 j hj hzj]
  rw [D.k12]
  refine fn_dw rfl ?_
  unfold grantF
  obtain ⟨k1, e1, hk1⟩ := u_works h (d := d + 2) (m := n) (lo := 0)
  by_cases wk : Wk u
  · rw [dec_t wk] at e1
    obtain ⟨k2, e2, hk2⟩ := lease_epoch h.le (d := d + 2) (n := k1) (lo := 0)
    by_cases hp : u.ep = e
    · rw [if_pos ⟨wk, hp⟩]
      obtain ⟨v3, H3, e3, h3, f3⟩ := grant_u (d := d + 2) h t0 t1 e (m := k2) (by omega)
      simp [hb, xs, e1, e2, hp, e3, B6, B7]
      exact ⟨by omega, ⟨p, q, own, x, h3⟩, f3⟩
    · rw [if_neg (fun h => hp h.2), if_pos (.inl wk)]
      obtain ⟨k3, e3, hk3⟩ := u_works h (d := d + 2) (m := k2) (lo := 0)
      rw [dec_t wk] at e3
      obtain ⟨v4, H4, e4, v5, H5, n5, e5, x5, own5, b5, s5, fin⟩ := both k3 (by omega)
      generalize begF l (granted u e) e k = w at *
      simp only [rowU] at b5 fin
      simp [hb, xs, e1, e2, hp, e3, e4, e5, b5, s5, B6, B7]
      exact fin
  · rw [dec_f wk] at e1
    rw [if_neg (fun h => wk h.1)]
    obtain ⟨k3, e3, hk3⟩ := u_works h (d := d + 2) (m := k1) (lo := 0)
    rw [dec_f wk] at e3
    by_cases h2 : u.mode = 2
    · rw [if_pos (.inr h2)]
      obtain ⟨v4, H4, e4, v5, H5, n5, e5, x5, own5, b5, s5, fin⟩ := both k3 (by omega)
      generalize begF l (granted u e) e k = w at *
      simp only [rowU] at b5 fin
      simp [hb, xs, e1, e3, h2, e4, e5, b5, s5, B6, B7]
      exact fin
    · rw [if_neg (by simp [wk, h2])]
      simp [hb, xs, e1, e3, h2, B6, B7]
      exact ⟨by omega, ⟨p, q, own, x, h.mono (by omega) (fun _ _ h => h) fun _ _ _ => rfl⟩, fun _ _ _ => rfl⟩
def OldP (u : US) (e c : Int) : Prop := ∃ e' c' qs, u.cp = some (e', c', qs) ∧ (e < e' ∨ (e = e' ∧ c ≤ c'))
theorem isOld_ro {Z : Nat → Prop} {l : Lo} {H : PT HB} {n a p q : Nat} {own : List Nat} {x : DV} {u : US} (h : UAt Z l H n a p q own x u) (e c : Int) {w : IV} (hw : (DV.imm w).scal = true) {d m lo : Nat} (hm : n ≤ m) :
    ∃ k, callM (K DG (d + 1)) .ro 57 [.ptr a 0 0, .agg [.imm (.int .i64 e), .imm (.int .i64 c), .imm w]] H m lo = some ⟨.imm (.bool (dec (OldP u e c))), H, k, [.rA]⟩ ∧ m ≤ k := by
  have hb := h.blk
  simp only [rowU] at hb
  refine ro_of rfl ?_
  rw [D.k57]
  refine fn_dw rfl ?_
  have hx := h.cp
  cases hc : u.cp with
  | none =>
    rw [hc] at hx
    rw [show x = .imm .nilp from hx] at hb
    have e1 : dec (OldP u e c) = false := dec_f (fun ⟨_, _, _, h, _⟩ => by rw [hc] at h; cases h)
    rw [e1]
    simp [hb, hw, B6, B7]
  | some y =>
    obtain ⟨e', c', qs⟩ := y
    rw [hc] at hx
    obtain ⟨k, w', rfl, ⟨m1, m2, m3⟩, hk, hw'⟩ := hx
    by_cases h1 : e < e'
    · have e1 : dec (OldP u e c) = true := dec_t ⟨e', c', qs, hc, .inl h1⟩
      rw [e1]
      simp [hb, hw, hk, ilt_t h1, B6, B7]
    · by_cases h2 : e = e'
      · by_cases h3 : c ≤ c'
        · have e1 : dec (OldP u e c) = true := dec_t ⟨e', c', qs, hc, .inr ⟨h2, h3⟩⟩
          rw [e1]
          subst h2
          simp [hb, hw, hk, ilt_f (Int.not_lt.1 h1), ilt_f h3, B6, B7]
        · have e1 : dec (OldP u e c) = false := dec_f (fun ⟨_, _, _, h, h'⟩ => by rw [hc] at h; cases h; omega)
          rw [e1]
          subst h2
          simp [hb, hw, hk, ilt_f (Int.not_lt.1 h1), ilt_t (show c' < c by omega), B6, B7]
      · have e1 : dec (OldP u e c) = false := dec_f (fun ⟨_, _, _, h, h'⟩ => by rw [hc] at h; cases h; omega)
        rw [e1]
        simp [hb, hw, hk, ilt_f (Int.not_lt.1 h1), h2, B6, B7]
end Go.Proofs.YtnpcgejfkonfdabGreatDoor.D

-- UH
set_option linter.unusedVariables false
set_option linter.unusedSimpArgs false
set_option maxHeartbeats 16000000
namespace Go.Proofs.YtnpcgejfkonfdabGreatDoor.D
open Go Go.PM Go.Lib

def newU (l : Lo) : US := ⟨rep0 l, 0, 0, false, none, 2, 0, 0, 0⟩
theorem New_of {d : Nat} (hd : 2 ≤ d) {Z : Nat → Prop} {l : Lo} (ok : LoOk l) (is : ISL l) (e0 : bl (K DG d) 77 [l.dv] = some (.imm (.bool true))) (H : PT HB) (n : Nat) (hz : ∀ j, n ≤ j → Z j) :
    ∃ a l' H' n', K DG (d + 2) 10 [l.dv] H n 0 = some (.tup [.ptr a 0 0, .imm (.int .i64 0)], H', n') ∧ n ≤ n' ∧ LoOk l' ∧ LoEq l l' ∧ UI Z l' H' n' a (newU l') ∧ (n ≤ a ∧ a < n') ∧ ∀ j, j < n → H'.get j = H.get j := by
  obtain ⟨v1, H1, n1, e1, p, own, l', rfl, ok', eq, lk, ho, f1⟩ := LockNew_of (d := d) hd ok is e0 H (n + 1)
  obtain ⟨n2, H2, e2, rfl, f2⟩ := lease_new (d := d) (H := H1) (n := n1) (lo := 0) (by omega)
  have hp := ho p (by simp)
  have hn1 : n + 1 ≤ n1 := by omega
  have key : Fe (K DG (d + 1 + 1) 10 [l.dv] H n 0) (fun v H' n' => v = .tup [.ptr (n1 + 1) 0 0, .imm (.int .i64 0)] ∧ n' = n1 + 2 ∧ H' = H2.put (n1 + 1) (some (rowU p n1 (.imm .nilp) 2 0 0 0))) := by
    rw [D.k10]
    refine fn_dw rfl ?_
    simp [ok.s.scal, ok.p.scal, ok.g.scal, ok.r.scal, e1, e2, rowU, evParts, lay, unImms, unImm, mapO, B6, B7]
  obtain ⟨v, H', n', e, rfl, rfl, rfl⟩ := key
  refine ⟨n1 + 1, l', _, _, e, by omega, ok', eq, ⟨p, n1, own, .imm .nilp, ?_⟩, by omega, fun j hj => ?_⟩
  · have hl : rep0 l' = List.replicate l.rts.length rs0 := by unfold rep0; rw [eq.len]
    have hg : ∀ j, j < n1 → (H2.put (n1 + 1) (some (rowU p n1 (.imm .nilp) 2 0 0 0))).get j = H1.get j := fun j hj => by
      have b1 : ¬ j = n1 := by omega
      have b2 : ¬ j = n1 + 1 := by omega
      rw [f2]
      simp [PT.get_put, b1, b2]
    refine ⟨by simp [PT.get_put, newU], ?_, by rw [f2]; simp [PT.get_put, newU], rfl, by omega, by omega, by omega, fun h => by have := ho (n1 + 1) (by simp [h]); omega, fun h => by have := ho n1 (by simp [h]); omega, fun j hj => ?_⟩
    · show LkAt _ p own l' (rep0 l')
      rw [hl]
      exact lk.mono fun i hi => hg i (ho i hi).2
    · simp at hj
      rcases hj with rfl | rfl | rfl | hj
      · exact ⟨by omega, hz _ (by omega)⟩
      · exact ⟨by omega, hz _ (by omega)⟩
      · exact ⟨by omega, hz _ (by omega)⟩
      · have := ho j (by simp [hj])
        exact ⟨by omega, hz _ (by omega)⟩
  · have b1 : ¬ j = n1 := by omega
    have b2 : ¬ j = n1 + 1 := by omega
    rw [f2]
    simp [PT.get_put, b1, b2]
    exact f1 j (by omega)
theorem layT_ok (e c : Int) {rs : List Rst} (hl : rs.length ≤ 20) : (layT e c rs).length ≤ 100 ∧ (∀ t ∈ layT e c rs, (thB t).length ≤ 300) ∧ (∀ t ∈ layT e c rs, thOk t = true) ∧ (bodyT (layT e c rs)).length ≤ 4000 := by
  have h1 : (layT e c rs).length ≤ 100 := by simp [layT, ofF_len]; omega
  have h2 : ∀ t ∈ layT e c rs, (thB t).length ≤ 9 := fun t ht => by
    simp only [layT, List.mem_cons, List.mem_map] at ht
    rcases ht with rfl | ⟨z, _, rfl⟩
    · decide
    · simp [thB, numY_len]
  refine ⟨h1, fun t ht => by have := h2 t ht; omega, fun t ht => ?_, ?_⟩
  · simp only [layT, List.mem_cons, List.mem_map] at ht
    rcases ht with rfl | ⟨z, _, rfl⟩ <;> rfl
  · have : (thsB (layT e c rs)).length ≤ 9 * (layT e c rs).length := by
      generalize layT e c rs = ts at h2
      clear h1
      induction ts with
      | nil => simp [thsB]
      | cons t ts ih =>
        have q1 := h2 t (by simp)
        have q2 := ih fun u hu => h2 u (by simp [hu])
        simp only [thsB, List.flatMap_cons, List.length_append, List.length_cons] at *
        omega
    simp only [bodyT, List.length_cons]
    omega
/-- what a unit tells the other one -/
noncomputable def sendF (u : US) : List UInt8 := if u.mode = 3 then teleg (bodyT (layT u.ep u.count u.rs)) else []
theorem Send_ro {Z : Nat → Prop} {l : Lo} {H : PT HB} {n a p q : Nat} {own : List Nat} {x : DV} {u : US} (h : UAt Z l H n a p q own x u) (hl : u.rs.length ≤ 20) {d m lo : Nat} (hm : n ≤ m) :
    ∃ w k, callM (K DG (d + 6)) .ro 19 [.ptr a 0 0] H m lo = some ⟨.imm w, H, k, [.rA]⟩ ∧ m ≤ k ∧ Sl 1 w ((sendF u).map ivY) := by
  have hb := h.blk
  simp only [rowU] at hb
  have xs := h.xs.1
  unfold sendF
  by_cases h3 : u.mode = 3
  · rw [if_pos h3]
    obtain ⟨k1, e1, hk1⟩ := lease_epoch h.le (d := d + 4) (n := m) (lo := m)
    obtain ⟨w2, k2, e2, hk2, hw2⟩ := Routes_ro (d := d + 4) (by omega) (show u.rs.length ≤ 1000 by omega) h.lk (n := k1) (lo := m)
    obtain ⟨H3, n3, e3, hn3, hc3, f3⟩ := Lay_fn (d := d + 2) (H := H) (n := k2) (lo := m) (by omega) hw2 hl u.ep u.count
    obtain ⟨l1, l2, l3, l4⟩ := layT_ok u.ep u.count hl
    have hc3' : CrAt H3 0 n3 k2 (layT u.ep u.count u.rs) := by
      obtain ⟨⟨q1, q2⟩, q3⟩ := hc3
      refine ⟨⟨Nat.zero_le _, q2⟩, ?_⟩
      rcases q3 with q3 | ⟨b, ⟨p1, p2⟩, p3⟩
      · exact .inl q3
      · exact .inr ⟨b, ⟨Nat.zero_le _, p2⟩, p3⟩
    obtain ⟨v4, H4, n4, e4, hn4, f4, hv4⟩ := Pack_fn (d := d) (lo := n3) (Nat.le_refl _) hc3' l1 l2
    rcases hv4 with ⟨no, _⟩ | ⟨_, y, rfl, hy⟩
    · exact absurd ⟨l3, l4⟩ no
    obtain ⟨g, hg⟩ := frz_y hy (teleg_ne _)
    have ec : callM (K DG (d + 5)) .ro 51 [.ptr k2 0 0] H3 n3 m = some ⟨.tup [.imm (.lst g 1 ((teleg (bodyT (layT u.ep u.count u.rs))).map ivY)), .imm (.int .i64 0)], H3, n4, [.rA]⟩ := by
      have e9 : frz H4.get n3 (.tup [y, .imm (.int .i64 0)]) = some (.tup [.imm (.lst g 1 ((teleg (bodyT (layT u.ep u.count u.rs))).map ivY)), .imm (.int .i64 0)]) := by
        simp [frz, frz.frzs, hg]
      rw [callM_ro, if_pos (by rfl), e4]
      simp only [e9]
      rfl
    have w2s := hw2.scal
    have key : Fe (K DG (d + 5 + 1) 19 [.ptr a 0 0] H m m) (fun v' H' n' => m ≤ n' ∧ v' = .imm (.lst g 1 ((teleg (bodyT (layT u.ep u.count u.rs))).map ivY))) := by
      generalize (teleg (bodyT (layT u.ep u.count u.rs))).map ivY = es at *
      rw [D.k19]
      refine fn_dw rfl ?_
      rw [h3] at hb
      simp [hb, xs, e1, e2, w2s, e3, ec, B6, B7]
      omega
    obtain ⟨k, e, hk⟩ := ro_of (lo := lo) (by rfl) key
    exact ⟨_, k, e, hk, .inr ⟨g, rfl⟩⟩
  · rw [if_neg h3]
    have key : Fe (K DG (d + 5 + 1) 19 [.ptr a 0 0] H m m) (fun v' H' n' => m ≤ n' ∧ v' = .imm .nils) := by
      rw [D.k19]
      refine fn_dw rfl ?_
      simp [hb, xs, h3, B6, B7]
    obtain ⟨k, e, hk⟩ := ro_of (lo := lo) (by rfl) key
    exact ⟨_, k, e, hk, .inl ⟨rfl, rfl⟩⟩
open Classical in
/-- a telegram that was heard -/
noncomputable def hearF (l : Lo) (u : US) (bs : List UInt8) : US := if u.mode ≠ 2 then u else match unF bs with
  | none => u
  | some ts => match readF ts with
    | none => u
    | some (e, c, qs) => if OldP u e c then u else if INV l qs then ⟨u.rs, u.ep, u.en, u.gr, some (e, c, qs), u.mode, u.tick, u.count, u.left⟩ else u
theorem Unpack_any {d : Nat} {H : PT HB} {n lo : Nat} {w : IV} {bs : List UInt8} (hlo : lo ≤ n) (hw : Sl 1 w (bs.map ivY)) (hb : bs.length ≤ 100000) :
    Fe (K DG (d + 6) 55 [.imm w] H n lo) (UnP H n bs) := by
  rcases hw with ⟨rfl, h⟩ | ⟨f, rfl⟩
  · obtain rfl : bs = [] := by simpa using h
    exact Unpack_nil
  · exact Unpack_fn hlo hb
theorem Hear_fn {d : Nat} {Z : Nat → Prop} {l : Lo} {H : PT HB} {n a : Nat} {u : US} (ok : LoOk l) (is : ISL l) (h : UI Z l H n a u) (hz : ∀ j, n ≤ j → Z j) (inv : INV l u.rs) {w : IV} {bs : List UInt8} (hw : Sl 1 w (bs.map ivY)) (hbl : bs.length ≤ 100000) :
    ∃ v H' n', K DG (d + 12) 22 [.ptr a 0 0, .imm w] H n 0 = some (v, H', n') ∧ UR Z l H n a (hearF l u bs) H' n' := by
  obtain ⟨p, q, own, x, h⟩ := h
  have hb := h.blk
  have xs := h.xs.1
  have ws := hw.scal
  have la := h.lt a (by simp)
  have lp := h.lt p (by simp)
  have r6 := is.r2
  have hrl := inv.ln
  simp only [rowU] at hb
  refine (fun (hq : Fe (K DG (d + 11 + 1) 22 [.ptr a 0 0, .imm w] H n 0) fun _ H' n' => UR Z l H n a (hearF l u bs) H' n') => by
    obtain ⟨v', H', n', e, r⟩ := hq
    exact ⟨v', H', n', e, r⟩) ?_
  rw [D.k22]
  refine fn_dw rfl ?_
  unfold hearF
  by_cases h2 : u.mode = 2
  · rw [if_neg (by simp [h2])]
    obtain ⟨v1, H1, n1, e1, hn1, f1, hv1⟩ := Unpack_any (d := d + 5) (H := H) (n := n) (lo := 0) (by omega) hw hbl
    have keep : ∀ H' n', n ≤ n' → (∀ j, j < n → H'.get j = H.get j) → UR Z l H n a u H' n' := fun H' n' hn hf => ⟨hn, ⟨p, q, own, x, h.mono hn (fun _ _ h => h) fun j hj _ => hf j hj⟩, fun j hj _ => hf j hj⟩
    have hb' := hb
    rw [h2] at hb
    rcases hv1 with ⟨hu, er, her, rfl⟩ | ⟨ts, c1, hu, rfl, hcr⟩
    · rw [hu]
      simp [hb, xs, ws, e1, her, B6, B7]
      exact keep _ _ (by omega) f1
    · rw [hu]
      simp only
      obtain ⟨tl, _⟩ := unF_can hu
      have hcr0 : CrAt H1 0 n1 c1 ts := by
        obtain ⟨⟨q1, q2⟩, q3⟩ := hcr
        refine ⟨⟨Nat.zero_le _, q2⟩, ?_⟩
        rcases q3 with q3 | ⟨b, ⟨p1, p2⟩, p3⟩
        · exact .inl q3
        · exact .inr ⟨b, ⟨Nat.zero_le _, p2⟩, p3⟩
      obtain ⟨v2, m, e2, hm, hv2⟩ := Read_ro (d := d + 7) (lo := 0) hcr0 tl
      rcases hv2 with ⟨hr, rfl⟩ | ⟨ep, ct, qs, lw, hr, rfl, hlw⟩
      · rw [hr]
        simp [hb, xs, ws, e1, e2, evParts, lay, unImms, unImm, mapO, B6, B7]
        exact keep _ _ (by omega) fun j hj => by
          have : ¬ j = m := by omega
          simp [PT.get_put, this]
          exact f1 j hj
      · rw [hr]
        simp only
        have lws := hlw.scal
        obtain ⟨HB, hHB⟩ : ∃ HB, HB = (H1.put m (some ⟨3, [[.imm (.int .i64 0), .imm (.int .i64 0), .imm .nils]]⟩)).put m (some ⟨3, [[.imm (.int .i64 ep), .imm (.int .i64 ct), .imm lw]]⟩) := ⟨_, rfl⟩
        have gm : HB.get m = some ⟨3, [[.imm (.int .i64 ep), .imm (.int .i64 ct), .imm lw]]⟩ := by rw [hHB]; simp [PT.get_put]
        have gB : ∀ j, j < n → HB.get j = H.get j := fun j hj => by
          have : ¬ j = m := by omega
          rw [hHB]
          simp [PT.get_put, this]
          exact f1 j hj
        have hB : UAt Z l HB (m + 1) a p q own x u := h.mono (by omega) (fun _ _ h => h) fun j hj _ => gB j hj
        have hbB := hB.blk
        simp only [rowU] at hbB
        rw [h2] at hbB
        obtain ⟨k3, e3, hk3⟩ := isOld_ro hB ep ct lws (d := d + 10) (m := m + 1) (lo := 0) (Nat.le_refl _)
        by_cases ho : OldP u ep ct
        · rw [if_pos ho]
          rw [dec_t ho] at e3
          simp [hb, xs, ws, lws, e1, e2, ← hHB, gm, hbB, e3, evParts, lay, unImms, unImm, mapO, B6, B7]
          exact keep _ _ (by omega) gB
        · rw [if_neg ho]
          rw [dec_f ho] at e3
          obtain ⟨w4, k4, e4, hk4, hw4⟩ := Routes_ro (d := d + 10) (by omega) (show u.rs.length ≤ 1000 by omega) hB.lk (n := k3) (lo := 0)
          have w4s := hw4.scal
          by_cases iq : INV l qs
          · rw [if_pos iq]
            have hql := iq.ln
            obtain ⟨H5, n5, own5, e5, hn5, hu5, f5, ho5⟩ := UAt.set (d := d + 10) (by omega) ok is hB (fun j hj => hz j (by omega)) hlw (by have := rb3; omega) (m := k4) (by omega)
            rw [dec_t iq] at e5 hu5
            have hb5 := hu5.blk
            simp only [rowU, cond_true] at hb5
            rw [h2] at hb5
            obtain ⟨H6, hH6⟩ : ∃ H6, H6 = H5.put a (some ⟨7, [[.ptr p 0 0, .ptr q 0 0, .ptr m 0 0, .imm (.int .i64 2), .imm (.int .i64 u.tick), .imm (.int .i64 u.count), .imm (.int .i64 u.left)]]⟩) := ⟨_, rfl⟩
            have ma : ¬ m = a := by omega
            have mp : ¬ m = p := by omega
            have mq : ¬ m = q := by have := h.lt q (by simp); omega
            have mo : m ∉ own5 := fun e => by
              rcases ho5 m e with h' | h'
              · have := (h.lt m (by simp [h'])).1; omega
              · omega
            have g6 : ∀ j, j ≠ a → H6.get j = H5.get j := fun j hj => by rw [hH6]; simp [PT.get_put, hj]
            have hu6 : UAt Z l H6 n5 a p q own5 (.ptr m 0 0) ⟨qs, u.ep, u.en, u.gr, some (ep, ct, qs), u.mode, u.tick, u.count, u.left⟩ := by
              have := hu5.upd (Nat.le_refl _) (H' := H6) (c := some (ep, ct, qs)) (x' := .ptr m 0 0) (m := u.mode) (t := u.tick) (k := u.count) (z := u.left) (by rw [hH6]; simp [PT.get_put, rowU, h2]) ⟨m, lw, rfl, ⟨by simp [ma, mp, mq, mo], by omega, hz m (by omega)⟩, by rw [g6 m ma, f5 m mp (by omega)]; exact gm, hlw⟩ (fun j hj _ => g6 j hj)
              exact this
            have hb6 := hu6.blk
            simp only [rowU] at hb6
            rw [h2] at hb6
            obtain ⟨H7, n7, own7, e7, hn7, hu7, f7, ho7⟩ := UAt.set (d := d + 10) (by omega) ok is hu6 (fun j hj => hz j (by omega)) hw4 (by have := rb3; omega) (m := n5) (Nat.le_refl _)
            rw [dec_t inv] at e7 hu7
            simp [hb, xs, ws, lws, w4s, e1, e2, ← hHB, gm, hbB, e3, e4, e5, hb5, ← hH6, hb6, e7, evParts, lay, unImms, unImm, mapO, B6, B7]
            exact ⟨by omega, ⟨p, q, own7, _, hu7⟩, fun j hj hzj => by
              have jp : j ≠ p := fun e => hzj (e ▸ lp.2)
              have ja : j ≠ a := fun e => hzj (e ▸ la.2)
              rw [f7 j jp (by omega), g6 j ja, f5 j jp (by omega), gB j hj]⟩
          · rw [if_neg iq]
            have hql : qs.length ≤ reachBytes := by
              have h9 : readF ts = some (ep, ct, qs) := hr
              unfold readF at h9
              split at h9
              · cases h9
              · rename_i zs hzs
                have z1 := intsF_len hzs
                split at h9
                · split at h9
                  · split at h9
                    · rename_i qs' hqs
                      split at h9
                      · cases h9
                        have z2 := tkF_len hqs
                        rw [List.length_drop] at z1 z2
                        have := rb3
                        omega
                      · cases h9
                    · cases h9
                  · cases h9
                · cases h9
            obtain ⟨H5, n5, own5, e5, hn5, hu5, f5, ho5⟩ := UAt.set (d := d + 10) (by omega) ok is hB (fun j hj => hz j (by omega)) hlw hql (m := k4) (by omega)
            rw [dec_f iq] at e5 hu5
            have hb5 := hu5.blk
            simp only [rowU, cond_false] at hb5
            rw [h2] at hb5
            obtain ⟨H7, n7, own7, e7, hn7, hu7, f7, ho7⟩ := UAt.set (d := d + 10) (by omega) ok is hu5 (fun j hj => hz j (by omega)) hw4 (by have := rb3; omega) (m := n5) (Nat.le_refl _)
            rw [dec_t inv] at e7 hu7
            simp [hb, xs, ws, lws, w4s, e1, e2, ← hHB, gm, hbB, e3, e4, e5, hb5, e7, evParts, lay, unImms, unImm, mapO, B6, B7]
            exact ⟨by omega, ⟨p, q, own7, _, hu7⟩, fun j hj hzj => by
              have jp : j ≠ p := fun e => hzj (e ▸ lp.2)
              rw [f7 j jp (by omega), f5 j jp (by omega), gB j hj]⟩
  · rw [if_pos h2]
    simp [hb, xs, ws, h2, B6, B7]
    exact ⟨Nat.le_refl _, ⟨p, q, own, x, h⟩, fun _ _ _ => rfl⟩
end Go.Proofs.YtnpcgejfkonfdabGreatDoor.D

-- RE
set_option linter.unusedVariables false
set_option linter.unusedSimpArgs false
set_option maxHeartbeats 16000000
namespace Go.Proofs.YtnpcgejfkonfdabGreatDoor.D
open Go Go.PM Go.Lib

theorem Pack8_ro {d : Nat} {H : PT HB} {n a lo : Nat} {ob : Option Nat} {ts : List Th} (hc : CrR H a ob ts) (ha : a < n) (hob : ∀ b, ob = some b → b < n) (hl : ts.length ≤ 100) (hts : ∀ t ∈ ts, (thB t).length ≤ 300) (hok : ∀ t ∈ ts, thOk t = true) (h4 : (bodyT ts).length ≤ 4000) :
    ∃ g m, callM (K DG (d + 3)) .ro 76 [.ptr a 0 0] H n lo = some ⟨.tup [.imm (.lst g 1 ((teleg (bodyT ts)).map ivY)), .imm (.int .i64 0)], H, m, [.rA]⟩ ∧ n ≤ m := by
  have key : Fe (K DG (d + 2 + 1) 76 [.ptr a 0 0] H n n) (fun v H' n' => n ≤ n' ∧ ∃ x, v = .tup [x, .imm (.int .i64 0)] ∧ Yw H' n n' x (teleg (bodyT ts))) := by
    obtain ⟨cx, hcx, hcl, hcs⟩ : ∃ cx, H.get a = some ⟨1, [[cx]]⟩ ∧ lenOf cx = some ts.length ∧ cx.scal = true := by
      rcases hc with ⟨h1, rfl, _⟩ | ⟨h1, _⟩ | ⟨b, hb, _, h1, h2⟩
      · exact ⟨_, h1, rfl, rfl⟩
      · exact ⟨_, h1, by simp [lenOf], rfl⟩
      · exact ⟨_, h1, by simp [lenOf], rfl⟩
    have w8 : IntKind.u8.wrap (ts.length : Int) = ((UInt8.ofNat ts.length).toNat : Int) := by
      rw [UInt8.toNat_ofNat']
      simp only [IntKind.wrap, IntKind.bits, IntKind.signed]
      simp
    rw [D.k76]
    refine fn_dw rfl ?_
    simp [hcx, hcl, hcs, w8, evParts2, lay, unImms, unImm, mapO, rowsN, B6, B7]
    refine loopPr (w := n) (H0 := H) (ts := ts) (Nat.le_refl _) hc ha hob hl hts hok ⟨by simp [PT.get_put], by simp [PT.get_put], ⟨.imm (.lst true 1 ((UInt8.ofNat ts.length :: thsB (ts.take 0)).map ivY)), by simp [PT.get_put]; exact ⟨rfl, rfl⟩, .inr (.inl rfl)⟩, fun _ _ => rfl, by simp⟩ (fun s' hI => ?_)
    obtain ⟨c0, c5, ⟨x, c4, hy⟩, fr, hn⟩ := hI
    rw [List.take_length] at hy
    have hbd : UInt8.ofNat ts.length :: thsB ts = bodyT ts := rfl
    rw [hbd] at hy
    have hbn : bodyT ts ≠ [] := by simp [bodyT]
    generalize bodyT ts = b at *
    have xs := hy.sc
    have xl := hy.len
    have i0 : ILt 4000 (b.length : Int) = False := ilt_f (by omega)
    have wl := wu64' (x := b.length) (by omega)
    have hcr := crcF_lt b
    have wc := wu64' (x := crcF b) (by omega)
    obtain ⟨y1, H1, n1, e1, hn1, hy1, ⟨i1, hi1, rfl⟩, f1⟩ := big_fn (d := d + 1) (H := s'.H) (n := s'.n) (lo := n) (w := n) (m := crcF b) (k := 4) (Nat.le_refl _) hn (by omega) (by omega) (by omega)
    have hi1' : i1 < n1 := by
      rcases hy1 with ⟨h, _⟩ | h | ⟨id, ⟨_, h2⟩, h, _⟩
      · cases h
      · cases h
      · cases h; exact h2
    obtain ⟨y2, H2, n2, e2, hn2, hy2, ⟨i2, hi2, rfl⟩, f2⟩ := big_fn (d := d + 1) (H := H1) (n := n1) (lo := n) (w := n) (m := b.length) (k := 2) (Nat.le_refl _) (by omega) (by omega) (by omega) (by omega)
    have e1' : K DG (d + 2) 117 [.imm (.int .u64 (crcF b : Int)), .imm (.int .i64 4)] s'.H s'.n n = some (.sl i1 0 4 4, H1, n1) := e1
    have e2' : K DG (d + 2) 117 [.imm (.int .u64 (b.length : Int)), .imm (.int .i64 2)] H1 n1 n = some (.sl i2 0 2 2, H2, n2) := e2
    have r2 : H2.get i2 = some ⟨1, (numY b.length 2).map rowY⟩ := by
      rcases hy2 with ⟨h, _⟩ | h | ⟨id, _, h, h2⟩
      · cases h
      · cases h
      · rw [numY_len] at h; cases h; exact h2
    have src2 := rows_y (id := i2) r2
    rw [numY_len] at src2
    have hy1' : Yw H2 n n2 (.sl i1 0 4 4) (numY (crcF b) 4) := by
      rcases hy1 with ⟨h, _⟩ | h | ⟨id, ⟨q1, q2⟩, h, h2⟩
      · cases h
      · cases h
      · exact .inr (.inr ⟨id, ⟨q1, by omega⟩, h, by rw [f2 id (by omega)]; exact h2⟩)
    obtain ⟨x3, hw3, n3, acc3, p1, p2, p3, p4, p5, p6, p7⟩ := app_y (H := H2) (n := n2) (lo := n) (w := n) (y := .sl i2 0 2 2) (cs := numY b.length 2) (Nat.le_refl _) (by omega) hy1' src2 (fun _ _ _ e => by cases e; simp; omega) (by simp [numY_len])
    have x3s := p3.sc
    rcases hy with ⟨rfl, h0⟩ | rfl | ⟨id, ⟨g1, g2⟩, rfl, g3⟩
    · exact absurd h0 hbn
    · have es := ref_bl (d := d + 1) (f := true) (bs := b) (by omega)
      obtain ⟨x4, hw4, n4, acc4, q1, q2, q3, q4, q5, q6, q7⟩ := app_y (H := putH H2 hw3) (n := n3) (lo := n) (w := n) (y := .imm (.lst true 1 (b.map ivY))) (cs := b) (Nat.le_refl _) (by omega) p3 (src := none) (by simp [srcOf, rowsOf, Function.comp_def, imms_ivY]) (fun _ _ _ => by simp) (by simp [numY_len]; omega)
      have x4s := q3.sc
      have x4o := q3.out
      generalize hes : b.map ivY = bes at *
      simp [c0, c4, c5, xs, xl, i0, es, wc, wl, e1', e2', p1, x3s, q1, x4s, x4o, B6, B7]
      exact ⟨by omega, by simpa [teleg] using q3⟩
    · have es := fun lo => call_ref (d := d + 1) (H := s'.H) (n := s'.n) (lo := lo) (id := id) (bs := b) (by omega) g3
      have f4 : (putH H2 hw3).get id = some ⟨1, b.map rowY⟩ := by
        rw [p5 id (by omega) (fun _ _ e => by cases e; omega), f2 id (by omega), f1 id (by omega)]
        exact g3
      have src4 := rows_y (id := id) f4
      obtain ⟨x4, hw4, n4, acc4, q1, q2, q3, q4, q5, q6, q7⟩ := app_y (H := putH H2 hw3) (n := n3) (lo := n) (w := n) (y := .sl id 0 b.length b.length) (cs := b) (Nat.le_refl _) (by omega) p3 src4 (fun jd _ _ e => by
        intro h
        cases h
        rcases p6 id _ _ e with ⟨h, _⟩ | h
        · cases h; omega
        · omega) (by simp [numY_len]; omega)
      have x4s := q3.sc
      have x4o := q3.out
      simp [c0, c4, c5, xs, xl, i0, es, wc, wl, e1', e2', p1, x3s, q1, x4s, x4o, B6, B7]
      exact ⟨by omega, by simpa [teleg] using q3⟩
  obtain ⟨v, H', n', e, hn, x, rfl, hx⟩ := key
  obtain ⟨g, hg⟩ := frz_y hx (teleg_ne _)
  refine ⟨g, n', ?_, hn⟩
  have e9 : frz H'.get n (.tup [x, .imm (.int .i64 0)]) = some (.tup [.imm (.lst g 1 ((teleg (bodyT ts)).map ivY)), .imm (.int .i64 0)]) := by
    simp [frz, frz.frzs, hg]
  rw [callM_ro, if_pos (by rfl), e]
  simp only [e9]
  rfl
/-- what a unit of that epoch, count and routes may tell -/
noncomputable def tel (e c : Int) (rs : List Rst) : List UInt8 := teleg (bodyT (layT e c rs))
end Go.Proofs.YtnpcgejfkonfdabGreatDoor.D

-- UC
set_option linter.unusedVariables false
set_option linter.unusedSimpArgs false
set_option maxHeartbeats 16000000
namespace Go.Proofs.YtnpcgejfkonfdabGreatDoor.D
open Go Go.PM Go.Lib

theorem UAt.cmd {d : Nat} (hd : 11 ≤ d) {Z : Nat → Prop} {l : Lo} {H : PT HB} {n a p q : Nat} {own : List Nat} {x : DV} {u : US} (ok : LoOk l) (is : ISL l) (h : UAt Z l H n a p q own x u) (hz : ∀ j, n ≤ j → Z j) (inv : INV l u.rs) {ov lv : IV} {os : List Bool} {ls : List Int} (io : InOk ov lv os ls) (c r : Int) {m : Nat} (hm : n ≤ m) :
    ∃ v H' n', K DG (d + 1) 79 [.ptr p 0 0, inD ov lv, .agg [.imm (.int .i64 c), .imm (.int .i64 r)]] H m 0 = some (v, H', n') ∧ m ≤ n' ∧ UAt Z l H' n' a p q own x ⟨(cmdF l u.rs os ls c r).2, u.ep, u.en, u.gr, u.cp, u.mode, u.tick, u.count, u.left⟩ ∧ ∀ j, j < n → ¬ Z j → H'.get j = H.get j := by
  obtain ⟨H', n', e, lk, hn, fr⟩ := Command_run hd ok is h.lk (go_of inv.ro) io c r (n := m)
  exact ⟨_, H', n', e, hn, h.lock hz (by omega) lk (fun j hj => .inl hj) (fun j _ h2 _ => fr j h2), fun j _ hzj => fr j (fun e => hzj ((h.lt j (by simp [e])).2))⟩
def OutAt (h : Nat → Option HB) (n0 n' : Nat) (x : DV) (es : List (List IV)) : Prop := (∃ w, x = .imm w ∧ Sl 1 w es) ∨ ∃ id, (n0 ≤ id ∧ id < n') ∧ x = .sl id 0 es.length es.length ∧ h id = some ⟨1, es.map imms⟩
def OutD (h : Nat → Option HB) (n0 n' : Nat) (v : DV) (ds : List Int) (ps : List Bool) : Prop := ∃ x y, v = .agg [x, y] ∧ OutAt h n0 n' x (ds.map ivI) ∧ OutAt h n0 n' y (ps.map ivB1)
theorem OutAt.scal {h : Nat → Option HB} {n0 n' : Nat} {x : DV} {es : List (List IV)} (a : OutAt h n0 n' x es) : x.scal = true ∧ x.out = true := by
  rcases a with ⟨w, rfl, hw⟩ | ⟨id, _, rfl, _⟩
  · exact ⟨hw.scal, rfl⟩
  · exact ⟨rfl, rfl⟩
def ivC (c : Int × Int) : List IV := [.int .i64 c.1, .int .i64 c.2]
noncomputable def cmdsF (l : Lo) (os : List Bool) (ls : List Int) (rs : List Rst) (cs : List (Int × Int)) : List Rst := cs.foldl (fun r c => (cmdF l r os ls c.1 c.2).2) rs
theorem cmdsF_succ {l : Lo} {os : List Bool} {ls : List Int} {rs : List Rst} {cs : List (Int × Int)} {i : Nat} (hi : i < cs.length) : cmdsF l os ls rs (cs.take (i + 1)) = (cmdF l (cmdsF l os ls rs (cs.take i)) os ls (nth cs i).1 (nth cs i).2).2 := by
  rw [List.take_add_one, List.getElem?_eq_getElem hi]
  unfold cmdsF
  rw [List.foldl_append]
  simp [nth, List.getD_eq_getElem?_getD, List.getElem?_eq_getElem hi]
theorem INV.cmds {l : Lo} {os : List Bool} {ls : List Int} : ∀ (cs : List (Int × Int)) {rs : List Rst}, INV l rs → INV l (cmdsF l os ls rs cs)
  | [], rs, h => h
  | c :: cs, rs, h => INV.cmds cs (rs := (cmdF l rs os ls c.1 c.2).2) h.cmd
def setR (u : US) (rs : List Rst) : US := ⟨rs, u.ep, u.en, u.gr, u.cp, u.mode, u.tick, u.count, u.left⟩
structure ICm (Z : Nat → Prop) (l : Lo) (os : List Bool) (ls : List Int) (H0 : PT HB) (n0 a p q : Nat) (own : List Nat) (x : DV) (u : US) (ov lv cv : IV) (cs : List (Int × Int)) (i : Nat) (st : St) : Prop where
  c0 : st.T.get 0 = some (.ptr a 0 0)
  c2 : st.T.get 2 = some (.imm (.bool true))
  b5 : Box st 5 [ov, lv]
  b8 : Box st 8 [.nils, .nils]
  c13 : st.T.get 13 = some (.imm cv)
  c14 : st.T.get 14 = some (.imm (.int .i64 (cs.length : Int)))
  c15 : st.T.get 15 = some (.imm (.int .i64 (i : Int)))
  u : UAt Z l st.H st.n a p q own x (setR u (cmdsF l os ls u.rs (cs.take i)))
  fr : ∀ j, j < n0 → ¬ Z j → st.H.get j = H0.get j
  hn : n0 ≤ st.n
theorem loopCm {d : Nat} (hd : 11 ≤ d) {Z : Nat → Prop} {l : Lo} {os : List Bool} {ls : List Int} {H0 : PT HB} {n0 a p q : Nat} {own : List Nat} {x : DV} {u : US} (ok : LoOk l) (is : ISL l) (hz : ∀ j, n0 ≤ j → Z j) (inv : INV l u.rs) {ov lv cv : IV} (io : InOk ov lv os ls) {cs : List (Int × Int)} (hc : Sl 2 cv (cs.map ivC)) (hcl : cs.length ≤ reachBytes)
    {st : St} (h : ICm Z l os ls H0 n0 a p q own x u ov lv cv cs 0 st) {ks : List Kf} {Q : Ex → St → Prop}
    (hk : ∀ s', ICm Z l os ls H0 n0 a p q own x u ov lv cv cs cs.length s' → Bk DG (K DG (d + 1)) 0 (.exit 0) ks s' Q) :
    Wp DG (K DG (d + 1)) 0 D.l45_0 ks st Q := by
  refine dw_loop (N := cs.length) (small hcl) (fun i st => ICm Z l os ls H0 n0 a p q own x u ov lv cv cs i st) (fun e s' => e = .exit 0 ∧ ICm Z l os ls H0 n0 a p q own x u ov lv cv cs cs.length s') (fun i st hle hI => ?_) h (fun e s' h => by
    obtain ⟨rfl, h⟩ := h
    exact hk s' h)
  obtain ⟨c0, c2, ⟨i5, b5, L5⟩, ⟨i8, b8, L8⟩, c13, c14, c15, hu, fr, hn⟩ := hI
  have hb := hu.blk
  simp only [rowU] at hb
  have cvs := hc.scal
  by_cases hi : i < cs.length
  · have hi1 : (i : Int) < cs.length := by omega
    have hi' := ilt_t hi1
    have hw8 : IntKind.i64.wrap ((i : Int) + 1) = (i : Int) + 1 := wr_succ hi hcl
    have ix := fun {h : Nat → Option HB} {n : Nat} => idx_sl (h := h) (n := n) hc (by omega) (k := .i64) (z := (i : Int)) (by omega) hi1
    simp only [Int.toNat_natCast] at ix
    obtain ⟨v, H', n', e, hn', hu', f'⟩ := hu.cmd hd ok is (fun j hj => hz j (by omega)) (INV.cmds _ inv) io (nth cs i).1 (nth cs i).2 (m := st.n + 1) (by omega)
    have hu2 : UAt Z l H' n' a p q own x (setR u (cmdsF l os ls u.rs (cs.take (i + 1)))) := by
      rw [cmdsF_succ hi]
      exact hu'
    have ovs := io.o.scal
    have lvs := io.l.scal
    generalize nth cs i = y at *
    obtain ⟨y1, y2⟩ := y
    simp only at e
    generalize hQ : (fun (e : Ex) (s' : St) => _) = Q'
    simp only [D.l45_0b]
    simp [c0, c2, b5, L5, b8, L8, c13, c14, c15, cvs, hi', hw8, ix, hb, e, ovs, lvs, ivC, imms, B6, B7]
    subst hQ
    exact .inl ⟨rfl, hi, by simp [PT.get_put], by simp [PT.get_put], ⟨i5, by simp [PT.get_put], by simp [PT.get_put, imms]⟩, ⟨i8, by simp [PT.get_put], by simp [PT.get_put, imms]⟩, by simp [PT.get_put], by simp [PT.get_put], by simp [PT.get_put], hu2, fun j hj hzj => (f' j (by omega) hzj).trans (fr j hj hzj), by simp; omega⟩
  · obtain rfl : i = cs.length := by omega
    generalize hQ : (fun (e : Ex) (s' : St) => _) = Q'
    simp only [D.l45_0b]
    simp [c0, c2, b5, L5, b8, L8, c13, c14, c15, cvs, B6, B7]
    subst hQ
    exact .inr ⟨nofun, rfl, by simp [PT.get_put, c0], by simp [PT.get_put, c2], ⟨i5, by simp [PT.get_put, b5], by simp [PT.get_put, L5, imms]⟩, ⟨i8, by simp [PT.get_put, b8], by simp [PT.get_put, L8, imms]⟩, by simp [PT.get_put, c13], by simp [PT.get_put, c14], by simp [PT.get_put, c15], hu, fr, hn⟩
noncomputable def cyF (l : Lo) (u : US) (os : List Bool) (ls : List Int) (conn : Bool) (cs : List (Int × Int)) : US × List Int × List Bool :=
  let r := cycF l (if conn then cmdsF l os ls u.rs cs else u.rs) os ls
  (setR u r.1, if conn then r.2.1 else List.replicate l.pts.length 0, if conn then r.2.2 else List.replicate l.sigs.length false)
theorem out_safe {h : Nat → Option HB} {n0 n' : Nat} (l : Lo) : OutD h n0 n' (safeV l) (List.replicate l.pts.length 0) (List.replicate l.sigs.length false) :=
  ⟨_, _, rfl, .inl ⟨_, rfl, .inr ⟨false, by simp [ivI]⟩⟩, .inl ⟨_, rfl, .inr ⟨false, by simp [ivB1]⟩⟩⟩
def CyP (Z : Nat → Prop) (l : Lo) (H : PT HB) (n a p q : Nat) (own : List Nat) (x : DV) (r : US × List Int × List Bool) (v : DV) (H' : PT HB) (n' : Nat) : Prop := n ≤ n' ∧ UAt Z l H' n' a p q own x r.1 ∧ (∀ j, j < n → ¬ Z j → H'.get j = H.get j) ∧ OutD H'.get n n' v r.2.1 r.2.2
theorem cycle_fn {d : Nat} (hd : 11 ≤ d) {Z : Nat → Prop} {l : Lo} {os : List Bool} {ls : List Int} {H : PT HB} {n a p q : Nat} {own : List Nat} {x : DV} {u : US} (ok : LoOk l) (is : ISL l) (h : UAt Z l H n a p q own x u) (hz : ∀ j, n ≤ j → Z j) (inv : INV l u.rs) {ov lv cv : IV} (io : InOk ov lv os ls) {cs : List (Int × Int)} (hc : Sl 2 cv (cs.map ivC)) (hcl : cs.length ≤ reachBytes) (conn : Bool) :
    Fe (K DG (d + 2) 45 [.ptr a 0 0, inD ov lv, .imm (.bool conn), .imm cv] H n 0) (CyP Z l H n a p q own x (cyF l u os ls conn cs)) := by
  rw [D.k45]
  refine fn_dw rfl ?_
  have ovs := io.o.scal
  have lvs := io.l.scal
  have cvs := hc.scal
  have cl := hc.len
  simp only [List.length_map] at cl
  have hp := h.lt p (by simp)
  -- the Lock's Cycle, from any state
  have cyc : ∀ {H1 : PT HB} {m1 m : Nat} {w : US}, UAt Z l H1 m1 a p q own x w → INV l w.rs → n ≤ m1 → m1 ≤ m → ∃ H' n', K DG (d + 1) 80 [.ptr p 0 0, inD ov lv] H1 m 0 = some (.agg [.sl (m + 2 + 1) 0 l.pts.length l.pts.length, .sl (m + 2 + 2) 0 l.sigs.length l.sigs.length], H', n') ∧ m + 5 ≤ n' ∧ (∀ j, j < m1 → ¬ Z j → H'.get j = H1.get j) ∧
      UAt Z l H' n' a p q own x (setR w (cycF l w.rs os ls).1) ∧ H'.get (m + 2 + 1) = some ⟨1, (cycF l w.rs os ls).2.1.map rowI⟩ ∧ H'.get (m + 2 + 2) = some ⟨1, (cycF l w.rs os ls).2.2.map rowB⟩ ∧ (cycF l w.rs os ls).2.1.length = l.pts.length ∧ (cycF l w.rs os ls).2.2.length = l.sigs.length := fun {H1 m1 m w} hw iw h1 h2 => by
    obtain ⟨H', n', e, hn, fr, lk, g1, g2, g3, g4⟩ := Cycle_all hd ok is hw.lk iw io (n := m) (fun i hi => by have := (hw.lt i (by simp at hi ⊢; rcases hi with h | h <;> simp [h])).1; omega)
    exact ⟨H', n', e, hn, fun j hj hzj => fr j (fun e => hzj ((hw.lt j (by simp [e])).2)) (by omega), hw.lock (fun j hj => hz j (by omega)) (by omega) lk (fun j hj => .inl hj) (fun j _ h2' h3 => fr j h2' (by omega)), g1, g2, g3, g4⟩
  cases conn with
  | false =>
    have hb := h.blk
    simp only [rowU] at hb
    obtain ⟨H', n', e, hn, fr, hu, g1, g2, g3, g4⟩ := cyc h inv (Nat.le_refl _) (m := n + 2) (by omega)
    have hb' := hu.blk
    simp only [rowU, setR] at hb'
    have es := Safe_ro (d := d) ok is.p2 is.g2 hu.lk (n := n' + 1) (lo := 0) (by have := (hu.lt p (by simp)).1; omega)
    simp [cvs, ovs, lvs, hb, e, hb', es, B6, B7]
    exact ⟨by omega, hu.mono (by omega) (fun _ _ h => h) (fun _ _ _ => rfl), fr, out_safe l⟩
  | true =>
    simp [cvs, ovs, lvs, cl, B6, B7]
    refine loopCm (H0 := H) (n0 := n) (u := u) hd ok is hz inv io hc hcl ⟨by simp [PT.get_put], by simp [PT.get_put], ⟨n, by simp [PT.get_put], by simp [PT.get_put, imms]⟩, ⟨n + 1, by simp [PT.get_put], by simp [PT.get_put, imms]⟩, by simp [PT.get_put], by simp [PT.get_put], by simp [PT.get_put], h.mono (by simp; omega) (fun _ _ h => h) (fun _ _ _ => rfl), fun _ _ _ => rfl, by simp; omega⟩ (fun s' hI => ?_)
    obtain ⟨c0, c2, ⟨i5, b5, L5⟩, ⟨i8, b8, L8⟩, c13, c14, c15, hu, fr, hn⟩ := hI
    rw [List.take_length] at hu
    have hb := hu.blk
    simp only [rowU, setR] at hb
    obtain ⟨H', n', e, hn', fr', hu', g1, g2, g3, g4⟩ := cyc hu (INV.cmds cs inv) hn (m := s'.n) (Nat.le_refl _)
    simp [c0, c2, b5, L5, b8, L8, ovs, lvs, hb, e, imms, B6, B7]
    refine ⟨by omega, hu'.mono (by omega) (fun _ _ h => h) (fun _ _ _ => rfl), fun j hj hzj => (fr' j (by omega) hzj).trans (fr j hj hzj), _, _, rfl, .inr ⟨s'.n + 2 + 1, by omega, ?_, ?_⟩, .inr ⟨s'.n + 2 + 2, by omega, ?_, ?_⟩⟩
    · simp [cyF, setR] at g3 ⊢
      rw [g3]
    · rw [g1, rowI_imms]
      rfl
    · simp [cyF, setR] at g4 ⊢
      rw [g4]
    · rw [g2, List.map_map]
      rfl
def setC (u : US) (k : Int) : US := ⟨u.rs, u.ep, u.en, u.gr, u.cp, u.mode, u.tick, k, u.left⟩
def incC (k : Int) : Int := if k < 9223372036854775807 then k + 1 else k
def forcedF (u : US) : US := ⟨u.rs, u.ep, u.en, u.gr, u.cp, if u.left - 1 ≤ 0 then 3 else u.mode, u.tick, u.count, u.left - 1⟩
theorem forced_t {w : US} (h : w.left - 1 ≤ 0) : forcedF w = ⟨w.rs, w.ep, w.en, w.gr, w.cp, 3, w.tick, w.count, w.left - 1⟩ := by
  unfold forcedF
  rw [if_pos h]
theorem forced_f {w : US} (h : ¬ w.left - 1 ≤ 0) : forcedF w = ⟨w.rs, w.ep, w.en, w.gr, w.cp, w.mode, w.tick, w.count, w.left - 1⟩ := by
  unfold forcedF
  rw [if_neg h]
open Classical in
noncomputable def cycleF (l : Lo) (u : US) (os : List Bool) (ls : List Int) (conn : Bool) (cs : List (Int × Int)) : US × List Int × List Bool :=
  if Wk u ∧ (u.gr = true ∧ u.tick < u.en) then
    if u.mode = 3 then cyF l (setC u (incC u.count)) os ls conn cs
    else (forcedF (setC u (incC u.count)), List.replicate l.pts.length 0, List.replicate l.sigs.length false)
  else (u, List.replicate l.pts.length 0, List.replicate l.sigs.length false)
def CyR (Z : Nat → Prop) (l : Lo) (H : PT HB) (n a : Nat) (r : US × List Int × List Bool) (v : DV) (H' : PT HB) (n' : Nat) : Prop := UR Z l H n a r.1 H' n' ∧ OutD H'.get n n' v r.2.1 r.2.2
theorem OutD.low {h : Nat → Option HB} {n0 m n' : Nat} {v : DV} {ds : List Int} {ps : List Bool} (o : OutD h m n' v ds ps) (hm : n0 ≤ m) : OutD h n0 n' v ds ps := by
  obtain ⟨x, y, rfl, a, b⟩ := o
  refine ⟨x, y, rfl, ?_, ?_⟩
  · rcases a with a | ⟨id, ⟨p1, p2⟩, p3⟩
    · exact .inl a
    · exact .inr ⟨id, ⟨by omega, p2⟩, p3⟩
  · rcases b with a | ⟨id, ⟨p1, p2⟩, p3⟩
    · exact .inl a
    · exact .inr ⟨id, ⟨by omega, p2⟩, p3⟩
theorem Cycle_fnU {d : Nat} (hd : 11 ≤ d) {Z : Nat → Prop} {l : Lo} {os : List Bool} {ls : List Int} {H : PT HB} {n a : Nat} {u : US} (ok : LoOk l) (is : ISL l) (h : UI Z l H n a u) (hz : ∀ j, n ≤ j → Z j) (inv : INV l u.rs) (c0 : -9223372036854775808 ≤ u.count ∧ u.count ≤ 9223372036854775807) (l0 : -1000 ≤ u.left ∧ u.left ≤ 1000)
    {ov lv cv : IV} (io : InOk ov lv os ls) {cs : List (Int × Int)} (hc : Sl 2 cv (cs.map ivC)) (hcl : cs.length ≤ reachBytes) (conn : Bool) :
    Fe (K DG (d + 3) 13 [.ptr a 0 0, inD ov lv, .imm (.bool conn), .imm cv] H n 0) (CyR Z l H n a (cycleF l u os ls conn cs)) := by
  obtain ⟨p, q, own, x, h⟩ := h
  have hb := h.blk
  have xs := h.xs.1
  have la := h.lt a (by simp)
  have lp := h.lt p (by simp)
  simp only [rowU] at hb
  have ovs := io.o.scal
  have lvs := io.l.scal
  have cvs := hc.scal
  obtain ⟨k1, e1, hk1⟩ := u_works h (d := d + 1) (m := n + 2) (lo := 0)
  obtain ⟨k2, e2, hk2⟩ := lease_live h.le u.tick (d := d + 1) (n := k1) (lo := 0)
  have safe : ∀ (m : Nat) {H1 : PT HB} {m1 : Nat} {w : US}, UAt Z l H1 m1 a p q own x w → m1 ≤ m → callM (K DG (d + 2)) .ro 44 [.ptr p 0 0] H1 m 0 = some ⟨safeV l, H1, m + 3, [.rA]⟩ := fun m {H1 m1 w} hw h1 => Safe_ro (d := d + 1) ok is.p2 is.g2 hw.lk (by have := (hw.lt p (by simp)).1; omega)
  rw [D.k13]
  refine fn_dw rfl ?_
  unfold cycleF
  by_cases wk : Wk u
  · rw [dec_t wk] at e1
    by_cases lv' : u.gr = true ∧ u.tick < u.en
    · rw [if_pos ⟨wk, lv'⟩]
      rw [dec_t lv'] at e2
      -- the count
      have cnt : ∃ H1, UAt Z l H1 n a p q own x (setC u (incC u.count)) ∧ (∀ j, j < n → ¬ Z j → H1.get j = H.get j) ∧ ((u.count < 9223372036854775807 ∧ H1 = H.put a (some ⟨7, [[.ptr p 0 0, .ptr q 0 0, x, .imm (.int .i64 u.mode), .imm (.int .i64 u.tick), .imm (.int .i64 (u.count + 1)), .imm (.int .i64 u.left)]]⟩)) ∨ (¬ u.count < 9223372036854775807 ∧ H1 = H)) := by
        by_cases hlt : u.count < 9223372036854775807
        · refine ⟨_, ?_, fun j hj hzj => ?_, .inl ⟨hlt, rfl⟩⟩
          · have := h.num u.mode u.tick (u.count + 1) u.left
            unfold incC
            rw [if_pos hlt]
            exact this
          · have : ¬ j = a := fun e => hzj (e ▸ la.2)
            simp [PT.get_put, this]
        · refine ⟨H, ?_, fun _ _ _ => rfl, .inr ⟨hlt, rfl⟩⟩
          unfold incC
          rw [if_neg hlt]
          exact h
      obtain ⟨H1, h1, f1, hH1⟩ := cnt
      have w1 : u.count < 9223372036854775807 → IntKind.i64.wrap (u.count + 1) = u.count + 1 := fun hh => wr_id (by omega) (by omega)
      have hb1 := h1.blk
      simp only [rowU, setC] at hb1
      by_cases h3 : u.mode = 3
      · rw [if_pos h3]
        obtain ⟨v5, H5, n5, e5, hn5, hu5, f5, o5⟩ := cycle_fn (d := d) hd (H := H1) (n := k2) ok is (h1.mono (by omega) (fun _ _ h => h) (fun _ _ _ => rfl)) (fun j hj => hz j (by omega)) inv io hc hcl conn
        have fin : CyR Z l H n a (cyF l (setC u (incC u.count)) os ls conn cs) v5 H5 n5 := ⟨⟨by omega, ⟨p, q, own, x, hu5⟩, fun j hj hzj => (f5 j (by omega) hzj).trans (f1 j hj hzj)⟩, o5.low (by omega)⟩
        obtain ⟨y1, y2, rfl, oy1, oy2⟩ := o5
        have s1 := oy1.scal
        have s2 := oy2.scal
        rw [h3] at hb hb1
        rcases hH1 with ⟨hlt, hH1⟩ | ⟨hlt, rfl⟩
        · rw [h3] at hH1
          simp [cvs, ovs, lvs, xs, hb, e1, e2, ilt_t hlt, w1 hlt, ← hH1, hb1, e5, s1.1, s2.1, s1.2, s2.2, B6, B7]
          exact fin
        · simp [cvs, ovs, lvs, xs, hb, e1, e2, ilt_f (Int.not_lt.1 hlt), hb1, e5, s1.1, s2.1, s1.2, s2.2, B6, B7]
          exact fin
      · rw [if_neg h3]
        have h4 : u.mode = 4 := wk.resolve_left h3
        have w2 : IntKind.i64.wrap (u.left - 1) = u.left - 1 := wr_id (by omega) (by omega)
        have h2 := h1.num u.mode u.tick (incC u.count) (u.left - 1)
        obtain ⟨H2, hH2⟩ : ∃ H2, H2 = H1.put a (some ⟨7, [[.ptr p 0 0, .ptr q 0 0, x, .imm (.int .i64 u.mode), .imm (.int .i64 u.tick), .imm (.int .i64 (incC u.count)), .imm (.int .i64 (u.left - 1))]]⟩) := ⟨_, rfl⟩
        rw [← hH2] at h2
        have f2 : ∀ j, j < n → ¬ Z j → H2.get j = H.get j := fun j hj hzj => by
          have : ¬ j = a := fun e => hzj (e ▸ la.2)
          rw [hH2]
          simp [PT.get_put, this]
          exact f1 j hj hzj
        have hb2 := h2.blk
        simp only [rowU] at hb2
        by_cases h0 : u.left - 1 ≤ 0
        · have h5 := h2.num 3 u.tick (incC u.count) (u.left - 1)
          obtain ⟨H5, hH5⟩ : ∃ H5, H5 = H2.put a (some ⟨7, [[.ptr p 0 0, .ptr q 0 0, x, .imm (.int .i64 3), .imm (.int .i64 u.tick), .imm (.int .i64 (incC u.count)), .imm (.int .i64 (u.left - 1))]]⟩) := ⟨_, rfl⟩
          rw [← hH5] at h5
          have f5 : ∀ j, j < n → ¬ Z j → H5.get j = H.get j := fun j hj hzj => by
            have : ¬ j = a := fun e => hzj (e ▸ la.2)
            rw [hH5]
            simp [PT.get_put, this]
            exact f2 j hj hzj
          have hb5 := h5.blk
          simp only [rowU] at hb5
          have es := safe k2 h5 (by omega)
          have fin : ∀ n', n ≤ n' → CyR Z l H n a (forcedF (setC u (incC u.count)), List.replicate l.pts.length 0, List.replicate l.sigs.length false) (safeV l) H5 n' := fun n' hn' => ⟨⟨hn', ⟨p, q, own, x, by
            have := h5.mono (n' := n') hn' (fun _ _ h => h) (fun _ _ _ => rfl)
            show UAt Z l H5 n' a p q own x (forcedF (setC u (incC u.count)))
            rw [forced_t (w := setC u (incC u.count)) h0]
            exact this⟩, f5⟩, out_safe l⟩
          have il : ILt 0 (u.left - 1) = False := ilt_f h0
          rw [h4] at hb hb1 hb2 hH2
          rcases hH1 with ⟨hlt, hH1⟩ | ⟨hlt, rfl⟩
          · have ic : incC u.count = u.count + 1 := if_pos hlt
            rw [h4] at hH1
            rw [ic] at hb1 hb2 hH2 hb5 hH5
            simp [cvs, ovs, lvs, xs, hb, e1, e2, ilt_t hlt, w1 hlt, w2, il, ← hH1, hb1, ← hH2, hb2, ← hH5, hb5, es, B6, B7]
            exact fin _ (by omega)
          · have ic : incC u.count = u.count := if_neg hlt
            rw [ic] at hb1 hb2 hH2 hb5 hH5
            simp [cvs, ovs, lvs, xs, hb, e1, e2, ilt_f (Int.not_lt.1 hlt), w2, il, hb1, ← hH2, hb2, ← hH5, hb5, es, B6, B7]
            exact fin _ (by omega)
        · have es := safe k2 h2 (by omega)
          have fin : ∀ n', n ≤ n' → CyR Z l H n a (forcedF (setC u (incC u.count)), List.replicate l.pts.length 0, List.replicate l.sigs.length false) (safeV l) H2 n' := fun n' hn' => ⟨⟨hn', ⟨p, q, own, x, by
            have := h2.mono (n' := n') hn' (fun _ _ h => h) (fun _ _ _ => rfl)
            show UAt Z l H2 n' a p q own x (forcedF (setC u (incC u.count)))
            rw [forced_f (w := setC u (incC u.count)) h0]
            exact this⟩, f2⟩, out_safe l⟩
          have il : ILt 0 (u.left - 1) = True := ilt_t (by omega)
          rw [h4] at hb hb1 hb2 hH2
          rcases hH1 with ⟨hlt, hH1⟩ | ⟨hlt, rfl⟩
          · have ic : incC u.count = u.count + 1 := if_pos hlt
            rw [h4] at hH1
            rw [ic] at hb1 hb2 hH2
            simp [cvs, ovs, lvs, xs, hb, e1, e2, ilt_t hlt, w1 hlt, w2, il, ← hH1, hb1, ← hH2, hb2, es, B6, B7]
            exact fin _ (by omega)
          · have ic : incC u.count = u.count := if_neg hlt
            rw [ic] at hb1 hb2 hH2
            simp [cvs, ovs, lvs, xs, hb, e1, e2, ilt_f (Int.not_lt.1 hlt), w2, il, hb1, ← hH2, hb2, es, B6, B7]
            exact fin _ (by omega)
    · rw [if_neg (fun h => lv' h.2)]
      rw [dec_f lv'] at e2
      have es := safe k2 h (by omega)
      simp [cvs, ovs, lvs, xs, hb, e1, e2, es, B6, B7]
      exact ⟨⟨by omega, ⟨p, q, own, x, h.mono (by omega) (fun _ _ h => h) (fun _ _ _ => rfl)⟩, fun _ _ _ => rfl⟩, out_safe l⟩
  · rw [dec_f wk] at e1
    rw [if_neg (fun h => wk h.1)]
    have es := safe k1 h (by omega)
    simp [cvs, ovs, lvs, xs, hb, e1, es, B6, B7]
    exact ⟨⟨by omega, ⟨p, q, own, x, h.mono (by omega) (fun _ _ h => h) (fun _ _ _ => rfl)⟩, fun _ _ _ => rfl⟩, out_safe l⟩
end Go.Proofs.YtnpcgejfkonfdabGreatDoor.D

-- OU
set_option linter.unusedVariables false
set_option linter.unusedSimpArgs false
set_option maxHeartbeats 16000000
set_option maxRecDepth 100000
namespace Go.Proofs.YtnpcgejfkonfdabGreatDoor.D
open Go Go.PM Go.Lib

def rtOne : Rt := ⟨[114], 0, 1, .lst true 1 [[.int .i64 0]], .nils, .nils, [0], [], []⟩
def loOne : Lo := ⟨.lst true 1 [[.str [97]]], .nils, .lst true 1 [[.str [115]], [.str [116]]], .lst true 6 [[.str [114], .int .i64 0, .int .i64 1, .lst true 1 [[.int .i64 0]], .nils, .nils]], [[97]], [], [[115], [116]], [rtOne]⟩
theorem layOne_bl {d : Nat} : bl (K DG (d + 1)) 11 [] = some loOne.dv := by
  have key : Fe (K DG (d + 1) 11 [] .lf 0 0) (fun v _ _ => v = loOne.dv) := by
    rw [D.k11]
    refine fn_dw rfl ?_
    simp [loOne, evParts, evParts2, lay, unImms, unImm, mapO, rowsN, imms, B6, B7]
  obtain ⟨v, H, n, e, rfl⟩ := key
  exact bl_of e rfl
theorem one_ok : LoOk loOne := by
  have hrb := rb3
  refine ⟨.inr ⟨true, rfl⟩, .inl ⟨rfl, rfl⟩, .inr ⟨true, rfl⟩, .inr ⟨true, rfl⟩, by simp [loOne]; omega, by simp [loOne], by simp [loOne]; omega, by simp [loOne]; omega, fun x hx => ?_, fun x hx => ?_, fun x hx => ?_, fun x hx => ?_⟩
  · simp [loOne] at hx; subst hx; simp; omega
  · simp [loOne] at hx
  · simp [loOne] at hx; rcases hx with rfl | rfl <;> simp <;> omega
  · simp [loOne] at hx
    subst hx
    exact ⟨.inr ⟨true, rfl⟩, .inl ⟨rfl, rfl⟩, .inl ⟨rfl, rfl⟩, by simp [rtOne]; omega, by simp [rtOne]; omega, by simp [rtOne], by simp [rtOne]⟩
theorem nm_a : nm3 [97] = true := by kernel_rfl
theorem nm_s : nm3 [115] = true := by kernel_rfl
theorem nm_t : nm3 [116] = true := by kernel_rfl
theorem nm_r : nm3 [114] = true := by kernel_rfl
theorem one_is : ISL loOne := by
  have ne : ∀ path w, NE [] [] path w := fun _ _ i hi => absurd hi (by simp)
  have one : ∀ s : List UInt8, nm3 s = true → NM [s] := fun s hs i x hi => by
    cases i with
    | zero => simp at hi; subst hi; exact ⟨hs, by simp⟩
    | succ i => simp at hi
  refine ⟨by simp [loOne], by simp [loOne], by simp [loOne], by simp [loOne], by simp [loOne], by simp [loOne], fun i hi => by simp [loOne] at hi, one _ nm_a, fun i x hi => ?_, NM_nil, one _ nm_r, fun i hi => ?_⟩
  · match i with
    | 0 => simp [loOne] at hi; subst hi; exact ⟨nm_s, by simp⟩
    | 1 => simp [loOne] at hi; subst hi; exact ⟨nm_t, by simp [loOne]⟩
    | i + 2 => simp [loOne] at hi
  · obtain rfl : i = 0 := by simp [loOne] at hi; omega
    exact ⟨⟨by simp [loOne, rtOne, nth], by simp [loOne, rtOne, nth]⟩, ⟨by simp [loOne, rtOne, nth], by simp [loOne, rtOne, nth]⟩, by simp [loOne, rtOne, nth], fun i z hz => by
      cases i with
      | zero => simp [loOne, rtOne, nth] at hz; subst hz; exact ⟨⟨by omega, by simp [loOne]⟩, by simp⟩
      | succ i => simp [loOne, rtOne, nth] at hz, by simp [loOne, rtOne, nth], by simp [loOne, rtOne, nth], ne _ _, ne _ _, rfl⟩
theorem is_run {D : Nat} (hD : D = 26 ∨ D = 27) : bl (K DG D) 77 [loOne.dv] = some (.imm (.bool true)) := by
  rcases hD with rfl | rfl
  · have h : ansT (dcallF (doorG 0 1) tab 26 77 [loOne.dv] .lf 0 0) = true := by kernel_rfl
    rw [show dcallF (doorG 0 1) tab 26 = K DG 26 from dcallF_eq _ _ _] at h
    obtain ⟨H', n', e⟩ := ansT_spec h
    exact bl_imm e
  · have h : ansT (dcallF (doorG 0 1) tab 27 77 [loOne.dv] .lf 0 0) = true := by kernel_rfl
    rw [show dcallF (doorG 0 1) tab 27 = K DG 27 from dcallF_eq _ _ _] at h
    obtain ⟨H', n', e⟩ := ansT_spec h
    exact bl_imm e
theorem known_bl : bl (K DG 29) 17 [] = some (.imm (.bool true)) := by
  have h : ansT (dcallF (doorG 0 1) tab 29 17 [] .lf 0 0) = true := by kernel_rfl
  rw [show dcallF (doorG 0 1) tab 29 = K DG 29 from dcallF_eq _ _ _] at h
  obtain ⟨H', n', e⟩ := ansT_spec h
  exact bl_imm e
theorem free_bl {d : Nat} : bl (K DG (d + 1)) 14 [] = some (inD (.lst true 1 [[.bool false]]) .nils) := by
  have key : Fe (K DG (d + 1) 14 [] .lf 0 0) (fun v _ _ => v = inD (.lst true 1 [[.bool false]]) .nils) := by
    rw [D.k14]
    refine fn_dw rfl ?_
    simp [evParts, evParts2, lay, unImms, unImm, mapO, rowsN, imms, B6, B7]
  obtain ⟨v, H, n, e, rfl⟩ := key
  exact bl_of e rfl
/-- a layout as the one of one route -/
structure AsOne (l : Lo) : Prop where
  ok : LoOk l
  is : ISL l
  eq : LoEq loOne l
/-- a new unit -/
theorem newOne {D : Nat} (hD : D = 28 ∨ D = 29) {Z : Nat → Prop} (H : PT HB) (n : Nat) (hz : ∀ j, n ≤ j → Z j) :
    ∃ a l H' n', K DG D 10 [loOne.dv] H n 0 = some (.tup [.ptr a 0 0, .imm (.int .i64 0)], H', n') ∧ n ≤ n' ∧ AsOne l ∧ UI Z l H' n' a (newU l) ∧ (n ≤ a ∧ a < n') ∧ ∀ j, j < n → H'.get j = H.get j := by
  obtain ⟨d, rfl, hd⟩ : ∃ d, D = d + 2 ∧ (d = 26 ∨ d = 27) := ⟨D - 2, by omega, by omega⟩
  obtain ⟨a, l, H', n', e, hn, ok, eq, hu, ha, f⟩ := New_of (d := d) (by omega) one_ok one_is (is_run hd) H n hz
  exact ⟨a, l, H', n', e, hn, ⟨ok, eq.is one_is, eq⟩, hu, ha, f⟩
theorem one_len {l : Lo} (h : AsOne l) : l.rts.length = 1 := by rw [h.eq.len]; rfl
theorem one_rep {l : Lo} (h : AsOne l) : rep0 l = [rs0] := by unfold rep0; rw [one_len h]; rfl
theorem one_inv {l : Lo} (h : AsOne l) {x : Rst} (hx : RsOk l 0 x) : INV l [x] :=
  ⟨by rw [one_len h]; rfl, fun r hr => by
    obtain rfl : r = 0 := by rw [one_len h] at hr; omega
    exact hx, fun i j hi hj hij => by rw [one_len h] at hi hj; omega⟩
/-- what is heard of a telegram of a unit -/
theorem hear_tel {l : Lo} {u : US} {e c : Int} {qs : List Rst} (he : -9223372036854775808 ≤ e ∧ e ≤ 9223372036854775807) (hc : -9223372036854775808 ≤ c ∧ c ≤ 9223372036854775807) (hq : ∀ x ∈ qs, (-9223372036854775808 ≤ x.mode ∧ x.mode ≤ 9223372036854775807) ∧ (-9223372036854775808 ≤ x.timer ∧ x.timer ≤ 9223372036854775807) ∧ (-9223372036854775808 ≤ x.gone ∧ x.gone ≤ 9223372036854775807)) (hl : qs.length ≤ 20) (h2 : u.mode = 2) (ho : ¬ OldP u e c) (iq : INV l qs) :
    hearF l u (tel e c qs) = ⟨u.rs, u.ep, u.en, u.gr, some (e, c, qs), u.mode, u.tick, u.count, u.left⟩ := by
  obtain ⟨l1, l2, l3, l4⟩ := layT_ok e c hl
  have hcan : ∀ t ∈ layT e c qs, thCan t := fun t ht => by
    simp only [layT, List.mem_cons, List.mem_map] at ht
    rcases ht with rfl | ⟨z, hz, rfl⟩
    · show (5 : Nat) ≤ 200; omega
    · rcases hz with rfl | rfl | rfl | hz
      · exact he
      · exact hc
      · show _ ∧ _; omega
      · simp only [ofF, List.mem_flatMap] at hz
        obtain ⟨x, hx, hz⟩ := hz
        obtain ⟨q1, q2, q3⟩ := hq x hx
        simp only [of1, List.mem_cons, List.not_mem_nil, or_false] at hz
        rcases hz with rfl | rfl | rfl | rfl
        · exact q1
        · exact q2
        · exact q3
        · show _ ∧ _; unfold bi; split <;> omega
  unfold hearF tel
  rw [if_neg (by simp [h2]), unF_teleg hcan l1 l4]
  simp only [readF_lay]
  rw [if_neg ho, if_pos iq]
end Go.Proofs.YtnpcgejfkonfdabGreatDoor.D

-- RL
set_option linter.unusedVariables false
set_option linter.unusedSimpArgs false
set_option maxHeartbeats 16000000
namespace Go.Proofs.YtnpcgejfkonfdabGreatDoor.D
open Go Go.PM Go.Lib

theorem Lay9_fn {d : Nat} {H : PT HB} {n lo : Nat} {v : IV} {rs : List Rst} (hlo : lo ≤ n) (hv : Sl 4 v (rs.map ivRS)) (hl : rs.length ≤ 24) (e c : Int) :
    ∃ a ob H' n', K DG (d + 3) 75 [.imm (.int .i64 e), .imm (.int .i64 c), .imm v] H n lo = some (.ptr a 0 0, H', n') ∧ CrR H' a ob (layT e c rs) ∧ a < n' ∧ ∀ b, ob = some b → b < n' := by
  have vl := hv.len
  simp only [List.length_map] at vl
  have vs := hv.scal
  obtain ⟨w, ew, hw⟩ := Of9_bl (d := d) hv (by omega)
  obtain ⟨zs, hzs⟩ : ∃ zs : List Int, zs = e :: c :: (rs.length : Int) :: ofF rs := ⟨_, rfl⟩
  have hzl : zs.length = 3 + 4 * rs.length := by rw [hzs]; simp [ofF_len]; omega
  have key : Fe (K DG (d + 2 + 1) 75 [.imm (.int .i64 e), .imm (.int .i64 c), .imm v] H n lo) (fun v' H' n' => ∃ a ob, v' = .ptr a 0 0 ∧ CrR H' a ob (layT e c rs) ∧ a < n' ∧ ∀ b, ob = some b → b < n') := by
    rw [D.k75]
    refine fn_dw rfl ?_
    have hz3 : zs.map ivI = [[.int .i64 e], [.int .i64 c], [.int .i64 (rs.length : Int)]] ++ (ofF rs).map ivI := by rw [hzs]; simp [ivI]
    have fin : ∀ {a : Nat} (x : DV) (s' : St), ILr lo a x zs zs.length s' → ∃ ob, CrR s'.H a ob (layT e c rs) ∧ a < s'.n ∧ ∀ b, ob = some b → b < s'.n := fun {a} x s' hI => by
      obtain ⟨c7, c8, c9, ⟨ob, hob, cr, xb⟩, xa, ⟨anl, an⟩⟩ := hI
      rw [List.take_length] at cr
      have : layT e c rs = .text [115, 116, 97, 116, 101] :: zs.map .int := by rw [hzs]; rfl
      rw [this]
      exact ⟨ob, cr, an, fun b hb => (hob b hb).1⟩
    have ws := hw.scal
    by_cases hr : rs = []
    · have hw0 : Sl 1 w [] := by rw [hr] at hw; exact hw
      obtain ⟨sb, hsrc, _⟩ := src_sl hw0 H.get
      have ha : appOf H.get n lo 1 8 (.imm (.lst true 1 [[.int .i64 e], [.int .i64 c], [.int .i64 (rs.length : Int)]])) (.imm w) = some { v := .imm (.lst true 1 (zs.map ivI)), n' := n, acc := [] } := by
        rw [hz3, hr]
        simp [appOf, hsrc, raccOf, ofF]
      generalize hes : zs.map ivI = es at *
      simp [vl, vs, ws, ew, ha, hlo, evParts, evParts2, lay, unImms, unImm, mapO, rowsN, imms, B6, B7]
      refine loopLr (lo := lo) (a := n) (zs := zs) (x := .imm (.lst true 1 es)) (by omega) ⟨by simp [PT.get_put], by simp [PT.get_put], by simp [PT.get_put], ⟨none, by simp, by exact .inr (.inl ⟨by simp [PT.get_put, rowTh], rfl⟩), by simp⟩, .inl (by rw [hes]), by simp; omega⟩ (fun s' hI => ?_)
      obtain ⟨ob, g1, g2, g3⟩ := fin _ s' hI
      obtain ⟨c7, c8, c9, _, xa, an⟩ := hI
      simp [c7, c8, c9, B6, B7]
      exact ⟨ob, g1, g2, g3⟩
    · have hne : (ofF rs).map ivI ≠ [] := by
        intro h
        have := congrArg List.length h
        simp [ofF_len] at this
        exact hr (List.length_eq_zero_iff.1 (by omega))
      obtain ⟨sb, hsrc, hsb⟩ := src_sl hw H.get
      obtain rfl := hsb hne
      have am : 20000000 ≤ appMax := by unfold appMax; omega
      have hne3 : ¬ ofF rs = [] := fun h => hne (by rw [h]; rfl)
      have hll : 3 + (ofF rs).length = zs.length := by rw [hzl, ofF_len]
      have a1 : zs.length ≤ appMax := by omega
      have a2 : zs.length * 8 ≤ appMax := by omega
      have ha : appOf H.get n lo 1 8 (.imm (.lst true 1 [[.int .i64 e], [.int .i64 c], [.int .i64 (rs.length : Int)]])) (.imm w) = some { v := .sl n 0 zs.length zs.length, hw := [(n, some ⟨1, zs.map rowI⟩)], n' := n + 1, acc := [.wX n] } := by
        have hrow : zs.map rowI = (zs.map ivI).map imms := by rw [List.map_map]; rfl
        rw [hrow, hz3]
        simp [appOf, hsrc, raccOf, hne3, imms] 
        constructor
        · omega
        · omega
      generalize hes : zs.map rowI = es at *
      simp [vl, vs, ws, ew, ha, hlo, evParts, evParts2, lay, unImms, unImm, mapO, rowsN, imms, B6, B7]
      have hnb : ¬ n = n + 1 := by omega
      refine loopLr (lo := lo) (a := n + 1) (zs := zs) (x := .sl n 0 zs.length zs.length) (by omega) ⟨by simp [PT.get_put], by simp [PT.get_put], by simp [PT.get_put], ⟨none, by simp, by exact .inr (.inl ⟨by simp [PT.get_put, rowTh], rfl⟩), by simp⟩, .inr ⟨n, by simp; omega, rfl, by simp [PT.get_put, hes]⟩, by simp; omega⟩ (fun s' hI => ?_)
      obtain ⟨ob, g1, g2, g3⟩ := fin _ s' hI
      obtain ⟨c7, c8, c9, _, xa, an⟩ := hI
      simp [c7, c8, c9, B6, B7]
      exact ⟨ob, g1, g2, g3⟩
  obtain ⟨v', H', n', e, a, ob, rfl, r⟩ := key
  exact ⟨a, ob, H', n', e, r⟩
end Go.Proofs.YtnpcgejfkonfdabGreatDoor.D

-- RD
set_option linter.unusedVariables false
set_option linter.unusedSimpArgs false
set_option maxHeartbeats 16000000
namespace Go.Proofs.YtnpcgejfkonfdabGreatDoor.D
open Go Go.PM Go.Lib

theorem laid_bl {d : Nat} {k f rv b o l c : IV} {E N : Int} {rs : List Rst} (hk : (DV.imm k).scal = true ∧ (DV.imm f).scal = true ∧ (DV.imm b).scal = true ∧ (DV.imm o).scal = true ∧ (DV.imm l).scal = true ∧ (DV.imm c).scal = true) (hv : Sl 4 rv (rs.map ivRS)) (hl : rs.length ≤ 20) :
    ∃ g, bl (K DG (d + 4)) 36 [.agg [.imm k, .imm f, .imm (.int .i64 E), .imm (.int .i64 N), .imm rv, .imm b, .imm o, .imm l, .imm c]] = some (.imm (.lst g 1 ((tel E N rs).map ivY))) := by
  obtain ⟨a, ob, H1, n1, e1, hc, ha, hob⟩ := Lay9_fn (d := d) (H := .lf) (n := 1) (lo := 0) (by omega) hv (by omega) E N
  obtain ⟨l1, l2, l3, l4⟩ := layT_ok E N hl
  obtain ⟨g, m, e2, hm⟩ := Pack8_ro (d := d) (lo := 0) hc ha hob l1 l2 l3 l4
  have vs := hv.scal
  obtain ⟨k1, k2, k3, k4, k5, k6⟩ := hk
  refine ⟨g, bl_fe ?_⟩
  unfold tel
  generalize (teleg (bodyT (layT E N rs))).map ivY = es at *
  rw [D.k36]
  refine fn_dw rfl ?_
  simp [vs, k1, k2, k3, k4, k5, k6, e1, e2, imms, B6, B7]
end Go.Proofs.YtnpcgejfkonfdabGreatDoor.D

-- OA
set_option linter.unusedVariables false
set_option linter.unusedSimpArgs false
set_option maxHeartbeats 16000000
namespace Go.Proofs.YtnpcgejfkonfdabGreatDoor.D
open Go Go.PM Go.Lib

def actU (rs : List Rst) (c : Int) : US := ⟨rs, 1, 5, true, none, 3, 0, c, 0⟩
theorem rs0_can : ∀ x ∈ [rs0], (-9223372036854775808 ≤ x.mode ∧ x.mode ≤ 9223372036854775807) ∧ (-9223372036854775808 ≤ x.timer ∧ x.timer ≤ 9223372036854775807) ∧ (-9223372036854775808 ≤ x.gone ∧ x.gone ≤ 9223372036854775807) := fun x hx => by
  simp at hx
  subst hx
  simp [rs0]
theorem old_none {u : US} {e c : Int} (h : u.cp = none) : ¬ OldP u e c := fun ⟨_, _, _, h', _⟩ => by rw [h] at h'; cases h'
theorem sl_rs0 : Sl 4 (.lst true 4 [[.int .i64 0, .int .i64 0, .int .i64 0, .bool false]]) ([rs0].map ivRS) := .inr ⟨true, rfl⟩
theorem active_fn (H : PT HB) (n : Nat) :
    ∃ a l H' n', K DG 29 9 [] H n 0 = some (.ptr a 0 0, H', n') ∧ n ≤ n' ∧ AsOne l ∧ UI (fun j => n ≤ j) l H' n' a (actU [rs0] 0) ∧ (n ≤ a ∧ a < n') ∧ ∀ j, j < n → H'.get j = H.get j := by
  have hz : ∀ j, n ≤ j → (fun j => n ≤ j) j := fun _ h => h
  obtain ⟨a, l, H1, n1, e1, hn1, ho, u1, ha, f1⟩ := newOne (D := 28) (.inl rfl) H n hz
  obtain ⟨g, e2⟩ := laid_bl (d := 24) (k := .int .i64 0) (f := .bool false) (b := .nils) (o := .nils) (l := .nils) (c := .nils) (E := 0) (N := 0) ⟨rfl, rfl, rfl, rfl, rfl, rfl⟩ sl_rs0 (by simp)
  have iq : INV l [rs0] := one_inv ho RsOk.idle
  have tl : (tel 0 0 [rs0]).length ≤ 100000 := by
    obtain ⟨_, _, _, h⟩ := layT_ok 0 0 (rs := [rs0]) (by simp)
    simp only [tel, teleg, List.length_append, numY_len]
    omega
  obtain ⟨v3, H3, n3, e3, hn3, u3, f3⟩ := Hear_fn (d := 16) ho.ok ho.is u1 (fun j hj => hz j (by omega)) (by show INV l (rep0 l); rw [one_rep ho]; exact iq) (w := .lst g 1 ((tel 0 0 [rs0]).map ivY)) (bs := tel 0 0 [rs0]) (.inr ⟨g, rfl⟩) tl
  have hh : hearF l (newU l) (tel 0 0 [rs0]) = ⟨[rs0], 0, 0, false, some (0, 0, [rs0]), 2, 0, 0, 0⟩ := by
    rw [hear_tel (by omega) (by omega) rs0_can (by simp) rfl (old_none rfl) iq]
    simp only [newU, one_rep ho]
  rw [hh] at u3
  obtain ⟨v4, H4, n4, e4, hn4, u4, f4⟩ := Granted_fn (d := 24) (by omega) ho.ok ho.is u3 (fun j hj => hz j (by omega)) (fun e c qs h => by cases h; exact iq) (e := 1) (k := 0) (by omega) (by simp) (by simp)
  have hg : grantF l ⟨[rs0], 0, 0, false, some (0, 0, [rs0]), 2, 0, 0, 0⟩ 1 0 = actU [rs0] 0 := by
    unfold grantF
    rw [if_neg (by simp [Wk]), if_pos (.inr rfl)]
    simp [begF, granted, noCp, actU]
  rw [hg] at u4
  obtain ⟨p, q, own, x, h4⟩ := u4
  obtain ⟨k5, e5, hk5⟩ := u_mode h4 (d := 27) (m := n4) (lo := 0)
  have e0 := layOne_bl (d := 27)
  simp only [Nat.reduceAdd] at e2 e3 e4 e5 e0
  have key : Fe (K DG (28 + 1) 9 [] H n 0) (fun v H' n' => v = .ptr a 0 0 ∧ H' = H4 ∧ n4 ≤ n') := by
    generalize (tel 0 0 [rs0]).map ivY = es at *
    rw [D.k9]
    refine fn_dw rfl ?_
    simp [e0, e1, e2, e3, e4, e5, actU, evParts, evParts2, lay, unImms, unImm, mapO, rowsN, imms, B6, B7]
    exact hk5
  obtain ⟨v, H', n', e, rfl, rfl, hn'⟩ := key
  exact ⟨a, l, _, n', e, by omega, ho, ⟨p, q, own, x, h4.mono hn' (fun _ _ h => h) (fun _ _ _ => rfl)⟩, by omega, fun j hj => by
    have hzj : ¬ n ≤ j := by omega
    rw [f4 j (by omega) hzj, f3 j (by omega) hzj, f1 j hj]⟩
end Go.Proofs.YtnpcgejfkonfdabGreatDoor.D

-- PUnitOther
set_option linter.unusedVariables false
set_option linter.unusedSimpArgs false
set_option maxHeartbeats 16000000
namespace Go.Proofs.YtnpcgejfkonfdabGreatDoor.D
open Go Go.PM Go.Lib

theorem in_free : InOk (.lst true 1 [[.bool false]]) .nils [false] [] := ⟨.inr ⟨true, rfl⟩, .inl ⟨rfl, rfl⟩, by have := rb3; simp; omega, by simp⟩
theorem incC_lt {c : Int} (h : c < 9223372036854775807) : incC c = c + 1 := if_pos h
/-- a cycle of one that is active, whatever it does -/
theorem cyc_act {l : Lo} (h : AsOne l) {rs : List Rst} (inv : INV l rs) {c : Int} (hc : c < 1000000) (os : List Bool) (ls : List Int) (cs : List (Int × Int)) :
    ∃ rs', INV l rs' ∧ (cycleF l (actU rs c) os ls true cs).1 = actU rs' (c + 1) := by
  refine ⟨(cycF l (cmdsF l os ls rs cs) os ls).1, INV.cyc h.is (INV.cmds cs inv), ?_⟩
  unfold cycleF
  rw [if_pos ⟨.inl rfl, rfl, by simp [actU]⟩, if_pos (by rfl)]
  simp only [cyF, setR, setC, actU, if_true]
  rw [incC_lt (by omega)]
end Go.Proofs.YtnpcgejfkonfdabGreatDoor.D

-- PUnitFollows
set_option linter.unusedVariables false
set_option linter.unusedSimpArgs false
set_option maxHeartbeats 16000000
namespace Go.Proofs.YtnpcgejfkonfdabGreatDoor.D
open Go Go.PM Go.Lib

theorem in_occ (b : Bool) : InOk (.lst true 1 [[.bool b]]) .nils [b] [] := ⟨.inr ⟨true, rfl⟩, .inl ⟨rfl, rfl⟩, by have := rb3; simp; omega, by simp⟩
structure IFo (l : Lo) (ov : IV) (bs : List Bool) (a b n1 n2 : Nat) (l2 : Lo) (nn : Int) (i : Nat) (st : St) : Prop where
  c0 : st.T.get 0 = some (.imm (.int .i64 nn))
  c1 : st.T.get 1 = some (.imm ov)
  c5 : st.T.get 5 = some (.ptr a 0 0)
  c6 : st.T.get 6 = some (.ptr b 0 0)
  c8 : st.T.get 8 = some (.imm (.int .i64 (i : Int)))
  u : ∃ rs, INV l rs ∧ UI (fun j => ¬ (n1 ≤ j ∧ j < n2)) l st.H st.n a (actU rs (i + 1))
  x : UI (fun j => n1 ≤ j ∧ j < n2) l2 st.H st.n b (newU l2)
  hn : n2 ≤ st.n
theorem loopFo {l l2 : Lo} (ho : AsOne l) {ov : IV} {bs : List Bool} (hv : Sl 1 ov (bs.map ivB1)) (hl : bs.length ≤ 20) {a b n1 n2 : Nat} {nn : Int} {st : St} (h : IFo l ov bs a b n1 n2 l2 nn 0 st) {ks : List Kf} {Q : Ex → St → Prop}
    (hk : ∀ s', IFo l ov bs a b n1 n2 l2 nn bs.length s' → Bk DG (K DG 29) 0 (.exit 0) ks s' Q) : Wp DG (K DG 29) 0 D.l5_0 ks st Q := by
  refine dw_loop (N := bs.length) (small (by have := rb3; omega)) (fun i st => IFo l ov bs a b n1 n2 l2 nn i st) (fun e s' => e = .exit 0 ∧ IFo l ov bs a b n1 n2 l2 nn bs.length s') (fun i st hle hI => ?_) h (fun e s' h => by
    obtain ⟨rfl, h⟩ := h
    exact hk s' h)
  obtain ⟨c0, c1, c5, c6, c8, ⟨rs, inv, u⟩, x, hn⟩ := hI
  have vs := hv.scal
  have vl := hv.len
  simp only [List.length_map] at vl
  by_cases hi : i < bs.length
  · have hi1 : (i : Int) < bs.length := by omega
    have hi' := ilt_t hi1
    have hw8 : IntKind.i64.wrap ((i : Int) + 1) = (i : Int) + 1 := wr_succ hi (by have := rb3; omega)
    have ix := fun {h : Nat → Option HB} {n : Nat} => idx_sl (h := h) (n := n) hv (by omega) (k := .i64) (z := (i : Int)) (by omega) hi1
    simp only [Int.toNat_natCast] at ix
    generalize nth bs i = o at *
    obtain ⟨v2, H2, n3, e2, ⟨hn2, u2, f2⟩, o2⟩ := Cycle_fnU (d := 26) (by omega) ho.ok ho.is u (fun j hj => by omega) inv (by simp [actU]; omega) (by simp [actU]) (in_occ o) (cv := .nils) (cs := []) (.inl ⟨rfl, rfl⟩) (by simp) true
    obtain ⟨rs2, iv2, ec2⟩ := cyc_act ho inv (c := (i : Int) + 1) (by omega) [o] [] []
    rw [ec2] at u2
    obtain ⟨y1, y2, rfl, oy1, oy2⟩ := o2
    have s1 := oy1.scal
    have s2 := oy2.scal
    simp only [Nat.reduceAdd] at e2
    have x2 : UI (fun j => n1 ≤ j ∧ j < n2) l2 H2 n3 b (newU l2) := x.mono hn2 (fun _ _ h => h) (fun j hj hz => f2 j hj (fun h => h hz))
    generalize hQ : (fun (e : Ex) (s' : St) => _) = Q'
    simp only [D.l5_0b]
    simp [c0, c1, c5, c6, c8, vs, vl, hi', hw8, ix, e2, s1.1, s1.2, s2.1, s2.2, ivB1, evParts, evParts2, lay, unImms, unImm, mapO, rowsN, imms, B6, B7]
    subst hQ
    exact .inl ⟨rfl, hi, by simp [PT.get_put], by simp [PT.get_put], by simp [PT.get_put], by simp [PT.get_put], by simp [PT.get_put], ⟨rs2, iv2, u2⟩, x2, by simp; omega⟩
  · obtain rfl : i = bs.length := by omega
    generalize hQ : (fun (e : Ex) (s' : St) => _) = Q'
    simp only [D.l5_0b]
    simp [c0, c1, c5, c6, c8, vs, vl, B6, B7]
    subst hQ
    exact .inr ⟨nofun, rfl, by simp [PT.get_put, c0], by simp [PT.get_put, c1], by simp [PT.get_put, c5], by simp [PT.get_put, c6], by simp [PT.get_put, c8], ⟨rs, inv, u⟩, x, hn⟩
theorem can_inv {l : Lo} (h : AsOne l) {rs : List Rst} (inv : INV l rs) : ∀ x ∈ rs, (-9223372036854775808 ≤ x.mode ∧ x.mode ≤ 9223372036854775807) ∧ (-9223372036854775808 ≤ x.timer ∧ x.timer ≤ 9223372036854775807) ∧ (-9223372036854775808 ≤ x.gone ∧ x.gone ≤ 9223372036854775807) := fun x hx => by
  obtain ⟨r, hr, rfl⟩ := List.mem_iff_getElem.1 hx
  have hl := inv.ln
  have ro := inv.ro r (by omega)
  have e : nth rs r = rs[r] := by simp [nth, List.getD_eq_getElem?_getD, List.getElem?_eq_getElem hr]
  rw [e] at ro
  have hp := (h.is.rr r (by omega)).p5
  obtain ⟨md, t0, t8, t6, tz, g3, gz⟩ := ro
  generalize rs[r] = x at *
  refine ⟨by omega, ?_, ?_⟩
  · by_cases h1 : x.mode = 1
    · have := t8 h1; omega
    · by_cases h4 : x.mode = 4
      · have := t6 h4; omega
      · have := tz h1 h4; omega
  · by_cases h3 : x.mode = 3
    · have := g3 h3; omega
    · have := (gz h3).1; omega
def ss_UnitFollows : List (Bool × List Kd) := [(false, [.i .i64]), (false, [.sl [.b]])]
theorem pure_UnitFollows : ∀ cs, ArgsFit ss_UnitFollows cs → ∃ H' n', K (doorG 0 1) 30 5 cs .lf 0 0 = some (.imm (.bool true), H', n') := fun cs h0 => by
  obtain ⟨d0, r0, rfl, g0, h1⟩ := fit_cons h0
  obtain ⟨nn, rfl, _⟩ := fit_i g0
  obtain ⟨d1, r1, rfl, g1, h2⟩ := fit_cons h1
  cases fit0 (r := []) h2
  obtain ⟨ov, rfl, hov⟩ := fit_s g1
  obtain ⟨bs, hv, hbl, _⟩ := bools_of hov
  have vs := hv.scal
  have vl := hv.len
  simp only [List.length_map] at vl
  have key : Fe (K DG (29 + 1) 5 [.imm (.int .i64 nn), .imm ov] .lf 0 0) (fun v _ _ => v = .imm (.bool true)) := by
    rw [D.k5]
    refine fn_dw rfl ?_
    by_cases c1 : nn < 0
    · simp [vs, ilt_t c1, B6, B7]
    by_cases c2 : 10 < nn
    · simp [vs, ilt_f (Int.not_lt.1 c1), ilt_t c2, B6, B7]
    by_cases c3 : (20 : Int) < bs.length
    · simp [vs, vl, ilt_f (Int.not_lt.1 c1), ilt_f (Int.not_lt.1 c2), ilt_t c3, B6, B7]
    have i1 := ilt_f (Int.not_lt.1 c1)
    have i2 := ilt_f (Int.not_lt.1 c2)
    have i3 := ilt_f (Int.not_lt.1 c3)
    obtain ⟨a, l, H1, n1, e1, hn1, ho, u1, ha, f1⟩ := active_fn .lf 0
    obtain ⟨b, l2, H2, n2, e2, hn2, ho2, x2, hb, f2⟩ := newOne (D := 29) (.inr rfl) (Z := fun j => n1 ≤ j) H1 n1 (fun j hj => hj)
    have u2 : UI (fun j => ¬ (n1 ≤ j ∧ j < n2)) l H2 n2 a (actU [rs0] 0) := u1.mono hn2 (fun j hj _ => by omega) (fun j hj _ => f2 j hj)
    have x2' : UI (fun j => n1 ≤ j ∧ j < n2) l2 H2 n2 b (newU l2) := by
      obtain ⟨p, q, own, x, h⟩ := x2
      refine ⟨p, q, own, x, ?_⟩
      have := h.mono (Z' := fun j => n1 ≤ j ∧ j < n2) (Nat.le_refl _) (fun j h1 h2 => ⟨h2, h1⟩) (H' := H2) (fun _ _ _ => rfl)
      exact this
    have iv0 : INV l [rs0] := one_inv ho RsOk.idle
    obtain ⟨v3, H3, n3, e3, ⟨hn3, u3, f3⟩, o3⟩ := Cycle_fnU (d := 26) (by omega) ho.ok ho.is u2 (fun j hj => by omega) iv0 (by simp [actU]) (by simp [actU]) in_free (cv := .lst true 2 [[.int .i64 1, .int .i64 0]]) (cs := [(1, 0)]) (.inr ⟨true, rfl⟩) (by have := rb3; simp; omega) true
    obtain ⟨rs3, iv3, ec3⟩ := cyc_act ho iv0 (c := 0) (by omega) [false] [] [(1, 0)]
    rw [ec3] at u3
    obtain ⟨y1, y2, rfl, oy1, oy2⟩ := o3
    have s1 := oy1.scal
    have s2 := oy2.scal
    have x3 : UI (fun j => n1 ≤ j ∧ j < n2) l2 H3 n3 b (newU l2) := x2'.mono hn3 (fun _ _ h => h) (fun j hj hz => f3 j hj (fun h => h hz))
    have e0 := layOne_bl (d := 28)
    have e14 := free_bl (d := 28)
    simp only [Nat.reduceAdd] at e1 e2 e3 e0 e14
    simp [vs, vl, i1, i2, i3, e0, e1, e2, e14, e3, s1.1, s1.2, s2.1, s2.2, evParts, evParts2, lay, unImms, unImm, mapO, rowsN, imms, B6, B7]
    refine loopFo (a := a) (b := b) (n1 := n1) (n2 := n2) (nn := nn) (l2 := l2) ho hv (by omega) ⟨by simp [PT.get_put], by simp [PT.get_put], by simp [PT.get_put], by simp [PT.get_put], by simp [PT.get_put], ⟨rs3, iv3, u3⟩, x3, by simp; omega⟩ (fun s' hI => ?_)
    obtain ⟨c0, c1', c5, c6, c8, ⟨rs, inv, u⟩, x, hn⟩ := hI
    have hrl : rs.length = 1 := by rw [inv.ln, one_len ho]
    have inv2 : INV l2 rs := ho2.eq.inv' (ho.eq.symm.inv' inv)
    obtain ⟨cc, hcc⟩ : ∃ cc : Int, cc = (bs.length : Int) + 1 := ⟨_, rfl⟩
    rw [← hcc] at u
    have hc0 : 0 ≤ cc ∧ cc ≤ 21 := by omega
    have u' := u
    obtain ⟨pa, qa, oa, xa, h6⟩ := u
    obtain ⟨w7, k7, e7, hk7, hw7⟩ := Send_ro h6 (by show rs.length ≤ 20; omega) (d := 23) (m := s'.n) (lo := 0) (Nat.le_refl _)
    have hsf : sendF (actU rs cc) = tel 1 cc rs := by unfold sendF; rw [if_pos (by rfl)]; rfl
    rw [hsf] at hw7
    have tl : (tel 1 cc rs).length ≤ 100000 := by
      obtain ⟨_, _, _, h⟩ := layT_ok 1 cc (rs := rs) (by omega)
      simp only [tel, teleg, List.length_append, numY_len]
      omega
    have x7 : UI (fun j => (n1 ≤ j ∧ j < n2) ∨ s'.n ≤ j) l2 s'.H k7 b (newU l2) := x.mono hk7 (fun j _ h => .inl h) (fun _ _ _ => rfl)
    obtain ⟨v8, H8, n8, e8, ⟨hn8, x8, f8⟩⟩ := Hear_fn (d := 17) ho2.ok ho2.is x7 (fun j hj => .inr (by omega)) (by show INV l2 (rep0 l2); rw [one_rep ho2]; exact one_inv ho2 RsOk.idle) hw7 tl
    have hh : hearF l2 (newU l2) (tel 1 cc rs) = ⟨[rs0], 0, 0, false, some (1, cc, rs), 2, 0, 0, 0⟩ := by
      rw [hear_tel (by omega) (by omega) (can_inv ho inv) (by omega) rfl (old_none rfl) inv2]
      simp only [newU, one_rep ho2]
    rw [hh] at x8
    have u8 : UAt (fun j => ¬ (n1 ≤ j ∧ j < n2) ∧ j < s'.n) l H8 n8 a pa qa oa xa (actU rs cc) := h6.mono (by omega) (fun _ h1 h => ⟨h, h1⟩) (fun j hj hz => f8 j (by omega) (fun h => by rcases h with h | h; exact hz h; omega))
    obtain ⟨k9, e9, hk9⟩ := u_count u8 (d := 28) (m := n8) (lo := 0)
    obtain ⟨k10, e10, hk10⟩ := u_count u8 (d := 28) (m := k9) (lo := 0)
    obtain ⟨mn, hmn, m0, m1⟩ : ∃ mn : Int, mn = (if cc < nn then cc else nn) ∧ 0 ≤ mn ∧ mn ≤ cc := ⟨_, rfl, by split <;> omega, by split <;> omega⟩
    have wm : IntKind.i64.wrap (cc - mn) = cc - mn := wr_id (by omega) (by omega)
    have x8' : UI (fun j => (n1 ≤ j ∧ j < n2) ∨ s'.n ≤ j) l2 H8 k10 b ⟨[rs0], 0, 0, false, some (1, cc, rs), 2, 0, 0, 0⟩ := x8.mono (by omega) (fun _ _ h => h) (fun _ _ _ => rfl)
    obtain ⟨v11, H11, n11, e11, ⟨hn11, x11, f11⟩⟩ := Granted_fn (d := 25) (by omega) ho2.ok ho2.is x8' (fun j hj => .inr (by omega)) (fun e c qs h => by cases h; exact inv2) (e := 2) (k := cc - mn) (by omega) (by simp) (by simp)
    have hg : grantF l2 ⟨[rs0], 0, 0, false, some (1, cc, rs), 2, 0, 0, 0⟩ 2 (cc - mn) = ⟨rs, 2, 5, true, none, 3, 0, cc, 0⟩ := by
      unfold grantF
      rw [if_neg (by simp [Wk]), if_pos (.inr rfl)]
      have : cc - mn ≤ cc := by omega
      simp [begF, granted, noCp, this]
    rw [hg] at x11
    have u11 : UAt (fun j => ¬ (n1 ≤ j ∧ j < n2) ∧ j < s'.n) l H11 n11 a pa qa oa xa (actU rs cc) := u8.mono (by omega) (fun _ _ h => h) (fun j hj hz => f11 j (by omega) (fun h => by rcases h with h | h; exact hz.1 h; omega))
    obtain ⟨pb, qb, ob, xb, h11⟩ := x11
    obtain ⟨k12, e12, hk12⟩ := u_mode h11 (d := 28) (m := n11) (lo := 0)
    obtain ⟨k13, e13, hk13⟩ := u_count h11 (d := 28) (m := k12) (lo := 0)
    obtain ⟨k14, e14', hk14⟩ := u_count u11 (d := 28) (m := k13) (lo := 0)
    obtain ⟨w15, k15, e15, hk15, hw15⟩ := u_routes h11 (by show rs.length ≤ 1000; omega) (d := 28) (m := k14) (lo := 0) (by omega)
    obtain ⟨w16, k16, e16, hk16, hw16⟩ := u_routes u11 (by show rs.length ≤ 1000; omega) (d := 28) (m := k15) (lo := 0) (by omega)
    have e17 := Same_same (D := 29) (by omega) hw15 hw16 (by have := rb3; show rs.length ≤ _; omega)
    have e18 := known_bl
    have s7 := hw7.scal
    have s15 := hw15.scal
    have s16 := hw16.scal
    simp only [Nat.reduceAdd] at e7 e8 e9 e10 e11 e12 e13 e14' e15 e16 e17 e18
    simp only [actU] at e9 e10 e14'
    simp [c0, c1', c5, c6, c8, e7, s7, e8, e9, e10, ← hmn, wm, e11, e12, e13, e14', e15, e16, s15, s16, e17, e18, B6, B7]
  obtain ⟨v, H', n', e, rfl⟩ := key
  exact ⟨H', n', e⟩
end Go.Proofs.YtnpcgejfkonfdabGreatDoor.D
