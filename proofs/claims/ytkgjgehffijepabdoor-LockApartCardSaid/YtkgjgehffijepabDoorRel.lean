/-
  What D's values and heap mean in the model's memory.
-/
import Derived.Test.YtkgjgehffijepabDoorDef
import Derived.WalkKit
set_option linter.unusedVariables false
set_option linter.unusedSimpArgs false
namespace Go.PM

/-- Where a block of D's heap lies: the model's block, cells a row, cells in all. -/
structure BI where
  blk : Nat
  sz : Nat
  size : Nat

abbrev Phi := Nat → Option BI
/-- Blocks that nobody writes, as they are. -/
abbrev Sig := Nat → Option Obj

def Sig.cell (σ : Sig) (a : Addr) : Option Value :=
  match σ a.block with
  | some (.cells c _ _) => if a.spot.isSome then none else c[a.off]?
  | _ => none

inductive RepI (σ : Sig) : IV → Value → Prop
  | bool {b : Bool} : RepI σ (.bool b) (.bool b)
  | int {k : IntKind} {n : Int} : RepI σ (.int k n) (.int k n)
  | str {s : ByteArray} : RepI σ (.str s.data.toList) (.string s)
  | nilp : RepI σ .nilp (.pointer none)
  | nils : RepI σ .nils (.slice none 0 0)
  | nilf : RepI σ .nilf .nilFunc
  | nili : RepI σ .nili .nilIface
  | undef : RepI σ .undef (.tuple #[])
  | lst {full : Bool} {sz : Nat} {es : List (List IV)} {a : Addr} {cap : Nat} (cv : Nat → Nat → Value) (hcap : es.length ≤ cap) (hfull : full = true → cap = es.length)
      (hsz : ∀ e ∈ es, e.length = sz) (hc : ∀ (i j : Nat) e c, es[i]? = some e → e[j]? = some c → σ.cell (a.add (i * sz + j)) = some (cv i j) ∧ (cv i j).oneCell' = true)
      (hr : ∀ (i j : Nat) e c, es[i]? = some e → e[j]? = some c → RepI σ c (cv i j)) : RepI σ (.lst full sz es) (.slice (some a) es.length cap)
  | cref {cells : List IV} {a : Addr} (cv : Nat → Value) (hc : ∀ (j : Nat) c, cells[j]? = some c → σ.cell (a.add j) = some (cv j))
      (hr : ∀ (j : Nat) c, cells[j]? = some c → RepI σ c (cv j)) : RepI σ (.cref cells) (.pointer (some a))
  | iface {t : TypeId} {v : IV} {rv : Value} (h : RepI σ v rv) : RepI σ (.iface t v) (.iface t rv)

inductive RepD (φ : Phi) (σ : Sig) : DV → Value → Prop
  | imm {v : IV} {rv : Value} (h : RepI σ v rv) : RepD φ σ (.imm v) rv
  | ptr {id row off : Nat} {bi : BI} (h : φ id = some bi) : RepD φ σ (.ptr id row off) (.pointer (some ⟨bi.blk, row * bi.sz + off, none⟩))
  | sl {id row len cap rcap : Nat} {bi : BI} (h : φ id = some bi) (h1 : len ≤ cap) (h2 : cap ≤ rcap) (h3 : (row + rcap) * bi.sz ≤ bi.size) :
      RepD φ σ (.sl id row len cap) (.slice (some ⟨bi.blk, row * bi.sz, none⟩) len rcap)
  | agg {cs : List DV} {vs : Array Value} (hl : cs.length = vs.size) (hr : ∀ (i : Nat) c v, cs[i]? = some c → vs[i]? = some v → RepD φ σ c v) : RepD φ σ (.agg cs) (.agg vs)
  | tup {cs : List DV} {vs : Array Value} (hl : cs.length = vs.size) (hr : ∀ (i : Nat) c v, cs[i]? = some c → vs[i]? = some v → RepD φ σ c v) : RepD φ σ (.tup cs) (.tuple vs)
  | fnc {f : FuncId} {cs : List DV} {vs : Array Value} (hl : cs.length = vs.size) (hr : ∀ (i : Nat) c v, cs[i]? = some c → vs[i]? = some v → RepD φ σ c v) :
      RepD φ σ (.fnc f cs) (.func (.func f) #[] vs)
  | lref {slot id off : Nat} {bi : BI} (h : φ id = some bi) : RepD φ σ (.lref slot id off) (.pointer (some ⟨bi.blk, off, none⟩))

/-! ### Growing -/

theorem Sig.cell_mono {σ σ' : Sig} (h : ∀ b o, σ b = some o → σ' b = some o) {a : Addr} {v : Value} (hv : σ.cell a = some v) : σ'.cell a = some v := by
  unfold Sig.cell at *
  cases hb : σ a.block with
  | none => rw [hb] at hv; cases hv
  | some o => rw [hb] at hv; rw [h _ _ hb]; exact hv

theorem RepI.mono {σ σ' : Sig} (h : ∀ b o, σ b = some o → σ' b = some o) {v : IV} {rv : Value} (hr : RepI σ v rv) : RepI σ' v rv := by
  induction hr with
  | bool => exact .bool
  | int => exact .int
  | str => exact .str
  | nilp => exact .nilp
  | nils => exact .nils
  | nilf => exact .nilf
  | nili => exact .nili
  | undef => exact .undef
  | lst cv hcap hfull hsz hc _ ih => exact .lst cv hcap hfull hsz (fun i j e c he hj => ⟨Sig.cell_mono h (hc i j e c he hj).1, (hc i j e c he hj).2⟩) ih
  | cref cv hc _ ih => exact .cref cv (fun j c hj => Sig.cell_mono h (hc j c hj)) ih
  | iface _ ih => exact .iface ih

theorem RepD.mono {φ φ' : Phi} {σ σ' : Sig} (hp : ∀ id bi, φ id = some bi → φ' id = some bi) (h : ∀ b o, σ b = some o → σ' b = some o) {v : DV} {rv : Value}
    (hr : RepD φ σ v rv) : RepD φ' σ' v rv := by
  induction hr with
  | imm hi => exact .imm (hi.mono h)
  | ptr hb => exact .ptr (hp _ _ hb)
  | sl hb h1 h2 h3 => exact .sl (hp _ _ hb) h1 h2 h3
  | agg hl _ ih => exact .agg hl ih
  | tup hl _ ih => exact .tup hl ih
  | fnc hl _ ih => exact .fnc hl ih
  | lref hb => exact .lref (hp _ _ hb)

/-! ### Lists beside arrays -/

/-- Values beside what they mean. -/
def RepDs (φ : Phi) (σ : Sig) (cs : List DV) (vs : Array Value) : Prop := cs.length = vs.size ∧ ∀ (i : Nat) c v, cs[i]? = some c → vs[i]? = some v → RepD φ σ c v

theorem RepDs.mono {φ φ' : Phi} {σ σ' : Sig} (hp : ∀ id bi, φ id = some bi → φ' id = some bi) (h : ∀ b o, σ b = some o → σ' b = some o) {cs : List DV} {vs : Array Value}
    (hr : RepDs φ σ cs vs) : RepDs φ' σ' cs vs := ⟨hr.1, fun i c v h1 h2 => (hr.2 i c v h1 h2).mono hp h⟩

theorem RepDs.get {φ : Phi} {σ : Sig} {cs : List DV} {vs : Array Value} (h : RepDs φ σ cs vs) {i : Nat} {c : DV} (hc : cs[i]? = some c) : ∃ v, vs[i]? = some v ∧ RepD φ σ c v := by
  have hi : i < cs.length := (List.getElem?_eq_some_iff.1 hc).1
  have hi' : i < vs.size := h.1 ▸ hi
  exact ⟨vs[i], Array.getElem?_eq_getElem hi', h.2 i c _ hc (Array.getElem?_eq_getElem hi')⟩

/-! ### The relation -/

def LV.id : LV → Nat
  | .box id _ => id
  | .iter id _ _ => id

/-- A row of D's cells beside a row of the model's, from a place on. -/
def CellsAt (φ : Phi) (σ : Sig) (c : Array Value) (off : Nat) (vs : List DV) : Prop :=
  ∀ (j : Nat) v, vs[j]? = some v → ∃ rv, c[off + j]? = some rv ∧ rv.oneCell' = true ∧ RepD φ σ v rv

/-- None of the first n cells is frozen. -/
def Unfr (fr : Nat × Nat) (n : Nat) : Prop := n ≤ fr.1 ∨ fr.1 = fr.2
theorem Unfr.zero (n : Nat) : Unfr (0, 0) n := .inr rfl

structure BlockAt (φ : Phi) (σ : Sig) (hb : HB) (bi : BI) (w : World) : Prop where
  sz : bi.sz = hb.sz
  pos : 0 < hb.sz
  free : σ bi.blk = none
  cells : ∃ c T fr, (w.heap[bi.blk]? = some (.cells c T fr) ∧ Unfr fr c.size) ∧ c.size = bi.size ∧ hb.rows.length * hb.sz ≤ bi.size ∧ (∀ r ∈ hb.rows, r.length = hb.sz) ∧
    ∀ (i : Nat) r, hb.rows[i]? = some r → CellsAt φ σ c (i * hb.sz) r

inductive LocalAt (φ : Phi) (σ : Sig) (w : World) : LV → BI → Prop
  | box {id : Nat} {cells : List DV} {bi : BI} {c : Array Value} {T : TypeId} (free : σ bi.blk = none) (hh : w.heap[bi.blk]? = some (.cells c T (0, 0))) (hs : c.size = cells.length)
      (hc : CellsAt φ σ c 0 cells) : LocalAt φ σ w (.box id cells) bi
  | iter {id : Nat} {s : ByteArray} {pos : Nat} {bi : BI} (free : σ bi.blk = none) (hh : w.heap[bi.blk]? = some (.stringIter s pos)) :
      LocalAt φ σ w (.iter id s.data.toList pos) bi

/-- The numbers that are in use. -/
def Liv (L : Nat → Option LV) (h : Nat → Option HB) (id : Nat) : Prop := (∃ hb, h id = some hb) ∨ ∃ k v, L k = some v ∧ v.id = id

/-- D's frame and heap beside the model's. Tch: the blocks that may be written; lo: the first number of D's heap that may be. -/
structure Rel (lo : Nat) (Tch : Nat → Prop) (φ : Phi) (σ : Sig) (T : Nat → Option DV) (L : Nat → Option LV) (h : Nat → Option HB) (tmps : Array Value) (w : World) : Prop where
  sig : ∀ b o, σ b = some o → w.heap[b]? = some o
  inj : ∀ i j bi bj, Liv L h i → Liv L h j → φ i = some bi → φ j = some bj → bi.blk = bj.blk → i = j
  rng : ∀ i bi, φ i = some bi → bi.blk < w.heap.size
  heap : ∀ id hb, h id = some hb → ∃ bi, φ id = some bi ∧ BlockAt φ σ hb bi w ∧ (lo ≤ id → Tch bi.blk)
  locs : ∀ k v, L k = some v → h v.id = none ∧ ∃ bi, φ v.id = some bi ∧ LocalAt φ σ w v bi ∧ Tch bi.blk
  apart : ∀ k k' v v', L k = some v → L k' = some v' → v.id = v'.id → k = k'
  tmp : ∀ k v, T k = some v → ∃ rv, tmps[k]? = some rv ∧ RepD φ σ v rv

/-- What a step leaves as it was. -/
structure Fr (Tch : Nat → Prop) (w w' : World) : Prop where
  os : w'.os = w.os
  out : w'.output = w.output
  size : w.heap.size ≤ w'.heap.size
  same : ∀ b, b < w.heap.size → ¬ Tch b → w'.heap[b]? = w.heap[b]?

theorem Fr.refl (Tch : Nat → Prop) (w : World) : Fr Tch w w := ⟨rfl, rfl, Nat.le_refl _, fun _ _ _ => rfl⟩
theorem Fr.trans {Tch : Nat → Prop} {w w1 w2 : World} (a : Fr Tch w w1) (b : Fr Tch w1 w2) : Fr Tch w w2 :=
  ⟨b.os.trans a.os, b.out.trans a.out, Nat.le_trans a.size b.size, fun x hx hn => (b.same x (Nat.lt_of_lt_of_le hx a.size) hn).trans (a.same x hx hn)⟩
theorem Fr.weaken {Tch Tch' : Nat → Prop} {w w' : World} (a : Fr Tch w w') (h : ∀ b, b < w.heap.size → Tch b → Tch' b) : Fr Tch' w w' :=
  ⟨a.os, a.out, a.size, fun b hb hn => a.same b hb (fun ht => hn (h b hb ht))⟩

/-- How what is known grows in a step from w on, with numbers from n up to n'. -/
structure Grow (φ φ' : Phi) (σ σ' : Sig) (n n' : Nat) (w : World) : Prop where
  ext : ∀ id bi, φ id = some bi → φ' id = some bi
  new : ∀ id bi, φ id = none → φ' id = some bi → n ≤ id ∧ id < n'
  sg : ∀ b o, σ b = some o → σ' b = some o
  sgn : ∀ b o, σ' b = some o → σ b = some o ∨ w.heap.size ≤ b

theorem Grow.refl (φ : Phi) (σ : Sig) (n n' : Nat) (w : World) : Grow φ φ σ σ n n' w :=
  ⟨fun _ _ h => h, fun _ _ h h' => (by rw [h] at h'; cases h'), fun _ _ h => h, fun _ _ h => .inl h⟩
theorem Grow.trans {φ φ1 φ2 : Phi} {σ σ1 σ2 : Sig} {n n1 n2 : Nat} {w w1 : World} (a : Grow φ φ1 σ σ1 n n1 w) (b : Grow φ1 φ2 σ1 σ2 n1 n2 w1) (h1 : n ≤ n1) (h2 : n1 ≤ n2)
    (hs : w.heap.size ≤ w1.heap.size) : Grow φ φ2 σ σ2 n n2 w := by
  refine ⟨fun id bi h => b.ext _ _ (a.ext _ _ h), fun id bi h h' => ?_, fun x o h => b.sg _ _ (a.sg _ _ h), fun x o h => ?_⟩
  · cases he : φ1 id with
    | none => obtain ⟨p, q⟩ := b.new id bi he h'; exact ⟨by omega, by omega⟩
    | some bj =>
      obtain ⟨p, q⟩ := a.new id _ h he
      exact ⟨p, by omega⟩
  · rcases b.sgn x o h with h | h
    · exact a.sgn x o h
    · exact .inr (by omega)
theorem Grow.wide {φ φ' : Phi} {σ σ' : Sig} {n n' m m' : Nat} {w : World} (a : Grow φ φ' σ σ' n n' w) (h1 : m ≤ n) (h2 : n' ≤ m') : Grow φ φ' σ σ' m m' w :=
  ⟨a.ext, fun id bi h h' => by obtain ⟨p, q⟩ := a.new id bi h h'; exact ⟨by omega, by omega⟩, a.sg, a.sgn⟩

theorem CellsAt.mono {φ φ' : Phi} {σ σ' : Sig} (hp : ∀ id bi, φ id = some bi → φ' id = some bi) (h : ∀ b o, σ b = some o → σ' b = some o) {c : Array Value} {off : Nat} {vs : List DV}
    (hc : CellsAt φ σ c off vs) : CellsAt φ' σ' c off vs := fun j v hj => by
  obtain ⟨rv, h1, h2, h3⟩ := hc j v hj
  exact ⟨rv, h1, h2, h3.mono hp h⟩

/-- A block stays what it means while its cells stay, and what is known grows. -/
theorem BlockAt.mono {φ φ' : Phi} {σ σ' : Sig} {hb : HB} {bi : BI} {w w' : World} (hp : ∀ id bi, φ id = some bi → φ' id = some bi) (h : ∀ b o, σ b = some o → σ' b = some o)
    (hf : σ' bi.blk = none) (hw : w'.heap[bi.blk]? = w.heap[bi.blk]?) (hb' : BlockAt φ σ hb bi w) : BlockAt φ' σ' hb bi w' := by
  obtain ⟨c, T, fr, ⟨h1, hu⟩, h2, h3, h4, h5⟩ := hb'.cells
  exact ⟨hb'.sz, hb'.pos, hf, c, T, fr, ⟨hw.trans h1, hu⟩, h2, h3, h4, fun i r hr => (h5 i r hr).mono hp h⟩

theorem LocalAt.mono {φ φ' : Phi} {σ σ' : Sig} {v : LV} {bi : BI} {w w' : World} (hp : ∀ id bi, φ id = some bi → φ' id = some bi) (h : ∀ b o, σ b = some o → σ' b = some o)
    (hf : σ' bi.blk = none) (hw : w'.heap[bi.blk]? = w.heap[bi.blk]?) (hb' : LocalAt φ σ w v bi) : LocalAt φ' σ' w' v bi := by
  cases hb' with
  | box free hh hs hc => exact .box hf (hw.trans hh) hs (hc.mono hp h)
  | iter free hh => exact .iter hf (hw.trans hh)

theorem LocalAt.free {φ : Phi} {σ : Sig} {w : World} {v : LV} {bi : BI} (h : LocalAt φ σ w v bi) : σ bi.blk = none := by
  cases h <;> assumption

/-- The relation stays where nothing that it speaks of is touched. -/
theorem Rel.same {lo : Nat} {Tch : Nat → Prop} {φ φ' : Phi} {σ σ' : Sig} {T : Nat → Option DV} {L : Nat → Option LV} {h : Nat → Option HB} {tmps : Array Value} {w w' : World} {n n' : Nat}
    (hR : Rel lo Tch φ σ T L h tmps w) (hg : Grow φ φ' σ σ' n n' w) (hw : ∀ b, b < w.heap.size → w'.heap[b]? = w.heap[b]?) (hs : w.heap.size ≤ w'.heap.size)
    (hsig : ∀ b o, σ' b = some o → w'.heap[b]? = some o)
    (hrng : ∀ i bi, φ' i = some bi → bi.blk < w'.heap.size) : Rel lo Tch φ' σ' T L h tmps w' := by
  have hfree : ∀ b, b < w.heap.size → σ b = none → σ' b = none := fun b hb h0 => by
    cases he : σ' b with
    | none => rfl
    | some o => rcases hg.sgn b o he with h1 | h1
                · rw [h0] at h1; cases h1
                · omega
  have hlv : ∀ id, Liv L h id → ∃ bi, φ id = some bi := fun id hid => by
    rcases hid with ⟨hb, h1⟩ | ⟨k, v, h1, rfl⟩
    · obtain ⟨bi, h2, _⟩ := hR.heap _ _ h1; exact ⟨bi, h2⟩
    · obtain ⟨_, bi, h2, _⟩ := hR.locs _ _ h1; exact ⟨bi, h2⟩
  have hinj : ∀ i j bi bj, Liv L h i → Liv L h j → φ' i = some bi → φ' j = some bj → bi.blk = bj.blk → i = j := fun i j bi bj li lj hi hj hb => by
    obtain ⟨bi', g1⟩ := hlv i li
    obtain ⟨bj', g2⟩ := hlv j lj
    have e1 := hg.ext _ _ g1
    have e2 := hg.ext _ _ g2
    rw [hi] at e1; cases e1
    rw [hj] at e2; cases e2
    exact hR.inj i j _ _ li lj g1 g2 hb
  refine ⟨hsig, hinj, hrng, fun id hb hid => ?_, fun k v hk => ?_, hR.apart, fun k v hk => ?_⟩
  · obtain ⟨bi, h1, h2, h3⟩ := hR.heap id hb hid
    have := hR.rng _ _ h1
    exact ⟨bi, hg.ext _ _ h1, h2.mono hg.ext hg.sg (hfree _ this h2.free) (hw _ this), h3⟩
  · obtain ⟨h0, bi, h1, h2, h3⟩ := hR.locs k v hk
    have := hR.rng _ _ h1
    exact ⟨h0, bi, hg.ext _ _ h1, h2.mono hg.ext hg.sg (hfree _ this h2.free) (hw _ this), h3⟩
  · obtain ⟨rv, h1, h2⟩ := hR.tmp k v hk
    exact ⟨rv, h1, h2.mono hg.ext hg.sg⟩

end Go.PM
