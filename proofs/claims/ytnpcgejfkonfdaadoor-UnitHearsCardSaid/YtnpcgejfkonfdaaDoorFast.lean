/-
  D once more, so that the kernel reckons quickly: the same functions, small pieces, values reckoned out before they are kept.
-/
import Derived.Test.YtnpcgejfkonfdaaDoorRun
set_option linter.unusedVariables false
set_option linter.unusedSimpArgs false
namespace Go.PM
def ds_mv (G : Nat → Option (List IV)) (T : Nat → Option DV) (L : Nat → Option LV) (h : Nat → Option HB) (n lo dst : Nat) (x : Opd) : Option Eff := give n (ev G T x)

def ds_pick (G : Nat → Option (List IV)) (T : Nat → Option DV) (L : Nat → Option LV) (h : Nat → Option HB) (n lo dst : Nat) (c : Opd) (a : Opd) (b : Opd) : Option Eff := match ev G T c with
    | some (.imm (.bool true)) => give n (ev G T a)
    | some (.imm (.bool false)) => give n (ev G T b)
    | _ => none

def ds_nilck (G : Nat → Option (List IV)) (T : Nat → Option DV) (L : Nat → Option LV) (h : Nat → Option HB) (n lo dst : Nat) (x : Opd) : Option Eff := match ev G T x with
    | some (.ptr id r o) => give n (some (.ptr id r o))
    | some (.lref s id o) => give n (some (.lref s id o))
    | some (.imm (.cref c)) => give n (some (.imm (.cref c)))
    | _ => none

def ds_bin (G : Nat → Option (List IV)) (T : Nat → Option DV) (L : Nat → Option LV) (h : Nat → Option HB) (n lo dst : Nat) (op : BinOp) (et : ET) (x : Opd) (y : Opd) : Option Eff := match ev G T x, ev G T y with
    | some a, some b => giveI n (binOf op et x y a b)
    | _, _ => none

def ds_un (G : Nat → Option (List IV)) (T : Nat → Option DV) (L : Nat → Option LV) (h : Nat → Option HB) (n lo dst : Nat) (op : UnOp) (x : Opd) : Option Eff := match ev G T x with
    | some a => giveI n (unOf op a)
    | none => none

def ds_cvI (G : Nat → Option (List IV)) (T : Nat → Option DV) (L : Nat → Option LV) (h : Nat → Option HB) (n lo dst : Nat) (k : IntKind) (x : Opd) : Option Eff := match ev G T x with
    | some (.imm (.int _ m)) => giveI n (some (.int k (k.wrap m)))
    | _ => none

def ds_cvBS (G : Nat → Option (List IV)) (T : Nat → Option DV) (L : Nat → Option LV) (h : Nat → Option HB) (n lo dst : Nat) (x : Opd) : Option Eff := match ev G T x with
    | some v => match rowsOf h v with
      | some (src, sz, rows) => if sz = 1 ∨ rows = [] then match mapO unImms rows with
          | some es => match bytesOf es with
            | some bs => some { v := .imm (.str bs), n' := n, acc := raccOf src }
            | none => none
          | none => none
        else none
      | none => none
    | none => none

def ds_cvSB (G : Nat → Option (List IV)) (T : Nat → Option DV) (L : Nat → Option LV) (h : Nat → Option HB) (n lo dst : Nat) (x : Opd) : Option Eff := match ev G T x with
    | some (.imm (.str s)) => giveI n (some (.lst false 1 (s.map rowOfByte)))
    | _ => none

def ds_cvBB (G : Nat → Option (List IV)) (T : Nat → Option DV) (L : Nat → Option LV) (h : Nat → Option HB) (n lo dst : Nat) (x : Opd) : Option Eff := match ev G T x with
    | some (.sl id row len cap) => if lo ≤ id then
        match h id with
        | some hb => some { v := .sl id row len cap, hw := [(id, some hb)], n' := n, acc := [.wX id] }
        | none => none
      else none
    | _ => none

def ds_mkI (G : Nat → Option (List IV)) (T : Nat → Option DV) (L : Nat → Option LV) (h : Nat → Option HB) (n lo dst : Nat) (t : TypeId) (x : Opd) : Option Eff := match ev G T x with
    | some (.imm v) => giveI n (some (.iface t v))
    | _ => none

def ds_asrt (G : Nat → Option (List IV)) (T : Nat → Option DV) (L : Nat → Option LV) (h : Nat → Option HB) (n lo dst : Nat) (t : TypeId) (zero : IV) (ok : Bool) (x : Opd) : Option Eff := match ev G T x with
    | some (.imm .nili) => if ok then give n (some (.tup [.imm zero, .imm (.bool false)])) else none
    | some (.imm (.iface t' v)) =>
      if t' = t then give n (some (if ok then .tup [.imm v, .imm (.bool true)] else .imm v))
      else if ok then give n (some (.tup [.imm zero, .imm (.bool false)])) else none
    | _ => none

def ds_mkF (G : Nat → Option (List IV)) (T : Nat → Option DV) (L : Nat → Option LV) (h : Nat → Option HB) (n lo dst : Nat) (f : FuncId) (caps : List Opd) : Option Eff := match evs G T caps with
    | some vs => if DV.out.outs vs then give n (some (.fnc f vs)) else none
    | none => none

def ds_fld (G : Nat → Option (List IV)) (T : Nat → Option DV) (L : Nat → Option LV) (h : Nat → Option HB) (n lo dst : Nat) (off : Nat) (x : Opd) : Option Eff := match ev G T x with
    | some (.ptr id r o) => give n (some (.ptr id r (o + off)))
    | some (.lref s id o) => give n (some (.lref s id (o + off)))
    | some (.imm (.cref cs)) => if off < cs.length then give n (some (.imm (.cref (cs.drop off)))) else none
    | _ => none

def ds_idx (G : Nat → Option (List IV)) (T : Nat → Option DV) (L : Nat → Option LV) (h : Nat → Option HB) (n lo dst : Nat) (s : Nat) (x : Opd) (i : Opd) : Option Eff := match ev G T x, ev G T i with
    | some a, some b => match asNat b with
      | some j => match a with
        | .imm (.lst _ sz es) => match es[j]? with
          | some e => if sz = s ∧ 0 < s then give n (some (.imm (.cref e))) else none
          | none => none
        | .sl id row len _ => match h id with
          | some hb => if j < len ∧ hb.sz = s then some { v := .ptr id (row + j) 0, n' := n, acc := [.rX id] } else none
          | none => none
        | _ => none
      | none => none
    | _, _ => none

def ds_idxA (G : Nat → Option (List IV)) (T : Nat → Option DV) (L : Nat → Option LV) (h : Nat → Option HB) (n lo dst : Nat) (s : Nat) (k : Nat) (x : Opd) (i : Opd) : Option Eff := match ev G T x, ev G T i with
    | some a, some b => match asNat b with
      | some j => if j < k ∧ 0 < s then match a with
          | .ptr id r o => give n (some (.ptr id r (o + j * s)))
          | .lref sl id o => give n (some (.lref sl id (o + j * s)))
          | .imm (.cref cs) => if j * s < cs.length then give n (some (.imm (.cref (cs.drop (j * s))))) else none
          | _ => none
        else none
      | none => none
    | _, _ => none

def ds_ld (G : Nat → Option (List IV)) (T : Nat → Option DV) (L : Nat → Option LV) (h : Nat → Option HB) (n lo dst : Nat) (k : Nat) (agg : Bool) (x : Opd) : Option Eff := match ev G T x with
    | some a => loadOf L h n k agg a
    | none => none

def ds_st (G : Nat → Option (List IV)) (T : Nat → Option DV) (L : Nat → Option LV) (h : Nat → Option HB) (n lo dst : Nat) (k : Nat) (x : Opd) (v : Opd) : Option Eff := match ev G T x, ev G T v with
    | some a, some b => storeOf L h n lo k b a
    | _, _ => none

def ds_part (G : Nat → Option (List IV)) (T : Nat → Option DV) (L : Nat → Option LV) (h : Nat → Option HB) (n lo dst : Nat) (off : Nat) (k : Nat) (agg : Bool) (x : Opd) : Option Eff := match ev G T x with
    | some (.agg cs) => match cut cs off k with
      | some r => give n (ofCells agg r)
      | none => none
    | _ => none

def ds_idxV (G : Nat → Option (List IV)) (T : Nat → Option DV) (L : Nat → Option LV) (h : Nat → Option HB) (n lo dst : Nat) (s : Nat) (k : Nat) (agg : Bool) (x : Opd) (i : Opd) : Option Eff := match ev G T x, ev G T i with
    | some (.agg cs), some b => match asNat b with
      | some j => if j < k then match cut cs (j * s) s with
          | some r => give n (ofCells agg r)
          | none => none
        else none
      | none => none
    | _, _ => none

def ds_idxS (G : Nat → Option (List IV)) (T : Nat → Option DV) (L : Nat → Option LV) (h : Nat → Option HB) (n lo dst : Nat) (x : Opd) (i : Opd) : Option Eff := match ev G T x, ev G T i with
    | some (.imm (.str s)), some b => match asNat b with
      | some j => match s[j]? with
        | some c => giveI n (some (.int .u8 c.toNat))
        | none => none
      | none => none
    | _, _ => none

def ds_boxL (G : Nat → Option (List IV)) (T : Nat → Option DV) (L : Nat → Option LV) (h : Nat → Option HB) (n lo dst : Nat) (v : Opd) : Option Eff := match ev G T v with
    | some a => if a.cells.all DV.scal then some { v := .lref dst n 0, lw := [(dst, .box n a.cells)], n' := n + 1, acc := [.wL dst] } else none
    | none => none

def ds_boxH (G : Nat → Option (List IV)) (T : Nat → Option DV) (L : Nat → Option LV) (h : Nat → Option HB) (n lo dst : Nat) (v : Opd) : Option Eff := match ev G T v with
    | some a => if a.cells.all DV.scal ∧ a.out ∧ 0 < a.cells.length then some { v := .ptr n 0 0, hw := [(n, some ⟨a.cells.length, [a.cells]⟩)], n' := n + 1, acc := [.wX n] } else none
    | none => none

def ds_alL (G : Nat → Option (List IV)) (T : Nat → Option DV) (L : Nat → Option LV) (h : Nat → Option HB) (n lo dst : Nat) (zero : List IV) : Option Eff := some { v := .lref dst n 0, lw := [(dst, .box n (imms zero))], n' := n + 1, acc := [.wL dst] }

def ds_alH (G : Nat → Option (List IV)) (T : Nat → Option DV) (L : Nat → Option LV) (h : Nat → Option HB) (n lo dst : Nat) (zero : List IV) : Option Eff := if 0 < zero.length then some { v := .ptr n 0 0, hw := [(n, some ⟨zero.length, [imms zero]⟩)], n' := n + 1, acc := [.wX n] } else none

def ds_build (G : Nat → Option (List IV)) (T : Nat → Option DV) (L : Nat → Option LV) (h : Nat → Option HB) (n lo dst : Nat) (zero : List IV) (parts : List (Nat × Nat × Opd)) : Option Eff := match evParts G T parts with
    | some ps => give n ((lay (imms zero) ps).map .agg)
    | none => none

def ds_bsl (G : Nat → Option (List IV)) (T : Nat → Option DV) (L : Nat → Option LV) (h : Nat → Option HB) (n lo dst : Nat) (mt : Bool) (s : Nat) (zero : List IV) (len : Nat) (parts : List (Nat × Opd)) : Option Eff := match evParts2 G T parts with
    | some ps =>
      if 0 < s ∧ zero.length = s then
        match lay ((List.replicate len (imms zero)).flatten) (ps.map fun p => (p.1 * s, s, p.2)) with
        | some cells =>
          if cells.all DV.scal then
            match (if mt then none else unImms cells) with
            | some vs => giveI n (some (.lst true s (rowsN s len vs)))
            | none => if DV.out.outs cells ∧ 0 < len then some { v := .sl n 0 len len, hw := [(n, some ⟨s, rowsN s len cells⟩)], n' := n + 1, acc := [.wX n] } else none
          else none
        | none => none
      else none
    | none => none

def ds_mks (G : Nat → Option (List IV)) (T : Nat → Option DV) (L : Nat → Option LV) (h : Nat → Option HB) (n lo dst : Nat) (mt : Bool) (s : Nat) (bytes : Nat) (zero : List IV) (l : Opd) : Option Eff := match ev G T l with
    | some b => match asNat b with
      | some len => if 0 < s ∧ zero.length = s ∧ len ≤ appMax ∧ len * bytes ≤ appMax then
          if mt then some { v := .sl n 0 len len, hw := [(n, some ⟨s, List.replicate len (imms zero)⟩)], n' := n + 1, acc := [.wX n] }
          else giveI n (some (.lst true s (List.replicate len zero)))
        else none
      | none => none
    | none => none

def ds_slc (G : Nat → Option (List IV)) (T : Nat → Option DV) (L : Nat → Option LV) (h : Nat → Option HB) (n lo dst : Nat) (s : Nat) (x : Opd) (l : Option Opd) (hi : Option Opd) (mx : Option Opd) : Option Eff := match ev G T x, evO G T l, evO G T hi, evO G T mx with
    | some a, some l, some hi, some mx => sliceOf h n s a l hi mx
    | _, _, _, _ => none

def ds_slS (G : Nat → Option (List IV)) (T : Nat → Option DV) (L : Nat → Option LV) (h : Nat → Option HB) (n lo dst : Nat) (x : Opd) (l : Option Opd) (hi : Option Opd) : Option Eff := match ev G T x, evO G T l, evO G T hi with
    | some (.imm (.str s)), some l, some hi => giveI n (sliceStr s l hi)
    | _, _, _ => none

def ds_len (G : Nat → Option (List IV)) (T : Nat → Option DV) (L : Nat → Option LV) (h : Nat → Option HB) (n lo dst : Nat) (x : Opd) : Option Eff := match ev G T x with
    | some a => giveI n ((lenOf a).map fun m => .int .i64 m)
    | none => none

def ds_lenS (G : Nat → Option (List IV)) (T : Nat → Option DV) (L : Nat → Option LV) (h : Nat → Option HB) (n lo dst : Nat) (x : Opd) : Option Eff := match ev G T x with
    | some (.imm (.str s)) => giveI n (some (.int .i64 s.length))
    | _ => none

def ds_lenA (G : Nat → Option (List IV)) (T : Nat → Option DV) (L : Nat → Option LV) (h : Nat → Option HB) (n lo dst : Nat) (k : Nat) : Option Eff := giveI n (some (.int .i64 k))

def ds_cap (G : Nat → Option (List IV)) (T : Nat → Option DV) (L : Nat → Option LV) (h : Nat → Option HB) (n lo dst : Nat) (x : Opd) : Option Eff := match ev G T x with
    | some (.imm .nils) => giveI n (some (.int .i64 0))
    | some (.imm (.lst true _ es)) => giveI n (some (.int .i64 es.length))
    | _ => none

def ds_mn (G : Nat → Option (List IV)) (T : Nat → Option DV) (L : Nat → Option LV) (h : Nat → Option HB) (n lo dst : Nat) (x : Opd) (y : Opd) : Option Eff := match ev G T x, ev G T y with
    | some (.imm (.int k a)), some (.imm (.int k' b)) => if k = k' then giveI n (some (.int k (if b < a then b else a))) else none
    | _, _ => none

def ds_mx (G : Nat → Option (List IV)) (T : Nat → Option DV) (L : Nat → Option LV) (h : Nat → Option HB) (n lo dst : Nat) (x : Opd) (y : Opd) : Option Eff := match ev G T x, ev G T y with
    | some (.imm (.int k a)), some (.imm (.int k' b)) => if k = k' then giveI n (some (.int k (if b > a then b else a))) else none
    | _, _ => none

def ds_app (G : Nat → Option (List IV)) (T : Nat → Option DV) (L : Nat → Option LV) (h : Nat → Option HB) (n lo dst : Nat) (s : Nat) (bytes : Nat) (x : Opd) (y : Opd) : Option Eff := match ev G T x, ev G T y with
    | some a, some b => appOf h n lo s bytes a b
    | _, _ => none

def ds_appZ (G : Nat → Option (List IV)) (T : Nat → Option DV) (L : Nat → Option LV) (h : Nat → Option HB) (n lo dst : Nat) (s : Nat) (bytes : Nat) (zero : List IV) (x : Opd) (y : Opd) : Option Eff := match ev G T x, ev G T y with
    | some (.imm .nils), some b => match asNat b with
      | some k => if 0 < k ∧ 0 < s ∧ zero.length = s ∧ k ≤ appMax ∧ k * bytes ≤ appMax then
          some { v := .sl n 0 k k, hw := [(n, some ⟨s, List.replicate k (imms zero)⟩)], n' := n + 1, acc := [.wX n] }
        else none
      | none => none
    | _, _ => none

def ds_rng (G : Nat → Option (List IV)) (T : Nat → Option DV) (L : Nat → Option LV) (h : Nat → Option HB) (n lo dst : Nat) (x : Opd) : Option Eff := match ev G T x with
    | some (.imm (.str s)) => some { v := .lref dst n 0, lw := [(dst, .iter n s 0)], n' := n + 1, acc := [.wL dst] }
    | _ => none

def ds_nxt (G : Nat → Option (List IV)) (T : Nat → Option DV) (L : Nat → Option LV) (h : Nat → Option HB) (n lo dst : Nat) (slot : Nat) : Option Eff := match T slot, L slot with
    | some (.lref s id 0), some (.iter id' str pos) => if s = slot ∧ id = id' then
        if pos < str.length then
          let d := Utf8.decode ⟨str.toArray⟩ pos
          some { v := .tup [.imm (.bool true), .imm (.int .i64 pos), .imm (.int .i32 d.1)], lw := [(slot, .iter id str (pos + d.2))], n' := n, acc := [.wL slot] }
        else some { v := .tup [.imm (.bool false)], n' := n, acc := [.rL slot] }
      else none
    | _, _ => none

def ds_ext (G : Nat → Option (List IV)) (T : Nat → Option DV) (L : Nat → Option LV) (h : Nat → Option HB) (n lo dst : Nat) (i : Nat) (x : Opd) : Option Eff := match ev G T x with
    | some (.tup vs) => give n vs[i]?
    | _ => none
def dstepF (G : Nat → Option (List IV)) (T : Nat → Option DV) (L : Nat → Option LV) (h : Nat → Option HB) (n lo dst : Nat) : DOp → Option Eff
  | .mv x => ds_mv G T L h n lo dst x
  | .pick c a b => ds_pick G T L h n lo dst c a b
  | .nilck x => ds_nilck G T L h n lo dst x
  | .bin op et x y => ds_bin G T L h n lo dst op et x y
  | .un op x => ds_un G T L h n lo dst op x
  | .cvI k x => ds_cvI G T L h n lo dst k x
  | .cvBS x => ds_cvBS G T L h n lo dst x
  | .cvSB x => ds_cvSB G T L h n lo dst x
  | .cvBB x => ds_cvBB G T L h n lo dst x
  | .mkI t x => ds_mkI G T L h n lo dst t x
  | .asrt t zero ok x => ds_asrt G T L h n lo dst t zero ok x
  | .mkF f caps => ds_mkF G T L h n lo dst f caps
  | .fld off x => ds_fld G T L h n lo dst off x
  | .idx s x i => ds_idx G T L h n lo dst s x i
  | .idxA s k x i => ds_idxA G T L h n lo dst s k x i
  | .ld k agg x => ds_ld G T L h n lo dst k agg x
  | .st k x v => ds_st G T L h n lo dst k x v
  | .part off k agg x => ds_part G T L h n lo dst off k agg x
  | .idxV s k agg x i => ds_idxV G T L h n lo dst s k agg x i
  | .idxS x i => ds_idxS G T L h n lo dst x i
  | .boxL v => ds_boxL G T L h n lo dst v
  | .boxH v => ds_boxH G T L h n lo dst v
  | .alL zero => ds_alL G T L h n lo dst zero
  | .alH zero => ds_alH G T L h n lo dst zero
  | .build zero parts => ds_build G T L h n lo dst zero parts
  | .bsl mt s zero len parts => ds_bsl G T L h n lo dst mt s zero len parts
  | .mks mt s bytes zero l => ds_mks G T L h n lo dst mt s bytes zero l
  | .slc s x l hi mx => ds_slc G T L h n lo dst s x l hi mx
  | .slS x l hi => ds_slS G T L h n lo dst x l hi
  | .len x => ds_len G T L h n lo dst x
  | .lenS x => ds_lenS G T L h n lo dst x
  | .lenA k => ds_lenA G T L h n lo dst k
  | .cap x => ds_cap G T L h n lo dst x
  | .mn x y => ds_mn G T L h n lo dst x y
  | .mx x y => ds_mx G T L h n lo dst x y
  | .app s bytes x y => ds_app G T L h n lo dst s bytes x y
  | .appZ s bytes zero x y => ds_appZ G T L h n lo dst s bytes zero x y
  | .rng x => ds_rng G T L h n lo dst x
  | .nxt slot => ds_nxt G T L h n lo dst slot
  | .ext i x => ds_ext G T L h n lo dst i x
  | .call .. => none
  | .calld .. => none
theorem dstepF_eq (G : Nat → Option (List IV)) (T : Nat → Option DV) (L : Nat → Option LV) (h : Nat → Option HB) (n lo dst : Nat) (o : DOp) : dstepF G T L h n lo dst o = dstep G T L h n lo dst o := by cases o <;> rfl


/-! ### Slots by their bits -/
inductive Pos where
  | z | l (p : Pos) | r (p : Pos)
def bitsN : Nat → Nat → Pos
  | 0, _ => .z
  | k + 1, n => match n with
    | 0 => .z
    | m + 1 => bif Nat.beq (m % 2) 0 then .l (bitsN k (m / 2)) else .r (bitsN k (m / 2))
def bits (n : Nat) : Pos := bitsN n n
section
variable {α : Type}
noncomputable def getP (t : PT α) : Pos → Option α :=
  PT.rec (motive := fun _ => Pos → Option α) (fun _ => none) (fun _ v _ gl gr p => Pos.rec (motive := fun _ => Option α) v (fun p _ => gl p) (fun p _ => gr p) p) t
noncomputable def putP (p : Pos) : Option α → PT α → PT α :=
  Pos.rec (motive := fun _ => Option α → PT α → PT α)
   (fun v t => PT.rec (motive := fun _ => PT α) (.nd .lf v .lf) (fun l _ r _ _ => .nd l v r) t)
   (fun _ f v t => PT.rec (motive := fun _ => PT α) (.nd (f v .lf) none .lf) (fun l w r _ _ => .nd (f v l) w r) t)
   (fun _ f v t => PT.rec (motive := fun _ => PT α) (.nd .lf none (f v .lf)) (fun l w r _ _ => .nd l w (f v r)) t) p

theorem getP_eq : ∀ (k n : Nat) (t : PT α), n ≤ k → getP t (bitsN k n) = t.get n := by
  intro k
  induction k with
  | zero =>
    intro n t hn
    obtain rfl : n = 0 := by omega
    cases t <;> rfl
  | succ k ih =>
    intro n t hn
    cases n with
    | zero => cases t <;> rfl
    | succ m =>
      cases t with
      | lf => simp only [bitsN, PT.get]; cases Nat.beq (m % 2) 0 <;> rfl
      | nd l v r =>
        simp only [bitsN, PT.get]
        by_cases h : m % 2 = 0
        · have : Nat.beq (m % 2) 0 = true := by rw [h]; rfl
          rw [this, if_pos h]
          exact ih (m / 2) l (by omega)
        · have : Nat.beq (m % 2) 0 = false := by
            cases hb : Nat.beq (m % 2) 0 with
            | false => rfl
            | true => exact absurd (Nat.eq_of_beq_eq_true hb) h
          rw [this, if_neg h]
          exact ih (m / 2) r (by omega)
theorem putP_eq : ∀ (k n j : Nat) (t : PT α) (v : Option α), n ≤ k → n < j → putP (bitsN k n) v t = PT.ins j t n v := by
  intro k
  induction k with
  | zero =>
    intro n j t v hn hj
    obtain rfl : n = 0 := by omega
    obtain ⟨j, rfl⟩ : ∃ i, j = i + 1 := ⟨j - 1, by omega⟩
    cases t <;> rfl
  | succ k ih =>
    intro n j t v hn hj
    obtain ⟨j, rfl⟩ : ∃ i, j = i + 1 := ⟨j - 1, by omega⟩
    cases n with
    | zero => cases t <;> rfl
    | succ m =>
      by_cases h : m % 2 = 0
      · have hb : Nat.beq (m % 2) 0 = true := by rw [h]; rfl
        simp only [bitsN, PT.ins, hb, cond_true, if_pos h]
        cases t with
        | lf => simp only [PT.left, PT.val, PT.right, ← ih (m / 2) j .lf v (by omega) (by omega)]; rfl
        | nd l w r => simp only [PT.left, PT.val, PT.right, ← ih (m / 2) j l v (by omega) (by omega)]; rfl
      · have hb : Nat.beq (m % 2) 0 = false := by
          cases hb : Nat.beq (m % 2) 0 with
          | false => rfl
          | true => exact absurd (Nat.eq_of_beq_eq_true hb) h
        simp only [bitsN, PT.ins, hb, cond_false, if_neg h]
        cases t with
        | lf => simp only [PT.left, PT.val, PT.right, ← ih (m / 2) j .lf v (by omega) (by omega)]; rfl
        | nd l w r => simp only [PT.left, PT.val, PT.right, ← ih (m / 2) j r v (by omega) (by omega)]; rfl
noncomputable def getF (t : PT α) (n : Nat) : Option α := getP t (bits n)
noncomputable def putF (t : PT α) (n : Nat) (v : Option α) : PT α := putP (bits n) v t
theorem getF_eq (t : PT α) : getF t = t.get := funext fun n => getP_eq n n t (Nat.le_refl _)
theorem putF_eq (t : PT α) (n : Nat) (v : Option α) : putF t n v = t.put n v := putP_eq n n (n + 1) t v (Nat.le_refl _) (by omega)
end

/-! ### Values that are reckoned out before they are kept -/
section
variable {α : Type}
noncomputable def fN (n : Nat) (c : Nat → α) : α := Nat.rec (motive := fun _ => α) (c 0) (fun m _ => c (Nat.succ m)) n
theorem fN_eq (n : Nat) (c : Nat → α) : fN n c = c n := by cases n <;> rfl
noncomputable def fI (n : Int) (c : Int → α) : α := Int.rec (motive := fun _ => α) (fun m => fN m fun m => c (Int.ofNat m)) (fun m => fN m fun m => c (Int.negSucc m)) n
theorem fI_eq (n : Int) (c : Int → α) : fI n c = c n := by
  cases n with
  | ofNat m => exact fN_eq m fun m => c (Int.ofNat m)
  | negSucc m => exact fN_eq m fun m => c (Int.negSucc m)
noncomputable def fB (b : Bool) (c : Bool → α) : α := Bool.rec (motive := fun _ => α) (c false) (c true) b
theorem fB_eq (b : Bool) (c : Bool → α) : fB b c = c b := by cases b <;> rfl
noncomputable def fIV (v : IV) (c : IV → α) : α := match v with
  | .int k n => fI n fun n => c (.int k n)
  | .bool b => fB b fun b => c (.bool b)
  | .nilp => c .nilp
  | .nils => c .nils
  | .undef => c .undef
  | v => c v
theorem fIV_eq (v : IV) (c : IV → α) : fIV v c = c v := by 
  cases v with
  | int k n => exact fI_eq n fun n => c (.int k n)
  | bool b => exact fB_eq b fun b => c (.bool b)
  | _ => rfl
noncomputable def fDV (v : DV) (c : DV → α) : α := match v with
  | .imm v => fIV v fun v => c (.imm v)
  | .ptr i r o => fN i fun i => fN r fun r => fN o fun o => c (.ptr i r o)
  | .sl i r l k => fN i fun i => fN r fun r => fN l fun l => fN k fun k => c (.sl i r l k)
  | .lref s i o => fN s fun s => fN i fun i => fN o fun o => c (.lref s i o)
  | v => c v
theorem fDV_eq (v : DV) (c : DV → α) : fDV v c = c v := by
  cases v with
  | imm v => exact fIV_eq v fun v => c (.imm v)
  | _ => first | rfl | simp only [fDV, fN_eq]
noncomputable def fOV (v : Option DV) (c : Option DV → α) : α := match v with
  | some v => fDV v fun v => c (some v)
  | none => c none
theorem fOV_eq (v : Option DV) (c : Option DV → α) : fOV v c = c v := by 
  cases v with
  | some v => exact fDV_eq v fun v => c (some v)
  | none => rfl
end

/-! ### One operation -/
noncomputable def putTF (T : PT DV) (dst : Option Nat) (v : DV) : PT DV := Option.rec (motive := fun _ => PT DV) T (fun d => putF T d (some v)) dst
theorem putTF_eq (T : PT DV) (dst : Option Nat) (v : DV) : putTF T dst v = putT T dst v := by
  cases dst with
  | none => rfl
  | some d => exact putF_eq T d (some v)
noncomputable def putLF (L : PT LV) (l : List (Nat × LV)) : PT LV := List.rec (motive := fun _ => PT LV → PT LV) (fun L => L) (fun p _ f L => f (putF L p.1 (some p.2))) l L
theorem putLF_eq : ∀ (l : List (Nat × LV)) (L : PT LV), putLF L l = putL L l
  | [], L => rfl
  | (k, v) :: r, L => by
    show putLF (putF L k (some v)) r = putL (L.put k (some v)) r
    rw [putLF_eq r, putF_eq]
noncomputable def putHF (H : PT HB) (l : List (Nat × Option HB)) : PT HB := List.rec (motive := fun _ => PT HB → PT HB) (fun H => H) (fun p _ f H => f (putF H p.1 p.2)) l H
theorem putHF_eq : ∀ (l : List (Nat × Option HB)) (H : PT HB), putHF H l = putH H l
  | [], H => rfl
  | (k, v) :: r, H => by
    show putHF (putF H k v) r = putH (H.put k v) r
    rw [putHF_eq r, putF_eq]

section
variable (G : Nat → Option (List IV)) (K : Callee) (lo : Nat)
noncomputable def finE (s : St) (dst : Option Nat) (e : Eff) : Option (St × List Acc) := match e with
  | ⟨v, lw, hw, n', acc⟩ => match s with
    | ⟨T, L, H, n⟩ => fDV v fun v => fN n' fun n' => some (⟨putTF T dst v, putLF L lw, putHF H hw, n'⟩, acc)
noncomputable def finO (s : St) (dst : Option Nat) (e : Option Eff) : Option (St × List Acc) := match e with
  | some e => finE s dst e
  | none => none
noncomputable def finC (s : St) (dst : Option Nat) (e : Option CEff) : Option (St × List Acc) := match e with
  | some ⟨v, H', n', acc⟩ => match s with
    | ⟨T, L, _, _⟩ => fDV v fun v => fN n' fun n' => some (⟨putTF T dst v, L, H', n'⟩, acc)
  | none => none
noncomputable def goOp (dst : Option Nat) (op : DOp) (s : St) : Option (St × List Acc) := match op with
  | .call m f args => match s with
    | ⟨T, L, H, n⟩ => match evs G (getF T) args with
      | some vs => finC ⟨T, L, H, n⟩ dst (callM K m f vs H n lo)
      | none => none
  | .calld m f args => match s with
    | ⟨T, L, H, n⟩ => match ev G (getF T) f, evs G (getF T) args with
      | some (.fnc g caps), some vs => finC ⟨T, L, H, n⟩ dst (callM K m g (vs ++ caps) H n lo)
      | _, _ => none
  | op => match s with
    | ⟨T, L, H, n⟩ => finO ⟨T, L, H, n⟩ dst (dstepF G (getF T) (getF L) (getF H) n lo (dst.getD 0) op)
noncomputable def opF (o : DO) (s : St) : Option (St × List Acc) := match o with
  | ⟨dst, op, none⟩ => goOp G K lo dst op s
  | ⟨dst, op, some (g, w)⟩ => match getF s.T g with
    | some (.imm (.bool b)) => match b == w with
      | true => goOp G K lo dst op s
      | false => some ({ s with T := putTF s.T dst (.imm .undef) }, [])
    | some (.imm .undef) => some ({ s with T := putTF s.T dst (.imm .undef) }, [])
    | _ => none
theorem finO_eq (s : St) (dst : Option Nat) (e : Option Eff) : finO s dst e = e.map fun e => (⟨putT s.T dst e.v, putL s.L e.lw, putH s.H e.hw, e.n'⟩, e.acc) := by
  cases e with
  | none => rfl
  | some e => simp only [finO, finE, fDV_eq, fN_eq, putTF_eq, putLF_eq, putHF_eq, Option.map]
theorem finC_eq (s : St) (dst : Option Nat) (e : Option CEff) : finC s dst e = e.map fun e => ({ s with T := putT s.T dst e.v, H := e.H', n := e.n' }, e.acc) := by
  cases e with
  | none => rfl
  | some e => simp only [finC, fDV_eq, fN_eq, putTF_eq, Option.map]
theorem goOp_eq (dst : Option Nat) (op : DOp) (s : St) : goOp G K lo dst op s = opRun G K lo ⟨dst, op, none⟩ s := by
  cases op with
  | call m f args =>
    simp only [goOp, opRun, getF_eq, finC_eq]
    cases evs G s.T.get args <;> rfl
  | calld m f args =>
    simp only [goOp, opRun, getF_eq, finC_eq]
    rfl
  | _ => simp only [goOp, opRun, getF_eq, finO_eq, dstepF_eq]
theorem opF_eq (o : DO) (s : St) : opF G K lo o s = opRun G K lo o s := by
  obtain ⟨dst, op, g⟩ := o
  cases g with
  | none => exact goOp_eq G K lo dst op s
  | some p =>
    obtain ⟨g, w⟩ := p
    have e := goOp_eq G K lo dst op s
    simp only [opF, getF_eq, putTF_eq]
    simp only [opRun] at e ⊢
    cases s.T.get g with
    | none => rfl
    | some v =>
      cases v with
      | imm v =>
        cases v with
        | bool b => cases hb : (b == w) <;> simp only [hb] <;> first | rfl | exact e
        | _ => rfl
      | _ => rfl

noncomputable def opsF (l : List DO) : St → Option (St × List (List Acc)) :=
  List.rec (motive := fun _ => St → Option (St × List (List Acc))) (fun s => some (s, [])) (fun o _ f s => match opF G K lo o s with
    | some (s', a) => match f s' with
      | some (s2, as) => some (s2, a :: as)
      | none => none
    | none => none) l
theorem opsF_eq : ∀ (l : List DO) (s : St), opsF G K lo l s = opsRun G K lo l s
  | [], s => rfl
  | o :: os, s => by
    show (match opF G K lo o s with
      | some (s', a) => (match opsF G K lo os s' with
        | some (s2, as) => some (s2, a :: as)
        | none => none)
      | none => none) = _
    simp only [opsRun, opF_eq]
    cases opRun G K lo o s with
    | none => rfl
    | some r =>
      simp only [opsF_eq os]
      cases opsRun G K lo os r.1 <;> rfl
/-- A region whose order is the text's: nothing is kept of what was looked at. -/
noncomputable def regF (l : List DO) : St → Option (Ex × St) :=
  List.rec (motive := fun _ => St → Option (Ex × St)) (fun s => some (.norm, s)) (fun o _ f s => match opF G K lo o s with
    | some (s', _) => f s'
    | none => none) l
theorem regF_eq : ∀ (l : List DO) (s : St), regF G K lo l s = (DC.reg l).run G K lo s
  | [], s => rfl
  | o :: os, s => by
    rw [run_reg]
    show (match opF G K lo o s with
      | some (s', _) => regF G K lo os s'
      | none => none) = _
    rw [opF_eq]
    cases opRun G K lo o s with
    | none => rfl
    | some r =>
      show regF G K lo os r.1 = _
      rw [regF_eq os]; rfl

noncomputable def keepF (t : PT DV) (l : List Nat) (c : PT DV → Option (Ex × St)) : Option (Ex × St) :=
  List.rec (motive := fun _ => (PT DV → Option (Ex × St)) → Option (Ex × St)) (fun c => c .lf) (fun k _ f c => f fun u => fOV (getF t k) fun v => c (putF u k v)) l c
theorem keepF_eq (t : PT DV) : ∀ (l : List Nat) (c : PT DV → Option (Ex × St)), keepF t l c = c (keep t l)
  | [], c => rfl
  | k :: ks, c => by
    show keepF t ks (fun u => fOV (getF t k) fun v => c (putF u k v)) = _
    rw [keepF_eq t ks]
    simp only [fOV_eq, getF_eq, putF_eq, keep]

noncomputable def iterF (f : St → Option (Ex × St)) (k : Nat) : St → Option (Ex × St) :=
  Nat.rec (motive := fun _ => St → Option (Ex × St)) (fun _ => none) (fun _ g s => match f s with
    | some (.norm, s') => g s'
    | r => r) k
theorem iterF_eq {f g : St → Option (Ex × St)} (h : ∀ s, f s = g s) : ∀ (k : Nat) (s : St), iterF f k s = iter g k s
  | 0, s => rfl
  | k + 1, s => by
    show (match f s with
    | some (.norm, s') => iterF f k s'
    | r => r) = _
    simp only [iter, h]
    cases g s with
    | none => rfl
    | some r =>
      obtain ⟨e, s'⟩ := r
      cases e with
      | norm => exact iterF_eq h k s'
      | _ => rfl

noncomputable def runF (c : DC) : St → Option (Ex × St) :=
  DC.rec (motive := fun _ => St → Option (Ex × St))
    (fun s => some (.norm, s))
    (fun ops => regF G K lo ops)
    (fun ops bef s => match opsF G K lo ops s with
      | some (s', accs) => bif calm bef accs then some (.norm, s') else none
      | none => none)
    (fun _ _ fa fb s => match fa s with
      | some (.norm, s') => fb s'
      | r => r)
    (fun c _ _ fa fb s => match ev G (getF s.T) c with
      | some (.imm (.bool true)) => fa s
      | some (.imm (.bool false)) => fb s
      | _ => none)
    (fun id _ fb s => match fb s with
      | some (.exit i, s') => bif Nat.beq i id then some (.norm, s') else some (.exit i, s')
      | r => r)
    (fun live own _ fb => iterF (fun s => match s with
      | ⟨T, L, H, n⟩ => keepF T live fun T => fb ⟨T, keep L own, H, n⟩) LOOP)
    (fun id s => some (.exit id, s))
    (fun s => some (.ret, s)) c
theorem runF_eq (c : DC) : ∀ s, runF G K lo c s = c.run G K lo s := by
  induction c with
  | skip => intro s; rfl
  | reg ops => intro s; exact regF_eq G K lo ops s
  | drw ops bef =>
    intro s
    show (match opsF G K lo ops s with
      | some (s', accs) => bif calm bef accs then some (Ex.norm, s') else none
      | none => none) = _
    rw [opsF_eq]
    simp only [DC.run]
    cases opsRun G K lo ops s with
    | none => rfl
    | some r => obtain ⟨s', a⟩ := r; cases hc : calm bef a <;> simp [hc]
  | seq a b iha ihb =>
    intro s
    show (match runF G K lo a s with
      | some (Ex.norm, s') => runF G K lo b s'
      | r => r) = _
    simp only [DC.run, iha]
    cases a.run G K lo s with
    | none => rfl
    | some r =>
      obtain ⟨e, s'⟩ := r
      cases e with
      | norm => exact ihb s'
      | _ => rfl
  | cond c a b iha ihb =>
    intro s
    show (match ev G (getF s.T) c with
      | some (.imm (.bool true)) => runF G K lo a s
      | some (.imm (.bool false)) => runF G K lo b s
      | _ => none) = _
    simp only [DC.run, iha, ihb, getF_eq]
    rfl
  | block id b ih =>
    intro s
    show (match runF G K lo b s with
      | some (Ex.exit i, s') => bif Nat.beq i id then some (Ex.norm, s') else some (Ex.exit i, s')
      | r => r) = _
    simp only [DC.run, ih]
    cases b.run G K lo s with
    | none => rfl
    | some r =>
      obtain ⟨e, s'⟩ := r
      cases e with
      | exit i =>
        show (bif Nat.beq i id then some (Ex.norm, s') else some (.exit i, s')) = if i = id then some (.norm, s') else some (.exit i, s')
        by_cases h : i = id
        · subst h; rw [if_pos rfl, show Nat.beq i i = true from Nat.beq_refl i]; rfl
        · rw [if_neg h]
          cases hb : Nat.beq i id with
          | false => rfl
          | true => exact absurd (Nat.eq_of_beq_eq_true hb) h
      | _ => rfl
  | loop live own b ih =>
    intro s
    simp only [DC.run]
    refine iterF_eq (f := fun s => match s with | ⟨T, L, H, n⟩ => keepF T live fun T => runF G K lo b ⟨T, keep L own, H, n⟩) (fun s => ?_) LOOP s
    obtain ⟨T, L, H, n⟩ := s
    show keepF T live (fun T => runF G K lo b ⟨T, keep L own, H, n⟩) = _
    rw [keepF_eq, ih]
  | exit id => intro s; rfl
  | ret => intro s; rfl

noncomputable def fnF (fn : DFn) (args : List DV) (H : PT HB) (n : Nat) : Option (DV × PT HB × Nat) := match fn with
  | ⟨np, res, body⟩ => bif Nat.beq args.length np then fnRes res (runF G K lo body ⟨argsT 0 args, .lf, H, n⟩) else none
theorem fnF_eq (fn : DFn) (args : List DV) (H : PT HB) (n : Nat) : fnF G K lo fn args H n = fn.run G K args H n lo := by
  obtain ⟨np, res, body⟩ := fn
  rw [fn_run]
  simp only [fnF, runF_eq]
  by_cases h : args.length = np
  · rw [if_pos h, h, show Nat.beq np np = true from Nat.beq_refl np]; rfl
  · rw [if_neg h]
    cases hb : Nat.beq args.length np with
    | false => rfl
    | true => exact absurd (Nat.eq_of_beq_eq_true hb) h
end

/-- D's functions, quickly. -/
noncomputable def dcallF (G : Nat → Option (List IV)) (D : PT Entry) (d : Nat) : Callee :=
  Nat.rec (motive := fun _ => Callee) (fun _ _ _ _ _ => none) (fun _ K f args H n lo => match getF D f with
    | some (.fn fn) => fnF G K lo fn args H n
    | some (.prim g) => g args H n lo
    | none => none) d
theorem dcallF_eq (G : Nat → Option (List IV)) (D : PT Entry) : ∀ (d : Nat), dcallF G D d = dcall G (fun f => D.get f) d
  | 0 => by funext f args H n lo; rfl
  | d + 1 => by
    funext f args H n lo
    show (match getF D f with
    | some (.fn fn) => fnF G (dcallF G D d) lo fn args H n
    | some (.prim g) => g args H n lo
    | none => none) = _
    simp only [dcall, getF_eq, fnF_eq, dcallF_eq G D d]
    cases D.get f with
    | none => rfl
    | some e => cases e <;> rfl
end Go.PM
