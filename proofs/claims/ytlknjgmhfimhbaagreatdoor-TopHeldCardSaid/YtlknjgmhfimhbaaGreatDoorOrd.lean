/-
  Orders of operations: what is seen and turned in each of them.
-/
import Derived.Test.YtlknjgmhfimhbaaGreatDoorDFr
set_option linter.unusedVariables false
set_option linter.unusedSimpArgs false
namespace Go.PM
section
variable {ι V:Type}(val:Nat→ι→V) (wr:Nat→ι→Prop) [∀ i x,Decidable (wr i x)] (S:Nat→Bool)
def zL3:Nat→ι→V
 | 0,x=>val 0 x
 | k+1,x=>if S k=true∧wr k x then val (k+1) x else zL3 k x
variable {val wr S}
theorem zL4 {x:ι}:∀ {i:Nat},(∀ j,j<i→¬wr j x→val (j+1) x=val j x)→(∀ j,j<i→wr j x→S j=true)→zL3 val wr S i x=val i x
 | 0,_,_=>rfl
 | i+1,hf,hs=>by
  simp only[zL3]
  by_cases hw:wr i x
  ·rw[if_pos ⟨hs i (by omega) hw,hw⟩]
  ·rw[if_neg (fun h=>hw h.2),zL4 (fun j hj=>hf j (by omega)) (fun j hj=>hs j (by omega)),hf i (by omega) hw]
theorem zL7 {x:ι}{i:Nat}:∀ {k:Nat},i≤k→(∀ j,i≤j→j<k→S j=true→¬wr j x)→zL3 val wr S k x=zL3 val wr S i x
 | 0,h,_=>by rw[Nat.le_zero.1 h]
 | k+1,h,hs=>by
  by_cases he:i=k+1
  ·rw[he]
  ·simp only[zL3]
   rw[if_neg (fun h'=>hs k (by omega) (by omega) h'.1 h'.2)]
   exact zL7 (by omega) (fun j h1 h2=>hs j h1 (by omega))
theorem zL6 {x:ι}{i k:Nat}(hik:i≤k) (hf:∀ j,j<i→¬wr j x→val (j+1) x=val j x) (h1:∀ j,j<i→wr j x→S j=true) (h2:∀ j,i≤j→j<k→S j=true→¬wr j x) :
  zL3 val wr S k x=val i x:=(zL7 hik h2).trans (zL4 hf h1)
theorem zL5 {S':Nat→Bool}{x:ι}:∀ {k:Nat},(∀ j,j<k→wr j x→S' j=S j)→zL3 val wr S' k x=zL3 val wr S k x
 | 0,_=>rfl
 | k+1,h=>by
  simp only[zL3]
  rw[zL5 (fun j hj=>h j (by omega))]
  by_cases hw:wr k x
  ·rw[h k (by omega) hw]
  ·rw[if_neg (fun h'=>hw h'.2),if_neg (fun h'=>hw h'.2)]
theorem zL8 {S':Nat→Bool}{x:ι}{i k:Nat}(hik:i<k) (hi:S' i=true) (hs:∀ j,j≠i→S' j=S j) (h2:wr i x→∀ j,i<j→j<k→S j=true→¬wr j x) :
  zL3 val wr S' k x=if wr i x then val (i+1) x else zL3 val wr S k x:=by
 by_cases hw:wr i x
 ·rw[if_pos hw,zL7 (i:=i+1) (by omega) (fun j h1 h3 h4=>h2 hw j (by omega) h3 (by rw[← hs j (by omega)]; exact h4))]
  simp only[zL3]
  rw[if_pos ⟨hi,hw⟩]
 ·rw[if_neg hw]
  exact zL5 fun j _ hj=>hs j (fun e=>hw (e▸hj))
end
def Edg (ops:List Oper) (i j:Nat):Prop:=∃ o,ops[j]?=some o∧∃ e∈o.after,Region.binds .any e=true∧e.on=i
inductive Bef (ops:List Oper):Nat→Nat→Prop
 | one {i j:Nat}(h:Edg ops i j):Bef ops i j
 | more {i k j:Nat}(h:Bef ops i k) (h':Edg ops k j):Bef ops i j
def zB2 (acc:List (List Nat)) (o:Oper):List Nat:=
 o.after.toList.foldl (fun s e=>if Region.binds .any e then (if s.contains e.on then s else e.on::s)++((acc.getD e.on []).filter fun x=>!(e.on::s).contains x) else s) []
theorem zB6 (ops:List Oper):zB4 ops=ops.foldl (fun acc o=>acc++[zB2 acc o]) []:=rfl
theorem zB3 {ops:List Oper}{acc:List (List Nat)}(hacc:∀ j i,i∈acc.getD j []→Bef ops i j){o:Oper}{j:Nat}(ho:ops[j]?=some o):∀ i∈zB2 acc o,Bef ops i j:=by
 have key:∀ (es:List Edge) (s:List Nat),(∀ e∈es,e∈o.after)→(∀ i∈s,Bef ops i j)→
   ∀ i∈es.foldl (fun s e=>if Region.binds .any e then (if s.contains e.on then s else e.on::s)++((acc.getD e.on []).filter fun x=>!(e.on::s).contains x) else s) s,Bef ops i j:=by
  intro es
  induction es with
  | nil=>intro s _ hs i hi; exact hs i hi
  | cons e es ih=>
   intro s he hs i hi
   simp only[List.foldl_cons] at hi
   refine ih _ (fun e' h'=>he e' (List.mem_cons_of_mem _ h')) ?_ i hi
   intro x hx
   split at hx
   ·rename_i hb
    have hed:Edg ops e.on j:=⟨o,ho,e,he e (List.mem_cons_self ..),hb,rfl⟩
    rw[List.mem_append] at hx
    rcases hx with hx | hx
    ·split at hx
     ·exact hs x hx
     ·rcases List.mem_cons.1 hx with rfl | hx
      ·exact .one hed
      ·exact hs x hx
    ·exact .more (hacc _ _ (List.mem_filter.1 hx).1) hed
   ·exact hs x hx
 exact key o.after.toList [] (fun e h=>Array.mem_toList_iff.1 h) (by simp)
theorem zB5 (ops:List Oper):∀ j i,i∈(zB4 ops).getD j []→Bef ops i j:=by
 rw[zB6]
 have key:∀ (rest done:List Oper) (acc:List (List Nat)),ops=done++rest→acc.length=done.length→(∀ j i,i∈acc.getD j []→Bef ops i j)→
   ∀ j i,i∈(rest.foldl (fun acc o=>acc++[zB2 acc o]) acc).getD j []→Bef ops i j:=by
  intro rest
  induction rest with
  | nil=>intro done acc _ _ h; exact h
  | cons o rest ih=>
   intro done acc he hl h
   simp only[List.foldl_cons]
   refine ih (done++[o]) _ (by simp[he]) (by simp[hl]) fun j i hi=>?_
   rw[List.getD_eq_getElem?_getD,List.getElem?_append] at hi
   split at hi
   ·exact h j i (by rw[List.getD_eq_getElem?_getD]; exact hi)
   ·rename_i hj
    by_cases h0:j=acc.length
    ·subst h0
     simp at hi
     exact zB3 h (by rw[he,List.getElem?_append_right (by omega),hl]; simp) i hi
    ·have:(j - acc.length)≠0:=by omega
     obtain⟨m,hm⟩:=Nat.exists_eq_succ_of_ne_zero this
     rw[hm] at hi
     simp at hi
 exact key ops [] [] rfl rfl (by simp)
def Closed (ops:List Oper) (S:Nat→Bool):Prop:=∀ i j,Edg ops i j→S j=true→S i=true
theorem Closed.bef {ops:List Oper}{S:Nat→Bool}(h:Closed ops S){i j:Nat}(hb:Bef ops i j):S j=true→S i=true:=by
 induction hb with
 | one h'=>exact h _ _ h'
 | more _ h' ih=>exact fun hj=>ih (h _ _ h' hj)
theorem Closed.ready {ops:List Oper}{S:Nat→Bool}(h:Closed ops S){j:Nat}(hr:∀ i,Edg ops i j→S i=true){i:Nat}(hb:Bef ops i j):S i=true:=by
 cases hb with
 | one h'=>exact hr _ h'
 | more hb h'=>exact h.bef hb (hr _ h')
end Go.PM
