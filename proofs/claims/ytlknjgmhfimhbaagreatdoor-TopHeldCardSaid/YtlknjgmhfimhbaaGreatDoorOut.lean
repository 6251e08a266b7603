/-
  What D's values and heap mean in the model's memory.
  Runs of the model's small memory operations.
  What one operation of D's does to the relation: a new block, a block written.
-/
import Derived.Test.YtlknjgmhfimhbaaGreatDoorDef
import Derived.WalkKit
section
set_option linter.unusedVariables false
set_option linter.unusedSimpArgs false
namespace Go.PM
structure BI where
 blk:Nat
 sz:Nat
 size:Nat
abbrev Phi:=Nat→Option BI
abbrev Sig:=Nat→Option Obj
def Sig.cell (σ:Sig) (a:Addr):Option Value:=
 match σ a.block with
 | some (.cells c _ _)=>if a.spot.isSome then none else c[a.off]?
 | _=>none
inductive RepI (σ:Sig):IV→Value→Prop
 | bool {b:Bool}:RepI σ (.bool b) (.bool b)
 | int {k:IntKind}{n:Int}:RepI σ (.int k n) (.int k n)
 | str {s:ByteArray}:RepI σ (.str s.data.toList) (.string s)
 | nilp:RepI σ .nilp (.pointer none)
 | nils:RepI σ .nils (.slice none 0 0)
 | nilf:RepI σ .nilf .nilFunc
 | nili:RepI σ .nili .nilIface
 | undef:RepI σ .undef (.tuple #[])
 | lst {full:Bool}{sz:Nat}{es:List (List IV)}{a:Addr}{cap:Nat}(cv:Nat→Nat→Value) (hcap:es.length≤cap) (hfull:full=true→cap=es.length)
   (hsz:∀ e∈es,e.length=sz) (hc:∀ (i j:Nat) e c,es[i]?=some e→e[j]?=some c→σ.cell (a.add (i*sz+j))=some (cv i j)∧(cv i j).oneCell'=true)
   (hr:∀ (i j:Nat) e c,es[i]?=some e→e[j]?=some c→RepI σ c (cv i j)):RepI σ (.lst full sz es) (.slice (some a) es.length cap)
 | cref {cells:List IV}{a:Addr}(cv:Nat→Value) (hc:∀ (j:Nat) c,cells[j]?=some c→σ.cell (a.add j)=some (cv j))
   (hr:∀ (j:Nat) c,cells[j]?=some c→RepI σ c (cv j)):RepI σ (.cref cells) (.pointer (some a))
 | iface {t:TypeId}{v:IV}{rv:Value}(h:RepI σ v rv):RepI σ (.iface t v) (.iface t rv)
inductive RepD (φ:Phi) (σ:Sig):DV→Value→Prop
 | imm {v:IV}{rv:Value}(h:RepI σ v rv):RepD φ σ (.imm v) rv
 | ptr {id row off:Nat}{bi:BI}(h:φ id=some bi):RepD φ σ (.ptr id row off) (.pointer (some ⟨bi.blk,row*bi.sz+off,none⟩))
 | sl {id row len cap rcap:Nat}{bi:BI}(h:φ id=some bi) (h1:len≤cap) (h2:cap≤rcap) (h3:(row+rcap)*bi.sz≤bi.size) :
   RepD φ σ (.sl id row len cap) (.slice (some ⟨bi.blk,row*bi.sz,none⟩) len rcap)
 | agg {cs:List DV}{vs:Array Value}(hl:cs.length=vs.size) (hr:∀ (i:Nat) c v,cs[i]?=some c→vs[i]?=some v→RepD φ σ c v):RepD φ σ (.agg cs) (.agg vs)
 | tup {cs:List DV}{vs:Array Value}(hl:cs.length=vs.size) (hr:∀ (i:Nat) c v,cs[i]?=some c→vs[i]?=some v→RepD φ σ c v):RepD φ σ (.tup cs) (.tuple vs)
 | fnc {f:FuncId}{cs:List DV}{vs:Array Value}(hl:cs.length=vs.size) (hr:∀ (i:Nat) c v,cs[i]?=some c→vs[i]?=some v→RepD φ σ c v) :
   RepD φ σ (.fnc f cs) (.func (.func f) #[] vs)
 | lref {slot id off:Nat}{bi:BI}(h:φ id=some bi):RepD φ σ (.lref slot id off) (.pointer (some ⟨bi.blk,off,none⟩))
variable {σ σ':Sig}
theorem Sig.cell_mono(h:∀ b o,σ b=some o→σ' b=some o){a:Addr}{v:Value}(hv:σ.cell a=some v):σ'.cell a=some v:=by
 unfold Sig.cell at *
 cases hb:σ a.block with
 | none=>rw[hb] at hv; cases hv
 | some o=>rw[hb] at hv; rw[h _ _ hb]; exact hv
theorem RepI.mono(h:∀ b o,σ b=some o→σ' b=some o){v:IV}{rv:Value}(hr:RepI σ v rv):RepI σ' v rv:=by
 induction hr with
 | bool=>exact .bool
 | int=>exact .int
 | str=>exact .str
 | nilp=>exact .nilp
 | nils=>exact .nils
 | nilf=>exact .nilf
 | nili=>exact .nili
 | undef=>exact .undef
 | lst cv hcap hfull hsz hc _ ih=>exact .lst cv hcap hfull hsz (fun i j e c he hj=>⟨Sig.cell_mono h (hc i j e c he hj).1,(hc i j e c he hj).2⟩) ih
 | cref cv hc _ ih=>exact .cref cv (fun j c hj=>Sig.cell_mono h (hc j c hj)) ih
 | iface _ ih=>exact .iface ih
variable {φ φ':Phi}
theorem RepD.mono(hp:∀ id bi,φ id=some bi→φ' id=some bi) (h:∀ b o,σ b=some o→σ' b=some o){v:DV}{rv:Value}
  (hr:RepD φ σ v rv):RepD φ' σ' v rv:=by
 induction hr with
 | imm hi=>exact .imm (hi.mono h)
 | ptr hb=>exact .ptr (hp _ _ hb)
 | sl hb h1 h2 h3=>exact .sl (hp _ _ hb) h1 h2 h3
 | agg hl _ ih=>exact .agg hl ih
 | tup hl _ ih=>exact .tup hl ih
 | fnc hl _ ih=>exact .fnc hl ih
 | lref hb=>exact .lref (hp _ _ hb)
def RepDs (φ:Phi) (σ:Sig) (cs:List DV) (vs:Array Value):Prop:=cs.length=vs.size∧∀ (i:Nat) c v,cs[i]?=some c→vs[i]?=some v→RepD φ σ c v
theorem RepDs.mono(hp:∀ id bi,φ id=some bi→φ' id=some bi) (h:∀ b o,σ b=some o→σ' b=some o){cs:List DV}{vs:Array Value}
  (hr:RepDs φ σ cs vs):RepDs φ' σ' cs vs:=⟨hr.1,fun i c v h1 h2=>(hr.2 i c v h1 h2).mono hp h⟩
theorem RepDs.get{cs:List DV}{vs:Array Value}(h:RepDs φ σ cs vs){i:Nat}{c:DV}(hc:cs[i]?=some c):∃ v,vs[i]?=some v∧RepD φ σ c v:=by
 have hi:i<cs.length:=(List.getElem?_eq_some_iff.1 hc).1
 have hi':i<vs.size:=h.1▸hi
 exact⟨vs[i],Array.getElem?_eq_getElem hi',h.2 i c _ hc (Array.getElem?_eq_getElem hi')⟩
def LV.id:LV→Nat
 | .box id _=>id
 | .iter id _ _=>id
def CellsAt (φ:Phi) (σ:Sig) (c:Array Value) (off:Nat) (vs:List DV):Prop:=
 ∀ (j:Nat) v,vs[j]?=some v→∃ rv,c[off+j]?=some rv∧rv.oneCell'=true∧RepD φ σ v rv
def Unfr (fr:Nat×Nat) (n:Nat):Prop:=n≤fr.1∨fr.1=fr.2
theorem Unfr.zero (n:Nat):Unfr (0,0) n:=.inr rfl
structure BlockAt (φ:Phi) (σ:Sig) (hb:HB) (bi:BI) (w:World):Prop where
 sz:bi.sz=hb.sz
 pos:0<hb.sz
 free:σ bi.blk=none
 cells:∃ c T fr,(w.heap[bi.blk]?=some (.cells c T fr)∧Unfr fr c.size)∧c.size=bi.size∧hb.rows.length*hb.sz≤bi.size∧(∀ r∈hb.rows,r.length=hb.sz)∧
  ∀ (i:Nat) r,hb.rows[i]?=some r→CellsAt φ σ c (i*hb.sz) r
inductive LocalAt (φ:Phi) (σ:Sig) (w:World):LV→BI→Prop
 | box {id:Nat}{cells:List DV}{bi:BI}{c:Array Value}{T:TypeId}(free:σ bi.blk=none) (hh:w.heap[bi.blk]?=some (.cells c T (0,0))) (hs:c.size=cells.length)
   (hc:CellsAt φ σ c 0 cells):LocalAt φ σ w (.box id cells) bi
 | iter {id:Nat}{s:ByteArray}{pos:Nat}{bi:BI}(free:σ bi.blk=none) (hh:w.heap[bi.blk]?=some (.stringIter s pos)) :
   LocalAt φ σ w (.iter id s.data.toList pos) bi
def Liv (L:Nat→Option LV) (h:Nat→Option HB) (id:Nat):Prop:=(∃ hb,h id=some hb)∨∃ k v,L k=some v∧v.id=id
structure Rel (lo:Nat) (Tch:Nat→Prop) (φ:Phi) (σ:Sig) (T:Nat→Option DV) (L:Nat→Option LV) (h:Nat→Option HB) (tmps:Array Value) (w:World):Prop where
 sig:∀ b o,σ b=some o→w.heap[b]?=some o
 inj:∀ i j bi bj,Liv L h i→Liv L h j→φ i=some bi→φ j=some bj→bi.blk=bj.blk→i=j
 rng:∀ i bi,φ i=some bi→bi.blk<w.heap.size
 heap:∀ id hb,h id=some hb→∃ bi,φ id=some bi∧BlockAt φ σ hb bi w∧(lo≤id→Tch bi.blk)
 locs:∀ k v,L k=some v→h v.id=none∧∃ bi,φ v.id=some bi∧LocalAt φ σ w v bi∧Tch bi.blk
 apart:∀ k k' v v',L k=some v→L k'=some v'→v.id=v'.id→k=k'
 tmp:∀ k v,T k=some v→∃ rv,tmps[k]?=some rv∧RepD φ σ v rv
structure Fr (Tch:Nat→Prop) (w w':World):Prop where
 os:w'.os=w.os
 out:w'.output=w.output
 size:w.heap.size≤w'.heap.size
 same:∀ b,b<w.heap.size→¬Tch b→w'.heap[b]?=w.heap[b]?
theorem Fr.refl (Tch:Nat→Prop) (w:World):Fr Tch w w:=⟨rfl,rfl,Nat.le_refl _,fun _ _ _=>rfl⟩
variable {Tch:Nat→Prop} {w:World}
theorem Fr.trans {w1 w2:World}(a:Fr Tch w w1) (b:Fr Tch w1 w2):Fr Tch w w2:=
 ⟨b.os.trans a.os,b.out.trans a.out,Nat.le_trans a.size b.size,fun x hx hn=>(b.same x (Nat.lt_of_lt_of_le hx a.size) hn).trans (a.same x hx hn)⟩
variable {w':World}
theorem Fr.weaken {Tch':Nat→Prop}(a:Fr Tch w w') (h:∀ b,b<w.heap.size→Tch b→Tch' b):Fr Tch' w w':=
 ⟨a.os,a.out,a.size,fun b hb hn=>a.same b hb (fun ht=>hn (h b hb ht))⟩
structure Grow (φ φ':Phi) (σ σ':Sig) (n n':Nat) (w:World):Prop where
 ext:∀ id bi,φ id=some bi→φ' id=some bi
 new:∀ id bi,φ id=none→φ' id=some bi→n≤id∧id<n'
 sg:∀ b o,σ b=some o→σ' b=some o
 sgn:∀ b o,σ' b=some o→σ b=some o∨w.heap.size≤b
theorem Grow.refl (φ:Phi) (σ:Sig) (n n':Nat) (w:World):Grow φ φ σ σ n n' w:=
 ⟨fun _ _ h=>h,fun _ _ h h'=>(by rw[h] at h'; cases h'),fun _ _ h=>h,fun _ _ h=>.inl h⟩
variable {n:Nat}
theorem Grow.trans {φ1 φ2:Phi} {σ1 σ2:Sig} {n1 n2:Nat} {w1:World}(a:Grow φ φ1 σ σ1 n n1 w) (b:Grow φ1 φ2 σ1 σ2 n1 n2 w1) (h1:n≤n1) (h2:n1≤n2)
  (hs:w.heap.size≤w1.heap.size):Grow φ φ2 σ σ2 n n2 w:=by
 refine⟨fun id bi h=>b.ext _ _ (a.ext _ _ h),fun id bi h h'=>?_,fun x o h=>b.sg _ _ (a.sg _ _ h),fun x o h=>?_⟩
 ·cases he:φ1 id with
  | none=>obtain⟨p,q⟩:=b.new id bi he h'; exact⟨by omega,by omega⟩
  | some bj=>
   obtain⟨p,q⟩:=a.new id _ h he
   exact⟨p,by omega⟩
 ·rcases b.sgn x o h with h | h
  ·exact a.sgn x o h
  ·exact .inr (by omega)
theorem Grow.wide {n' m m':Nat}(a:Grow φ φ' σ σ' n n' w) (h1:m≤n) (h2:n'≤m'):Grow φ φ' σ σ' m m' w:=
 ⟨a.ext,fun id bi h h'=>by obtain⟨p,q⟩:=a.new id bi h h'; exact⟨by omega,by omega⟩,a.sg,a.sgn⟩
theorem CellsAt.mono(hp:∀ id bi,φ id=some bi→φ' id=some bi) (h:∀ b o,σ b=some o→σ' b=some o){c:Array Value}{off:Nat}{vs:List DV}
  (hc:CellsAt φ σ c off vs):CellsAt φ' σ' c off vs:=fun j v hj=>by
 obtain⟨rv,h1,h2,h3⟩:=hc j v hj
 exact⟨rv,h1,h2,h3.mono hp h⟩
theorem BlockAt.mono{hb:HB}{bi:BI}(hp:∀ id bi,φ id=some bi→φ' id=some bi) (h:∀ b o,σ b=some o→σ' b=some o)
  (hf:σ' bi.blk=none) (hw:w'.heap[bi.blk]?=w.heap[bi.blk]?) (hb':BlockAt φ σ hb bi w):BlockAt φ' σ' hb bi w':=by
 obtain⟨c,T,fr,⟨h1,hu⟩,h2,h3,h4,h5⟩:=hb'.cells
 exact⟨hb'.sz,hb'.pos,hf,c,T,fr,⟨hw.trans h1,hu⟩,h2,h3,h4,fun i r hr=>(h5 i r hr).mono hp h⟩
theorem LocalAt.mono{v:LV}{bi:BI}(hp:∀ id bi,φ id=some bi→φ' id=some bi) (h:∀ b o,σ b=some o→σ' b=some o)
  (hf:σ' bi.blk=none) (hw:w'.heap[bi.blk]?=w.heap[bi.blk]?) (hb':LocalAt φ σ w v bi):LocalAt φ' σ' w' v bi:=by
 cases hb' with
 | box free hh hs hc=>exact .box hf (hw.trans hh) hs (hc.mono hp h)
 | iter free hh=>exact .iter hf (hw.trans hh)
theorem LocalAt.free{v:LV}{bi:BI}(h:LocalAt φ σ w v bi):σ bi.blk=none:=by
 cases h <;> assumption
theorem Rel.same {lo:Nat}{T:Nat→Option DV}{L:Nat→Option LV}{h:Nat→Option HB}{tmps:Array Value} {n':Nat}
  (hR:Rel lo Tch φ σ T L h tmps w) (hg:Grow φ φ' σ σ' n n' w) (hw:∀ b,b<w.heap.size→w'.heap[b]?=w.heap[b]?) (hs:w.heap.size≤w'.heap.size)
  (hsig:∀ b o,σ' b=some o→w'.heap[b]?=some o)
  (hrng:∀ i bi,φ' i=some bi→bi.blk<w'.heap.size):Rel lo Tch φ' σ' T L h tmps w':=by
 have hfree:∀ b,b<w.heap.size→σ b=none→σ' b=none:=fun b hb h0=>by
  cases he:σ' b with
  | none=>rfl
  | some o=>
   rcases hg.sgn b o he with h1 | h1
   ·rw[h0] at h1; cases h1
   ·omega
 have hlv:∀ id,Liv L h id→∃ bi,φ id=some bi:=fun id hid=>by
  rcases hid with⟨hb,h1⟩ | ⟨k,v,h1,rfl⟩
  ·obtain⟨bi,h2,_⟩:=hR.heap _ _ h1; exact⟨bi,h2⟩
  ·obtain⟨_,bi,h2,_⟩:=hR.locs _ _ h1; exact⟨bi,h2⟩
 have hinj:∀ i j bi bj,Liv L h i→Liv L h j→φ' i=some bi→φ' j=some bj→bi.blk=bj.blk→i=j:=fun i j bi bj li lj hi hj hb=>by
  obtain⟨bi',g1⟩:=hlv i li
  obtain⟨bj',g2⟩:=hlv j lj
  have e1:=hg.ext _ _ g1
  have e2:=hg.ext _ _ g2
  rw[hi] at e1; cases e1
  rw[hj] at e2; cases e2
  exact hR.inj i j _ _ li lj g1 g2 hb
 refine⟨hsig,hinj,hrng,fun id hb hid=>?_,fun k v hk=>?_,hR.apart,fun k v hk=>?_⟩
 ·obtain⟨bi,h1,h2,h3⟩:=hR.heap id hb hid
  have:=hR.rng _ _ h1
  exact⟨bi,hg.ext _ _ h1,h2.mono hg.ext hg.sg (hfree _ this h2.free) (hw _ this),h3⟩
 ·obtain⟨h0,bi,h1,h2,h3⟩:=hR.locs k v hk
  have:=hR.rng _ _ h1
  exact⟨h0,bi,hg.ext _ _ h1,h2.mono hg.ext hg.sg (hfree _ this h2.free) (hw _ this),h3⟩
 ·obtain⟨rv,h1,h2⟩:=hR.tmp k v hk
  exact⟨rv,h1,h2.mono hg.ext hg.sg⟩
end Go.PM
end
section
set_option linter.unusedVariables false
set_option linter.unusedSimpArgs false
namespace Go.PM
variable {P:Program}
variable {c:Array Value} {off:Nat} {w:World}
theorem zEG {b:Nat}{T:TypeId}{fr:Nat×Nat}(h:w.heap[b]?=some (.cells c T fr)):w.cell? ⟨b,off,none⟩=c[off]?:=by
 simp[World.cell?,h]
theorem zEH {σ:Sig}(h:∀ b o,σ b=some o→w.heap[b]?=some o){a:Addr}{v:Value}(hv:σ.cell a=some v):w.cell? a=some v:=by
 unfold Sig.cell at hv
 unfold World.cell?
 cases hb:σ a.block with
 | none=>rw[hb] at hv; cases hv
 | some o=>rw[hb] at hv; rw[h _ _ hb]; exact hv
theorem zBz (b off n:Nat):(⟨b,off,none⟩:Addr).add n=⟨b,off+n,none⟩:=by
 unfold Addr.add; split
 ·subst_vars; rfl
 ·rfl
theorem zBx (a:Addr) (m n:Nat):(a.add m).add n=a.add (m+n):=by
 unfold Addr.add
 by_cases h1:m=0 <;> by_cases h2:n=0 <;> simp[h1,h2,Nat.add_assoc]
theorem zB0 (a:Addr):a.add 0=a:=by simp[Addr.add]
theorem zPs (w:World) (a:Addr):∀ (n i:Nat) (acc:Array Value) (vs:List Value),vs.length=n→(∀ (j:Nat) v,vs[j]?=some v→w.cell? (a.add (i+j))=some v)→
  (loadCellsFrom a i n acc).run P w=.ok (acc++vs.toArray) w
 | 0,i,acc,vs,hl,_=>by
  have:vs=[]:=List.length_eq_zero_iff.1 hl
  subst this; simp[loadCellsFrom]
 | n+1,i,acc,vs,hl,h=>by
  cases vs with
  | nil=>simp at hl
  | cons v vs=>
   have h0:=h 0 v rfl
   rw[Nat.add_zero] at h0
   have ih:=zPs w a n (i+1) (acc.push v) vs (by simpa using hl) (fun j u hu=>by
    have:=h (j+1) u (by simpa using hu); rw[show i+1+j=i+(j+1) by omega]; exact this)
   simp only[loadCellsFrom,Sem.run_bind,run_load,h0,Result.andThen_ok,ih]
   congr 1
   simp
theorem zPr (w:World) (a:Addr) (n:Nat) (vs:List Value) (hl:vs.length=n) (h:∀ (j:Nat) v,vs[j]?=some v→w.cell? (a.add j)=some v) :
  (loadCells a n).run P w=.ok vs.toArray w:=by
 unfold loadCells
 rw[zPs w a n 0 #[] vs hl (fun j v hv=>by rw[Nat.zero_add]; exact h j v hv)]
 simp
def zJx (c:Array Value) (off:Nat) (vs:List Value):Array Value:=(c.toList.take off++vs++c.toList.drop (off+vs.length)).toArray
theorem zJ0{vs:List Value}(h:off+vs.length≤c.size):(zJx c off vs).size=c.size:=by
 have:c.toList.length=c.size:=by simp
 simp[zJx]; omega
theorem zJz{vs:List Value}(h:off+vs.length≤c.size) (k:Nat) :
  (zJx c off vs)[k]?=if k<off then c[k]? else if k<off+vs.length then vs[k - off]? else c[k]?:=by
 have hc:c.toList.length=c.size:=by simp
 unfold zJx
 rw[List.getElem?_toArray,List.append_assoc,List.getElem?_append]
 split
 ·rename_i h1
  have h1':k<off:=by simp at h1; omega
  rw[if_pos h1',List.getElem?_take,if_pos h1']; simp
 ·rename_i h1
  have h1':¬k<off:=by simp at h1; omega
  have hlen:(c.toList.take off).length=off:=by simp; omega
  rw[if_neg h1',hlen,List.getElem?_append]
  split
  ·rename_i h2
   rw[if_pos (by omega)]
  ·rename_i h2
   rw[if_neg (by omega),List.getElem?_drop]
   rw[show off+vs.length+(k - off - vs.length)=k by omega]; simp
theorem zQm (c:Array Value) (off:Nat) (v:Value) (h:off<c.size):c.setIfInBounds off v=zJx c off [v]:=by
 apply Array.ext_getElem?
 intro k
 rw[zJz (by simp; omega)]
 rw[Array.getElem?_setIfInBounds]
 by_cases h1:off=k
 ·subst h1; simp[h]
 ·rw[if_neg h1]
  simp
  intros; omega
theorem zJy (c:Array Value) (off:Nat) (v:Value) (vs:List Value) (h:off+vs.length+1≤c.size):zJx (zJx c off [v]) (off+1) vs=zJx c off (v::vs):=by
 have h1:(zJx c off [v]).size=c.size:=zJ0 (by simp; omega)
 apply Array.ext_getElem?
 intro k
 rw[zJz (by rw[h1]; omega),zJz (by simp; omega),zJz (by simp; omega)]
 simp
 by_cases a1:k<off
 ·simp[a1,show k<off+1 by omega]
 ·by_cases a2:k=off
  ·subst a2; simp
  ·have a3:¬k<off+1:=by omega
   simp[a1,a3]
   by_cases a4:k<off+1+vs.length
   ·rw[if_pos a4,if_pos (by omega)]
    rw[show k - off=(k - (off+1))+1 by omega]; simp
   ·rw[if_neg a4,if_neg (by omega)]
def setBlock (w:World) (b:Nat) (o:Obj):World:={ w with heap:=w.heap.setIfInBounds b o }
theorem zQj (w:World) (b:Nat) (o:Obj) (x:Nat):(setBlock w b o).heap[x]?=if b=x∧b<w.heap.size then some o else w.heap[x]?:=by
 unfold setBlock
 simp only[Array.getElem?_setIfInBounds]
 by_cases h1:b=x
 ·subst h1
  by_cases h2:b<w.heap.size
  ·simp[h2]
  ·simp[h2]
 ·simp[h1]
theorem zQk (w:World) (b:Nat) (o:Obj):(setBlock w b o).heap.size=w.heap.size:=by simp[setBlock]
theorem zQl {b:Nat}{T:TypeId}{fr:Nat×Nat}(h:w.heap[b]?=some (.cells c T fr)) (v:Value) :
  w.setCell ⟨b,off,none⟩ v=setBlock w b (.cells (c.setIfInBounds off v) T fr):=by
 unfold World.setCell setBlock
 congr 1
 have hlt:b<w.heap.size:=(Array.getElem?_eq_some_iff.1 h).1
 apply Array.ext_getElem?
 intro i
 rw[Array.getElem?_modify,Array.getElem?_setIfInBounds]
 by_cases hi:b=i
 ·subst hi; simp[hlt,h]
  simp[Array.getElem?_eq_getElem hlt] at h
  simp[h]
 ·simp[hi]
theorem zP7:∀ (vs:List Value) (w:World) (b off i:Nat) (c:Array Value) (T:TypeId) (fr:Nat×Nat),w.heap[b]?=some (.cells c T fr)→Unfr fr c.size→off+i+vs.length≤c.size→
  (∀ v∈vs,v.oneCell'=true)→(storeCells ⟨b,off,none⟩ vs i).run P w=.ok () (if vs=[] then w else setBlock w b (.cells (zJx c (off+i) vs) T fr))
 | [],w,b,off,i,c,T,fr,_,_,_,_=>by simp[storeCells]
 | v::vs,w,b,off,i,c,T,fr,h,hu,hl,hv=>by
  have hlt:b<w.heap.size:=(Array.getElem?_eq_some_iff.1 h).1
  have hoff:off+i<c.size:=by simp at hl; omega
  have hcell:w.cell? ⟨b,off+i,none⟩=some c[off+i]:=by rw[zEG h,Array.getElem?_eq_getElem hoff]
  have hfr:w.frozen? ⟨b,off+i,none⟩=false:=by
   obtain⟨flo,fhi⟩:=fr
   simp only[World.frozen?,h,Bool.and_eq_false_iff,decide_eq_false_iff_not]
   rcases hu with hu | hu <;> simp only at hu <;> omega
  have hset:=zQl (off:=off+i) h v
  rw[zQm c (off+i) v hoff] at hset
  have h':(setBlock w b (.cells (zJx c (off+i) [v]) T fr)).heap[b]?=some (.cells (zJx c (off+i) [v]) T fr):=by rw[zQj]; simp[hlt]
  have ih:=zP7 vs _ b off (i+1) _ T fr h' (by rw[zJ0 (by simp; omega)]; exact hu) (by rw[zJ0 (by simp; omega)]; simp at hl; omega) (fun u hu=>hv u (by simp[hu]))
  simp only[storeCells,Sem.run_bind,zBz,run_store P w _ v .plain (hv v (by simp)),hcell,hfr,Bool.false_eq_true,if_false,Result.andThen_ok,hset,ih]
  congr 1
  rw[show off+(i+1)=off+i+1 by omega,zJy c (off+i) v vs (by simp at hl; omega)]
  by_cases hn:vs=[]
  ·subst hn; simp
  ·simp only[hn,if_false,List.cons_ne_nil]
   unfold setBlock
   simp
end Go.PM
end
section
set_option linter.unusedVariables false
set_option linter.unusedSimpArgs false
namespace Go.PM
def upd {α:Type}(f:Nat→Option α) (k:Nat) (v:Option α):Nat→Option α:=fun x=>if x=k then v else f x
def updL (f:Nat→Option LV):List (Nat×LV)→Nat→Option LV
 | []=>f
 | (k,v)::r=>updL (upd f k (some v)) r
def updH (f:Nat→Option HB):List (Nat×Option HB)→Nat→Option HB
 | []=>f
 | (k,v)::r=>updH (upd f k v) r
theorem zTE {α:Type}(f:Nat→Option α) (k:Nat) (v:Option α):upd f k v k=v:=by simp[upd]
variable {k:Nat}
theorem zTD {α:Type}(f:Nat→Option α) {x:Nat}(v:Option α) (h:x≠k):upd f k v x=f x:=by simp[upd,h]
def zAh (φ:Phi) (n n':Nat):Prop:=∀ id,n≤id→id<n'→φ id=none
structure OpOut (lo:Nat) (Tch:Nat→Prop) (φ:Phi) (σ:Sig) (T:Nat→Option DV) (L:Nat→Option LV) (h:Nat→Option HB) (tmps:Array Value) (w:World) (n:Nat) (e:Eff)
  (rv:Value) (w':World) (φ':Phi) (σ':Sig):Prop where
 rel:Rel lo Tch φ' σ' T (updL L e.lw) (updH h e.hw) tmps w'
 grow:Grow φ φ' σ σ' n e.n' w
 fr:Fr Tch w w'
 val:RepD φ' σ' e.v rv
 le:n≤e.n'
section
variable {lo:Nat}{Tch:Nat→Prop}{φ:Phi}{σ:Sig}{T:Nat→Option DV}{L:Nat→Option LV}{h:Nat→Option HB}{tmps:Array Value}{w:World}{n:Nat}
theorem OpOut.pure (hR:Rel lo Tch φ σ T L h tmps w){v:DV}{acc:List Acc}{rv:Value}(hv:RepD φ σ v rv):OpOut lo Tch φ σ T L h tmps w n { v,n':=n,acc } rv w φ σ:=
 ⟨hR,.refl _ _ _ _ _,.refl _ _,hv,Nat.le_refl _⟩
theorem Rel.drew (hR:Rel lo Tch φ σ T L h tmps w) (k:Nat):Rel lo Tch φ σ T L h tmps { w with drawn:=k }:=
 hR.same (w':={ w with drawn:=k }) (n:=0) (n':=0) (.refl _ _ _ _ _) (fun _ _=>rfl) (Nat.le_refl _) hR.sig hR.rng
def zQz (σ:Sig) (b:Nat) (o:Obj):Sig:=fun x=>if x=b then some o else σ x
theorem Rel.sigNone (hR:Rel lo Tch φ σ T L h tmps w){b:Nat}(hb:w.heap.size≤b):σ b=none:=by
 cases he:σ b with
 | none=>rfl
 | some o=>
  have:=hR.sig _ _ he
  have:=(Array.getElem?_eq_some_iff.1 this).1
  omega
theorem zQ0 (hR:Rel lo Tch φ σ T L h tmps w) (o:Obj):∀ b o',σ b=some o'→zQz σ w.heap.size o b=some o':=fun b o' hb=>by
 unfold zQz
 split
 ·subst_vars; rw[hR.sigNone (Nat.le_refl _)] at hb; cases hb
 ·exact hb
variable {w':World}
theorem Rel.pushSig (hR:Rel lo Tch φ σ T L h tmps w){o:Obj}(hsz:w'.heap.size=w.heap.size+1) (hget:∀ b,b<w.heap.size→w'.heap[b]?=w.heap[b]?)
  (hnew:w'.heap[w.heap.size]?=some o) :
  Rel lo Tch φ (zQz σ w.heap.size o) T L h tmps w'∧Grow φ φ σ (zQz σ w.heap.size o) n n w:=by
 have hg:Grow φ φ σ (zQz σ w.heap.size o) n n w:=⟨fun _ _ h=>h,fun _ _ h h'=>(by rw[h] at h'; cases h'),zQ0 hR o,fun b o' hb=>by
  unfold zQz at hb
  split at hb
  ·right; omega
  ·exact .inl hb⟩
 refine⟨hR.same hg hget (by omega) (fun b o' hb=>?_) (fun i bi hi=>by have:=hR.rng i bi hi; omega),hg⟩
 unfold zQz at hb
 split at hb
 ·subst_vars; cases hb; exact hnew
 ·have:=hR.sig _ _ hb
  rw[hget b (Array.getElem?_eq_some_iff.1 this).1]; exact this
theorem Fr.push(hos:w'.os=w.os) (hout:w'.output=w.output) (hsz:w.heap.size≤w'.heap.size) (hget:∀ b,b<w.heap.size→w'.heap[b]?=w.heap[b]?):Fr Tch w w':=
 ⟨hos,hout,hsz,fun b hb _=>hget b hb⟩
def zNx (φ:Phi) (n:Nat) (bi:BI):Phi:=fun x=>if x=n then some bi else φ x
theorem zNz (hf:φ n=none) (bi:BI):Grow φ (zNx φ n bi) σ σ n (n+1) w:=by
 refine⟨fun id bi hi=>?_,fun id bi hi hi'=>?_,fun _ _ h=>h,fun _ _ h=>.inl h⟩
 ·unfold zNx
  split
  ·subst_vars; rw[hf] at hi; cases hi
  ·exact hi
 ·unfold zNx at hi'
  split at hi'
  ·subst_vars; exact⟨Nat.le_refl _,by omega⟩
  ·rw[hi] at hi'; cases hi'
theorem zNy (hR:Rel lo Tch φ σ T L h tmps w) (hf:φ n=none) (sz size:Nat):Grow φ (zNx φ n ⟨w.heap.size,sz,size⟩) σ σ n (n+1) w:=zNz hf _
theorem Rel.pushPhi (hR:Rel lo Tch φ σ T L h tmps w) (hf:φ n=none){o:Obj}(hsz:w'.heap.size=w.heap.size+1)
  (hget:∀ b,b<w.heap.size→w'.heap[b]?=w.heap[b]?) (hnew:w'.heap[w.heap.size]?=some o) (sz size:Nat) :
  Rel lo Tch (zNx φ n ⟨w.heap.size,sz,size⟩) σ T L h tmps w':=by
 refine hR.same (zNy hR hf sz size) hget (by omega) (fun b o' hb=>?_) (fun i bi hi=>?_)
 ·have:=hR.sig _ _ hb
  rw[hget b (Array.getElem?_eq_some_iff.1 this).1]; exact this
 ·unfold zNx at hi
  split at hi
  ·cases hi; simp; omega
  ·have:=hR.rng _ _ hi; omega
theorem zKM{v:Option HB}{i:Nat}(hl:Liv L (upd h k v) i):i=k∨Liv L h i:=by
 rcases hl with⟨hb,h1⟩ | h1
 ·unfold upd at h1
  split at h1
  ·exact .inl (by assumption)
  ·exact .inr (.inl ⟨hb,h1⟩)
 ·exact .inr (.inr h1)
theorem zKN{v:LV}{i:Nat}(hl:Liv (upd L k (some v)) h i):i=v.id∨Liv L h i:=by
 rcases hl with h1 | ⟨k',v',h1,h2⟩
 ·exact .inr (.inl h1)
 ·unfold upd at h1
  split at h1
  ·cases h1; exact .inl h2.symm
  ·exact .inr (.inr ⟨k',v',h1,h2⟩)
theorem Rel.liv (hR:Rel lo Tch φ σ T L h tmps w){id:Nat}(hid:Liv L h id):∃ bi,φ id=some bi:=by
 rcases hid with⟨hb,h1⟩ | ⟨k,v,h1,rfl⟩
 ·obtain⟨bi,h2,_⟩:=hR.heap _ _ h1; exact⟨bi,h2⟩
 ·obtain⟨_,bi,h2,_⟩:=hR.locs _ _ h1; exact⟨bi,h2⟩
theorem Rel.injPush (hR:Rel lo Tch φ σ T L h tmps w) (hf:φ n=none){sz size:Nat}{L':Nat→Option LV}{h':Nat→Option HB}(hl:∀ i,Liv L' h' i→i=n∨Liv L h i) :
  ∀ i j bi bj,Liv L' h' i→Liv L' h' j→zNx φ n ⟨w.heap.size,sz,size⟩ i=some bi→zNx φ n ⟨w.heap.size,sz,size⟩ j=some bj→bi.blk=bj.blk→i=j:=fun i j bi bj li lj hi hj hb=>by
 have old:∀ i bi,i≠n→zNx φ n ⟨w.heap.size,sz,size⟩ i=some bi→φ i=some bi:=fun i bi hne h=>by
  unfold zNx at h; rw[if_neg hne] at h; exact h
 have new:∀ bi,zNx φ n ⟨w.heap.size,sz,size⟩ n=some bi→bi.blk=w.heap.size:=fun bi h=>by
  unfold zNx at h; rw[if_pos rfl] at h; cases h; rfl
 by_cases h1:i=n
 ·by_cases h2:j=n
  ·rw[h1,h2]
  ·subst h1
   have:=new _ hi
   have:=hR.rng _ _ (old _ _ h2 hj)
   omega
 ·by_cases h2:j=n
  ·subst h2
   have:=new _ hj
   have:=hR.rng _ _ (old _ _ h1 hi)
   omega
  ·exact hR.inj i j bi bj ((hl i li).resolve_left h1) ((hl j lj).resolve_left h2) (old _ _ h1 hi) (old _ _ h2 hj) hb
theorem Rel.noneH (hR:Rel lo Tch φ σ T L h tmps w) (hf:φ n=none):h n=none:=by
 cases he:h n with
 | none=>rfl
 | some hb=>obtain⟨bi,h1,_⟩:=hR.heap _ _ he; rw[hf] at h1; cases h1
theorem Rel.neL (hR:Rel lo Tch φ σ T L h tmps w) (hf:φ n=none){v:LV}(hk:L k=some v):v.id≠n:=fun he=>by
 obtain⟨_,bi,h1,_⟩:=hR.locs _ _ hk
 rw[he,hf] at h1; cases h1
theorem Rel.pushH (hR:Rel lo Tch φ σ T L h tmps w) (hT:∀ b,w.heap.size≤b→Tch b) (hf:φ n=none){c:Array Value}{t:TypeId}(hsz:w'.heap.size=w.heap.size+1)
  (hget:∀ b,b<w.heap.size→w'.heap[b]?=w.heap[b]?) (hnew:w'.heap[w.heap.size]?=some (.cells c t (0,0))) (hb:HB) (hpos:0<hb.sz) (hlen:hb.rows.length*hb.sz≤c.size)
  (hrows:∀ r∈hb.rows,r.length=hb.sz) (hc:∀ (i:Nat) r,hb.rows[i]?=some r→CellsAt φ σ c (i*hb.sz) r) :
  Rel lo Tch (zNx φ n ⟨w.heap.size,hb.sz,c.size⟩) σ T L (upd h n (some hb)) tmps w':=by
 have hR':=hR.pushPhi hf hsz hget hnew hb.sz c.size
 have hgr:=zNy hR hf hb.sz c.size
 refine⟨hR'.sig,hR.injPush hf (fun i hi=>zKM hi),hR'.rng,fun id x hx=>?_,fun k v hk=>?_,hR'.apart,hR'.tmp⟩
 ·unfold upd at hx
  split at hx
  ·subst_vars; cases hx
   refine⟨⟨w.heap.size,hb.sz,c.size⟩,by simp[zNx],⟨rfl,hpos,hR.sigNone (Nat.le_refl _),c,t,(0,0),⟨hnew,.zero _⟩,rfl,hlen,hrows,fun i r hr=>(hc i r hr).mono hgr.ext hgr.sg⟩,fun _=>hT _ (Nat.le_refl _)⟩
  ·exact hR'.heap id x hx
 ·obtain⟨h0,rest⟩:=hR'.locs k v hk
  refine⟨?_,rest⟩
  rw[zTD _ _ (hR.neL hf hk)]
  exact h0
theorem Rel.pushL (hR:Rel lo Tch φ σ T L h tmps w) (hT:∀ b,w.heap.size≤b→Tch b) (hf:φ n=none){o:Obj}(hsz:w'.heap.size=w.heap.size+1)
  (hget:∀ b,b<w.heap.size→w'.heap[b]?=w.heap[b]?) (hnew:w'.heap[w.heap.size]?=some o) (slot sz size:Nat) (lv:LV) (hid:lv.id=n)
  (hl:∀ φ',(∀ id bi,φ id=some bi→φ' id=some bi)→LocalAt φ' σ w' lv ⟨w.heap.size,sz,size⟩) :
  Rel lo Tch (zNx φ n ⟨w.heap.size,sz,size⟩) σ T (upd L slot (some lv)) h tmps w':=by
 have hR':=hR.pushPhi hf hsz hget hnew sz size
 have hgr:=zNy hR hf sz size
 refine⟨hR'.sig,hR.injPush hf (fun i hi=>by rw[← hid]; exact zKN hi),hR'.rng,hR'.heap,fun k v hk=>?_,fun k k' v v' hk hk' he=>?_,hR'.tmp⟩
 ·unfold upd at hk
  split at hk
  ·subst_vars; cases hk
   refine⟨hR.noneH hf,⟨w.heap.size,sz,size⟩,by simp[zNx],hl _ hgr.ext,hT _ (Nat.le_refl _)⟩
  ·exact hR'.locs k v hk
 ·unfold upd at hk hk'
  split at hk <;> split at hk'
  ·subst_vars; rfl
  ·cases hk; exact absurd (he.symm.trans hid) (hR.neL hf hk')
  ·cases hk'; exact absurd (he.trans hid) (hR.neL hf hk)
  ·exact hR.apart k k' v v' hk hk' he
theorem Rel.setH (hR:Rel lo Tch φ σ T L h tmps w){id:Nat}{hb hb':HB}{bi:BI}(hid:h id=some hb) (hbi:φ id=some bi){c':Array Value}{t:TypeId}{fr:Nat×Nat}(hfr:Unfr fr c'.size)
  (hsz:hb'.sz=hb.sz) (hcs:c'.size=bi.size) (hlen:hb'.rows.length*hb'.sz≤bi.size) (hrows:∀ r∈hb'.rows,r.length=hb'.sz)
  (hc:∀ (i:Nat) r,hb'.rows[i]?=some r→CellsAt φ σ c' (i*hb'.sz) r) :
  Rel lo Tch φ σ T L (upd h id (some hb')) tmps (setBlock w bi.blk (.cells c' t fr)):=by
 obtain⟨bi',h1,h2,h3⟩:=hR.heap _ _ hid
 rw[hbi] at h1; cases h1
 have hlt:=hR.rng _ _ hbi
 have hsize:=zQk w bi.blk (.cells c' t fr)
 have hne:∀ b,b≠bi.blk→(setBlock w bi.blk (.cells c' t fr)).heap[b]?=w.heap[b]?:=fun b hb=>by
  rw[zQj,if_neg (fun ⟨e,_⟩=>hb e.symm)]
 have lid:Liv L h id:=.inl ⟨hb,hid⟩
 refine⟨fun b o hb=>?_,fun i j bi bj li lj=>hR.inj i j bi bj ((zKM li).elim (fun e=>e▸lid) (fun x=>x)) ((zKM lj).elim (fun e=>e▸lid) (fun x=>x)),fun i x hi=>by rw[hsize]; exact hR.rng i x hi,fun j x hx=>?_,fun k v hk=>?_,hR.apart,hR.tmp⟩
 ·rw[hne b (fun e=>by rw[e,h2.free] at hb; cases hb)]
  exact hR.sig _ _ hb
 ·unfold upd at hx
  split at hx
  ·subst_vars; cases hx
   exact⟨bi,hbi,⟨h2.sz.trans hsz.symm,hsz▸h2.pos,h2.free,c',t,fr,⟨by rw[zQj]; simp[hlt],hfr⟩,hcs,hlen,hrows,hc⟩,h3⟩
  ·rename_i hji
   obtain⟨bj,g1,g2,g3⟩:=hR.heap _ _ hx
   have:bj.blk≠bi.blk:=fun e=>hji (hR.inj _ _ _ _ (.inl ⟨x,hx⟩) lid g1 hbi e)
   exact⟨bj,g1,g2.mono (fun _ _ h=>h) (fun _ _ h=>h) g2.free (hne _ this),g3⟩
 ·obtain⟨h0,bj,g1,g2,g3⟩:=hR.locs _ _ hk
  have hvi:v.id≠id:=fun e=>by rw[e,hid] at h0; cases h0
  have:bj.blk≠bi.blk:=fun e=>hvi (hR.inj _ _ _ _ (.inr ⟨k,v,hk,rfl⟩) lid g1 hbi e)
  refine⟨by rw[zTD _ _ hvi]; exact h0,bj,g1,g2.mono (fun _ _ h=>h) (fun _ _ h=>h) g2.free (hne _ this),g3⟩
theorem Fr.setBlock {b:Nat}{o:Obj}(hb:Tch b):Fr Tch w (setBlock w b o):=
 ⟨rfl,rfl,by rw[zQk]; exact Nat.le_refl _,fun x hx hn=>by rw[zQj,if_neg (fun ⟨e,_⟩=>hn (e▸hb))]⟩
theorem Rel.dropH (hR:Rel lo Tch φ σ T L h tmps w) (id:Nat):Rel lo Tch φ σ T L (upd h id none) tmps w:=by
 have hlv:∀ i,Liv L (upd h id none) i→Liv L h i:=fun i hi=>by
  rcases hi with⟨hb,h1⟩ | h1
  ·unfold upd at h1; split at h1
   ·cases h1
   ·exact .inl ⟨hb,h1⟩
  ·exact .inr h1
 refine⟨hR.sig,fun i j bi bj li lj=>hR.inj i j bi bj (hlv i li) (hlv j lj),hR.rng,fun j x hx=>?_,fun k v hk=>?_,hR.apart,hR.tmp⟩
 ·unfold upd at hx
  split at hx
  ·cases hx
  ·exact hR.heap _ _ hx
 ·obtain⟨h0,rest⟩:=hR.locs _ _ hk
  refine⟨?_,rest⟩
  unfold upd; split
  ·rfl
  ·exact h0
theorem Rel.setL (hR:Rel lo Tch φ σ T L h tmps w){slot:Nat}{lv lv':LV}{bi:BI}(hk:L slot=some lv) (hbi:φ lv.id=some bi) (hid:lv'.id=lv.id){o:Obj}
  (hl:LocalAt φ σ (setBlock w bi.blk o) lv' bi):Rel lo Tch φ σ T (upd L slot (some lv')) h tmps (setBlock w bi.blk o):=by
 obtain⟨h0,bi',h1,h2,h3⟩:=hR.locs _ _ hk
 rw[hbi] at h1; cases h1
 have hlt:=hR.rng _ _ hbi
 have hsize:=zQk w bi.blk o
 have hne:∀ b,b≠bi.blk→(setBlock w bi.blk o).heap[b]?=w.heap[b]?:=fun b hb=>by
  rw[zQj,if_neg (fun ⟨e,_⟩=>hb e.symm)]
 have lid:Liv L h lv.id:=.inr ⟨slot,lv,hk,rfl⟩
 refine⟨fun b x hb=>?_,fun i j bi bj li lj=>hR.inj i j bi bj ((zKN li).elim (fun e=>by rw[e,hid]; exact lid) (fun x=>x)) ((zKN lj).elim (fun e=>by rw[e,hid]; exact lid) (fun x=>x)),fun i x hi=>by rw[hsize]; exact hR.rng i x hi,fun j x hx=>?_,fun k v hv=>?_,fun k k' v v' hv hv' he=>?_,hR.tmp⟩
 ·rw[hne b (fun e=>by rw[e,h2.free] at hb; cases hb)]
  exact hR.sig _ _ hb
 ·obtain⟨bj,g1,g2,g3⟩:=hR.heap _ _ hx
  have hji:j≠lv.id:=fun e=>by rw[e,h0] at hx; cases hx
  have:bj.blk≠bi.blk:=fun e=>hji (hR.inj _ _ _ _ (.inl ⟨x,hx⟩) lid g1 hbi e)
  exact⟨bj,g1,g2.mono (fun _ _ h=>h) (fun _ _ h=>h) g2.free (hne _ this),g3⟩
 ·unfold upd at hv
  split at hv
  ·subst_vars; cases hv
   rw[hid]
   exact⟨h0,bi,hbi,hl,h3⟩
  ·rename_i hks
   obtain⟨g0,bj,g1,g2,g3⟩:=hR.locs _ _ hv
   have:bj.blk≠bi.blk:=fun e=>hks (hR.apart _ _ _ _ hv hk (hR.inj _ _ _ _ (.inr ⟨k,v,hv,rfl⟩) lid g1 hbi e))
   exact⟨g0,bj,g1,g2.mono (fun _ _ h=>h) (fun _ _ h=>h) g2.free (hne _ this),g3⟩
 ·unfold upd at hv hv'
  split at hv <;> split at hv'
  ·subst_vars; rfl
  ·subst_vars; cases hv; exact (hR.apart _ _ _ _ hv' hk (by rw[← he,hid])).symm
  ·subst_vars; cases hv'; exact hR.apart _ _ _ _ hv hk (by rw[he,hid])
  ·exact hR.apart _ _ _ _ hv hv' he
end
end Go.PM
end
