/-
  One operation, in D and in the model: append; a text as bytes.
-/
import Derived.Test.YtlknjgmhfimhbaaGreatDoorSimG
import Derived.Laws.Append
set_option linter.unusedVariables false
set_option linter.unusedSimpArgs false
namespace Go.PM
section
variable {P:Program}{lo:Nat}{Tch:Nat→Prop}{φ:Phi}{σ:Sig}{G:Nat→Option (List IV)}{T:Nat→Option DV}{L:Nat→Option LV}{h:Nat→Option HB}{a:Act}{w:World}{n:Nat}
def zBb (φ:Phi) (σ:Sig) (s:Nat) (ys:List (List DV)) (vals:List Value):Prop:=
 vals.length=ys.length*s∧(∀ v∈vals,v.oneCell'=true)∧(∀ r∈ys,r.length=s)∧∀ (i j:Nat) r c,ys[i]?=some r→r[j]?=some c→∃ cv,vals[i*s+j]?=some cv∧cv.oneCell'=true∧RepD φ σ c cv
variable {s:Nat} {ys:List (List DV)}
theorem zTL {ad:Addr}(hs:∀ r∈ys,r.length=s)
  (hc:∀ (i j:Nat) r c,ys[i]?=some r→r[j]?=some c→∃ cv,w.cell? (ad.add (i*s+j))=some cv∧cv.oneCell'=true∧RepD φ σ c cv) :
  ∃ vals,zBb φ σ s ys vals∧∀ (j:Nat) v,vals[j]?=some v→w.cell? (ad.add j)=some v:=by
 by_cases h0:s=0
 ·subst h0
  refine⟨[],⟨by simp,fun v hv=>by simp at hv,hs,fun i j r c hi hj=>?_⟩,fun j v hv=>by simp at hv⟩
  have:=hs r (List.mem_of_getElem? hi)
  have:r=[]:=List.length_eq_zero_iff.1 this
  subst this; simp at hj
 ·have hpos:0<s:=by omega
  have key:∀ k:Nat,∃ cv,∀ r c,ys[k / s]?=some r→r[k % s]?=some c→w.cell? (ad.add k)=some cv∧cv.oneCell'=true∧RepD φ σ c cv:=fun k=>by
   cases hi:ys[k / s]? with
   | none=>exact⟨undef,fun r c h1 _=>by cases h1⟩
   | some r=>
    cases hj:r[k % s]? with
    | none=>exact⟨undef,fun r' c h1 h2=>by cases h1; rw[hj] at h2; cases h2⟩
    | some c=>
     obtain⟨cv,q⟩:=hc _ _ r c hi hj
     rw[show k / s*s+k % s=k by rw[Nat.mul_comm]; exact Nat.div_add_mod k s] at q
     exact⟨cv,fun r' c' h1 h2=>by cases h1; rw[hj] at h2; cases h2; exact q⟩
  obtain⟨f,hf⟩:=Classical.axiomOfChoice key
  have ex:∀ k,k<ys.length*s→∃ r c,ys[k / s]?=some r∧r[k % s]?=some c:=fun k hk=>by
   have h1:k / s<ys.length:=(Nat.div_lt_iff_lt_mul hpos).2 hk
   have h2:=List.getElem?_eq_getElem h1
   have h3:k % s<(ys[k / s]).length:=by rw[hs _ (List.getElem_mem h1)]; exact Nat.mod_lt _ hpos
   exact⟨_,_,h2,List.getElem?_eq_getElem h3⟩
  have get:∀ (k:Nat) v,((List.range (ys.length*s)).map f)[k]?=some v→k<ys.length*s∧v=f k:=fun k v hv=>by
   have hk:k<ys.length*s:=by have:=(List.getElem?_eq_some_iff.1 hv).1; simpa using this
   refine⟨hk,?_⟩
   rw[List.getElem?_map,List.getElem?_range hk] at hv
   simpa using hv.symm
  refine⟨(List.range (ys.length*s)).map f,⟨by simp,fun v hv=>?_,hs,fun i j r c hi hj=>?_⟩,fun j v hv=>?_⟩
  ·obtain⟨k,hk⟩:=List.getElem?_of_mem hv
   obtain⟨h1,rfl⟩:=get k v hk
   obtain⟨r,c,h2,h3⟩:=ex k h1
   exact (hf k r c h2 h3).2.1
  ·have hjs:j<s:=by rw[← hs r (List.mem_of_getElem? hi)]; exact (List.getElem?_eq_some_iff.1 hj).1
   have hil:i<ys.length:=(List.getElem?_eq_some_iff.1 hi).1
   have hlt:i*s+j<ys.length*s:=by
    have:(i+1)*s≤ys.length*s:=Nat.mul_le_mul_right _ hil
    rw[Nat.add_mul,Nat.one_mul] at this; omega
   have e1:(i*s+j) / s=i:=by rw[Nat.mul_comm,Nat.mul_add_div hpos,Nat.div_eq_of_lt hjs,Nat.add_zero]
   have e2:(i*s+j) % s=j:=by rw[Nat.mul_comm,Nat.mul_add_mod,Nat.mod_eq_of_lt hjs]
   have:=hf (i*s+j) r c (by rw[e1]; exact hi) (by rw[e2]; exact hj)
   exact⟨f (i*s+j),by rw[List.getElem?_map,List.getElem?_range hlt]; rfl,this.2.1,this.2.2⟩
  ·obtain⟨h1,rfl⟩:=get j v hv
   obtain⟨r,c,h2,h3⟩:=ex j h1
   exact (hf j r c h2 h3).1
theorem zRW (hR:Rel lo Tch φ σ T L h a.tmps w){b:DV}{rb:Value}(hb:RepD φ σ b rb){src:Option Nat}{sb:Nat}(hsrc:zRS h b=some (src,sb,ys))(hs:sb=s∨ys=[]) :
  ∃ vals,(∀ w':World,(∀ ad,w'.cell? ad=w.cell? ad)→(Builtin.firstCells s ys.length rb).run P w'=.ok vals.toArray w')∧(Builtin.lenOf rb).run P w=.ok ys.length w∧zBb φ σ s ys vals∧((∃ t,rb=.string t)→s=1∨ys=[]):=by
 have plain:∀ {src:Option Nat}{sb:Nat}{ys:List (List DV)},zPV h b=some (src,sb,ys)→(sb=s∨ys=[])→
   ∃ vals,(∀ w':World,(∀ ad,w'.cell? ad=w.cell? ad)→(Builtin.firstCells s ys.length rb).run P w'=.ok vals.toArray w')∧(Builtin.lenOf rb).run P w=.ok ys.length w∧zBb φ σ s ys vals∧((∃ t,rb=.string t)→s=1∨ys=[]):=by
  intro src sb ys hrow hs
  rcases zPX hR hb hrow with⟨rfl,rfl,rfl⟩ | ⟨ad,cap,rfl,hcap,hlens,hcells⟩
  ·exact⟨[],fun w' _=>by simp[Builtin.firstCells],by simp[Builtin.lenOf],⟨by simp,fun v hv=>by simp at hv,fun r hr=>by simp at hr,fun i j r c hi _=>by simp at hi⟩,fun ⟨t,ht⟩=>by cases ht⟩
  ·have hs':(∀ r∈ys,r.length=s)∧∀ (i j:Nat) r c,ys[i]?=some r→r[j]?=some c→∃ cv,w.cell? (ad.add (i*s+j))=some cv∧cv.oneCell'=true∧RepD φ σ c cv:=by
    rcases hs with rfl | rfl
    ·exact⟨hlens,hcells⟩
    ·exact⟨fun r hr=>by simp at hr,fun i j r c hi _=>by simp at hi⟩
   obtain⟨vals,h1,h2⟩:=zTL hs'.1 hs'.2
   exact⟨vals,fun w' hw=>by simp only[Builtin.firstCells]; exact zPr w' ad _ vals h1.1 (fun j v hv=>by rw[hw]; exact h2 j v hv),by simp[Builtin.lenOf],h1,fun ⟨t,ht⟩=>by cases ht⟩
 cases b with
 | imm v=>
  cases v with
  | str t=>
   simp only[zRS,Option.some.injEq,Prod.mk.injEq] at hsrc
   obtain⟨_,rfl,rfl⟩:=hsrc
   obtain⟨q,rfl,rfl⟩:=zOo (zOl hb)
   have hsz:q.data.toList.length=q.size:=by simp
   rcases hs with rfl | h0
   ·refine⟨q.data.toList.map fun c=>.int .u8 c.toNat,fun w' _=>?_,by simp[Builtin.lenOf],⟨by simp,fun v hv=>?_,fun r hr=>?_,fun i j r c hi hj=>?_⟩,fun _=>.inl rfl⟩
    ·simp only[Builtin.firstCells,List.length_map,hsz,Sem.run_pure]
     congr 1
     have:q.extract 0 q.size=q:=by
      apply ByteArray.ext; rw[ByteArray.data_extract]; simp
     rw[this]
     apply Array.ext'; simp
    ·obtain⟨c,_,rfl⟩:=List.mem_map.1 hv; rfl
    ·obtain⟨c,_,rfl⟩:=List.mem_map.1 hr; rfl
    ·rw[List.getElem?_map] at hi
     simp only[Option.map_eq_some_iff] at hi
     obtain⟨x,hx,rfl⟩:=hi
     cases j with
     | zero=>
      simp at hj; subst hj
      exact⟨.int .u8 x.toNat,by simp[hx],rfl,.imm .int⟩
     | succ j=>simp at hj
   ·have h0':q.data.toList=[]:=by simpa using h0
    refine⟨[],fun w' _=>?_,by simp[Builtin.lenOf],⟨by simp[h0'],fun v hv=>by simp at hv,fun r hr=>by rw[h0] at hr; simp at hr,fun i j r c hi _=>by rw[h0] at hi; simp at hi⟩,fun _=>.inr h0⟩
    simp only[Builtin.firstCells,List.length_map,h0',List.length_nil,Sem.run_pure]
    congr 1
    have:(q.extract 0 0).data.toList=[]:=by rw[ByteArray.data_extract]; simp
    apply Array.ext'; simp[this]
  | _=>exact plain hsrc hs
 | _=>exact plain hsrc hs
structure AppOk (P:Program) (ts:Array TypeId) (el:TypeId) (s b:Nat) (z:Value):Prop where
 t0:∃ t,ts[0]?=some t∧P.underlying t=some (.slice el)
 t1:∃ u,ts[1]?=some u∧((∃ e',P.underlying u=some (.slice e'))∨P.underlying u=some .string)
 inf:∃ i,P.info? el=some i∧i.size=s∧i.bytes=b∧i.zero=some z
theorem zPf {ts:Array TypeId}{ty el:TypeId} {b:Nat}{z:Value}(hok:AppOk P ts el s b z){base:Option Addr}{sLen sCap n':Nat}{x:Value}{vals:List Value}
  (hlen:(Builtin.lenOf x).run P w=.ok n' w) (hfirst:(Builtin.firstCells s n' x).run P w=.ok vals.toArray w) (hle:sLen+n'≤sCap){w':World}
  (hst:∀ ad,base=some ad→(storeCells (ad.add (sLen*s)) vals).run P w=.ok () w') (hnone:base=none→w'=w) :
  (Builtin.append_ ts ty #[.slice base sLen sCap,x]).run P w=.ok (.slice base (sLen+n') sCap) w':=by
 obtain⟨t,ht,hu⟩:=hok.t0
 obtain⟨u,hu1,hu2⟩:=hok.t1
 obtain⟨i,hi,hs,hb,hz⟩:=hok.inf
 have hsz:∀ w,(sizeOf el).run P w=.ok s w:=zP3 (by simp[szOk,hi,hs])
 rcases hu2 with⟨e',hu2⟩ | hu2
 ·cases base with
  | none=>simp[Builtin.append_,ht,hu1,zP9 hu,zP9 hu2,hsz,hlen,hfirst,hle,hnone rfl]
  | some ad=>simp[Builtin.append_,ht,hu1,zP9 hu,zP9 hu2,hsz,hlen,hfirst,hle,hst ad rfl]
 ·cases base with
  | none=>simp[Builtin.append_,ht,hu1,zP9 hu,zP9 hu2,hsz,hlen,hfirst,hle,hnone rfl]
  | some ad=>simp[Builtin.append_,ht,hu1,zP9 hu,zP9 hu2,hsz,hlen,hfirst,hle,hst ad rfl]
theorem zPg {ts:Array TypeId}{ty el:TypeId} {b:Nat}{z:Value}(hok:AppOk P ts el s b z){base:Option Addr}{sLen sCap n':Nat}{x:Value}{old vals:List Value}
  (hlen:(Builtin.lenOf x).run P w=.ok n' w) (hfirst:(Builtin.firstCells s n' x).run P w.drew=.ok vals.toArray w.drew)
  (hold:(Builtin.firstCells s sLen (.slice base sLen sCap)).run P w.drew=.ok old.toArray w.drew) (hgt:sCap<sLen+n') (hmax:sLen+n'≤zCJ) (hmaxb:(sLen+n')*b≤zCJ) :
  (Builtin.append_ ts ty #[.slice base sLen sCap,x]).run P w=
   .ok (.slice (some ⟨w.heap.size,0,none⟩) (sLen+n') (grownCap w (sLen+n') sCap el)) (w.drew.alloc (.cells (old.toArray++vals.toArray++Builtin.zeroCells z.cells (grownCap w (sLen+n') sCap el - (sLen+n'))) el)):=by
 obtain⟨t,ht,hu⟩:=hok.t0
 obtain⟨u,hu1,hu2⟩:=hok.t1
 obtain⟨i,hi,hs,hb,hz⟩:=hok.inf
 have hsz:∀ w,(sizeOf el).run P w=.ok s w:=zP3 (by simp[szOk,hi,hs])
 have hnc:Builtin.nextslicecap (sLen+n') sCap*b≤281474976710656:=growslice_fits hgt (by unfold zCJ at hmaxb; omega)
 have hnc':¬(281474976710656<Builtin.nextslicecap (sLen+n') sCap*b):=by omega
 have hn:¬(sLen+n'≤sCap):=by omega
 have h63':¬(9223372036854775807<((sLen:Int)+(n':Int))):=by unfold zCJ at hmax; omega
 rcases hu2 with⟨e',hu2⟩ | hu2
 ·simp[Builtin.append_,ht,hu1,zP9 hu,zP9 hu2,hsz,typeInfo,zeroValue,hi,hz,hb,hlen,hn,h63',hnc',Question.forced,hfirst,hold,newRow,grownCap]
  congr 2; apply Array.ext'; simp[List.append_assoc]
 ·simp[Builtin.append_,ht,hu1,zP9 hu,zP9 hu2,hsz,typeInfo,zeroValue,hi,hz,hb,hlen,hn,h63',hnc',Question.forced,hfirst,hold,newRow,grownCap]
  congr 2; apply Array.ext'; simp[List.append_assoc]
theorem zEJ {rows:List (List DV)}{c:Array Value}{vals:List Value}{k:Nat}(hr:∀ r∈rows,r.length=s) (hc:∀ (i:Nat) r,rows[i]?=some r→CellsAt φ σ c (i*s) r) (hv:zBb φ σ s ys vals)
  (hk:k≤rows.length) (hle:k*s+ys.length*s≤c.size){i:Nat}{r:List DV}(hi:(rows.take k++ys++rows.drop (k+ys.length))[i]?=some r):CellsAt φ σ (zJx c (k*s) vals) (i*s) r:=by
 have hle':k*s+vals.length≤c.size:=by rw[hv.1]; exact hle
 intro j x hj
 rw[zJz hle']
 have hrs:r.length=s:=by
  have hm:=List.mem_of_getElem? hi
  simp only[List.mem_append] at hm
  rcases hm with (hm | hm) | hm
  ·exact hr r (List.mem_of_mem_take hm)
  ·exact hv.2.2.1 r hm
  ·exact hr r (List.mem_of_mem_drop hm)
 have hjs:j<s:=by rw[← hrs]; exact (List.getElem?_eq_some_iff.1 hj).1
 have hkl:(rows.take k).length=k:=by simp; omega
 rw[List.append_assoc,List.getElem?_append,hkl] at hi
 have mul:∀ p q:Nat,p<q→p*s+s≤q*s:=fun p q hpq=>by
  have:(p+1)*s≤q*s:=Nat.mul_le_mul_right _ hpq
  rw[Nat.add_mul,Nat.one_mul] at this; exact this
 split at hi
 ·rename_i h1
  rw[List.getElem?_take,if_pos h1] at hi
  have:=mul i k h1
  rw[if_pos (by omega)]
  exact hc i r hi j x hj
 ·rename_i h1
  have h1':k≤i:=by omega
  have hki:k*s≤i*s:=Nat.mul_le_mul_right _ h1'
  rw[if_neg (by omega)]
  rw[List.getElem?_append] at hi
  split at hi
  ·rename_i h2
   have:=mul (i - k) ys.length h2
   have e:i*s=k*s+(i - k)*s:=by rw[← Nat.add_mul]; congr 1; omega
   rw[if_pos (by rw[hv.1]; omega)]
   obtain⟨cv,q1,q2,q3⟩:=hv.2.2.2 _ _ r x hi hj
   exact⟨cv,by rw[← q1]; congr 1; omega,q2,q3⟩
  ·rename_i h2
   rw[List.getElem?_drop] at hi
   have e:(k+ys.length)*s≤i*s:=Nat.mul_le_mul_right _ (by omega)
   rw[Nat.add_mul] at e
   rw[if_neg (by rw[hv.1]; omega)]
   rw[show k+ys.length+(i - k - ys.length)=i by omega] at hi
   exact hc i r hi j x hj
theorem zSC {α:Type}{rows ys:List α}{k:Nat}(hk:k≤rows.length):(rows.take k++ys++rows.drop (k+ys.length)).length=max rows.length (k+ys.length):=by
 simp; omega
theorem zEI {rows:List (List DV)}{olds vals:List Value}{rest:Array Value}(ho:zBb φ σ s rows olds) (hv:zBb φ σ s ys vals){i:Nat}{r:List DV}(hi:(rows++ys)[i]?=some r) :
  CellsAt φ σ (olds.toArray++vals.toArray++rest) (i*s) r:=by
 intro j x hj
 have hrs:r.length=s:=by
  have hm:=List.mem_of_getElem? hi
  simp only[List.mem_append] at hm
  rcases hm with hm | hm
  ·exact ho.2.2.1 r hm
  ·exact hv.2.2.1 r hm
 have hjs:j<s:=by rw[← hrs]; exact (List.getElem?_eq_some_iff.1 hj).1
 have mul:∀ p q:Nat,p<q→p*s+s≤q*s:=fun p q hpq=>by
  have:(p+1)*s≤q*s:=Nat.mul_le_mul_right _ hpq
  rw[Nat.add_mul,Nat.one_mul] at this; exact this
 have hol:=ho.1
 have hvl:=hv.1
 rw[List.getElem?_append] at hi
 split at hi
 ·rename_i h1
  obtain⟨cv,q1,q2,q3⟩:=ho.2.2.2 _ _ r x hi hj
  have:=mul i rows.length h1
  refine⟨cv,?_,q2,q3⟩
  rw[Array.append_assoc,Array.getElem?_append,if_pos (by simp; omega)]
  simpa using q1
 ·rename_i h1
  obtain⟨cv,q1,q2,q3⟩:=hv.2.2.2 _ _ r x hi hj
  have hlt:i - rows.length<ys.length:=(List.getElem?_eq_some_iff.1 hi).1
  have:=mul (i - rows.length) ys.length hlt
  have e:i*s=rows.length*s+(i - rows.length)*s:=by rw[← Nat.add_mul]; congr 1; omega
  refine⟨cv,?_,q2,q3⟩
  rw[Array.append_assoc,Array.getElem?_append,if_neg (by simp; omega),Array.getElem?_append,if_pos (by simp; omega)]
  rw[← q1]; simp
  congr 1; omega
theorem Rel.moveH (hR:Rel lo Tch φ σ T L h a.tmps w){id:Nat}{hb hb':HB}{bi:BI}(hid:h id=some hb) (hbi:φ id=some bi) (hf:φ n=none) (hlo:lo≤id){c':Array Value}{t:TypeId}{fr:Nat×Nat}(hfr:Unfr fr c'.size)
  (hsz:hb'.sz=hb.sz) (hcs:c'.size=bi.size) (hlen:hb'.rows.length*hb'.sz≤bi.size) (hrows:∀ r∈hb'.rows,r.length=hb'.sz)
  (hc:∀ (i:Nat) r,hb'.rows[i]?=some r→CellsAt φ σ c' (i*hb'.sz) r) :
  Rel lo Tch (zNx φ n bi) σ T L (upd (upd h id none) n (some hb')) a.tmps (setBlock w bi.blk (.cells c' t fr)):=by
 have h1:=hR.setH hid hbi (t:=t) hfr hsz hcs hlen hrows hc
 have hne:id≠n:=fun e=>by rw[e,hf] at hbi; cases hbi
 have hext:∀ i b,φ i=some b→zNx φ n bi i=some b:=fun i b hi=>by
  unfold zNx; split
  ·subst_vars; rw[hf] at hi; cases hi
  ·exact hi
 have old:∀ i b,i≠n→zNx φ n bi i=some b→φ i=some b:=fun i b hi hb=>by
  unfold zNx at hb; rw[if_neg hi] at hb; exact hb
 have nn:zNx φ n bi n=some bi:=by simp[zNx]
 have lid:Liv L (upd h id (some hb')) id:=.inl ⟨hb',zTE _ _ _⟩
 have lmap:∀ i,Liv L (upd (upd h id none) n (some hb')) i→i=n∨(Liv L (upd h id (some hb')) i∧i≠id∧i≠n):=fun i hi=>by
  by_cases hin:i=n
  ·exact .inl hin
  ·right
   rcases hi with⟨x,hx⟩ | ⟨k,v,hk,hv⟩
   ·rw[zTD _ _ hin] at hx
    unfold upd at hx
    split at hx
    ·cases hx
    ·rename_i hii
     exact⟨.inl ⟨x,by rw[zTD _ _ hii]; exact hx⟩,hii,hin⟩
   ·refine⟨.inr ⟨k,v,hk,hv⟩,fun e=>?_,hin⟩
    have:=(h1.locs k v hk).1
    rw[hv,e,zTE] at this; cases this
 refine⟨h1.sig,fun i j b b' li lj hi hj hb=>?_,fun i b hi=>?_,fun i x hx=>?_,fun k v hk=>?_,h1.apart,fun k v hk=>?_⟩
 ·rcases lmap i li with rfl | ⟨li',ii,inn⟩
  ·rcases lmap j lj with rfl | ⟨lj',jj,jn⟩
   ·rfl
   ·rw[nn] at hi; cases hi
    exact absurd (h1.inj _ _ _ _ lid lj' hbi (old _ _ jn hj) hb).symm jj
  ·rcases lmap j lj with rfl | ⟨lj',jj,jn⟩
   ·rw[nn] at hj; cases hj
    exact absurd (h1.inj _ _ _ _ li' lid (old _ _ inn hi) hbi hb) ii
   ·exact h1.inj _ _ _ _ li' lj' (old _ _ inn hi) (old _ _ jn hj) hb
 ·by_cases hin:i=n
  ·subst hin; rw[nn] at hi; cases hi; exact h1.rng _ _ hbi
  ·exact h1.rng _ _ (old _ _ hin hi)
 ·by_cases hin:i=n
  ·subst hin
   rw[zTE] at hx; cases hx
   obtain⟨bi',g1,g2,g3⟩:=h1.heap id hb' (zTE _ _ _)
   rw[hbi] at g1; cases g1
   exact⟨bi,nn,g2.mono hext (fun _ _ h=>h) g2.free rfl,fun _=>g3 hlo⟩
  ·rw[zTD _ _ hin] at hx
   unfold upd at hx
   split at hx
   ·cases hx
   ·rename_i hii
    obtain⟨b,g1,g2,g3⟩:=h1.heap i x (by rw[zTD _ _ hii]; exact hx)
    exact⟨b,hext _ _ g1,g2.mono hext (fun _ _ h=>h) g2.free rfl,g3⟩
 ·obtain⟨h0,b,g1,g2,g3⟩:=h1.locs k v hk
  have hvn:v.id≠n:=fun e=>by rw[e,hf] at g1; cases g1
  refine⟨?_,b,hext _ _ g1,g2.mono hext (fun _ _ h=>h) g2.free rfl,g3⟩
  rw[zTD _ _ hvn]
  unfold upd at h0 ⊢
  split
  ·rfl
  ·rename_i hii; rw[if_neg hii] at h0; exact h0
 ·obtain⟨rv,g1,g2⟩:=h1.tmp k v hk
  exact⟨rv,g1,g2.mono hext (fun _ _ h=>h)⟩
end
end Go.PM
