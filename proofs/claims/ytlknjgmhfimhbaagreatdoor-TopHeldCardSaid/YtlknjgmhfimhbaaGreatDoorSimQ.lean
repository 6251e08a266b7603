/-
  Regions, in the order of the text and in any order.
  A region in any order.
-/
import Derived.Test.YtlknjgmhfimhbaaGreatDoorSimO
import Derived.Test.YtlknjgmhfimhbaaGreatDoorOrd
section
set_option linter.unusedVariables false
set_option linter.unusedSimpArgs false
namespace Go.PM
structure SR (lo:Nat) (Tch:Nat→Prop) (φ:Phi) (σ:Sig) (G:Nat→Option (List IV)) (nt N:Nat) (s:St) (a:Act) (w:World):Prop where
 fr:FR lo Tch φ σ G nt s.T.get s.L.get s.H.get a w
 fresh:zAh φ s.n N
 live:∀ id,s.H.get id≠none→id<s.n
 le:lo≤s.n
theorem Grow.over {φ φ1 φ2:Phi}{σ σ1 σ2:Sig}{n n' m m':Nat}{w w1:World}(a:Grow φ φ1 σ σ1 n n' w) (b:Grow φ1 φ2 σ1 σ2 m m' w1) (h1:n≤m) (h2:m'≤n')
  (hs:w.heap.size≤w1.heap.size):Grow φ φ2 σ σ2 n n' w:=by
 refine⟨fun id bi h=>b.ext _ _ (a.ext _ _ h),fun id bi h h'=>?_,fun x o h=>b.sg _ _ (a.sg _ _ h),fun x o h=>?_⟩
 ·cases he:φ1 id with
  | none=>obtain⟨p,q⟩:=b.new id bi he h'; exact⟨by omega,by omega⟩
  | some bj=>exact a.new id _ h he
 ·rcases b.sgn x o h with h | h
  ·exact a.sgn x o h
  ·exact .inr (by omega)
theorem Grow.fresh {φ φ':Phi}{σ σ':Sig}{n n' N:Nat}{w:World}(g:Grow φ φ' σ σ' n n' w) (hl:n≤n') (hF:zAh φ n N):zAh φ' n' N:=fun id h1 h2=>by
 cases he:φ' id with
 | none=>rfl
 | some bi=>
  have:=g.new id bi (hF id (by omega) h2) he
  omega
theorem Mon.live {n n':Nat}{h h':Nat→Option HB}(m:Mon n n' h h') (hl:∀ id,h id≠none→id<n):∀ id,h' id≠none→id<n':=fun id hid=>by
 by_cases h0:h id=none
 ·by_cases h1:id<n'
  ·exact h1
  ·exact absurd (m.fr id h0 (.inr (by omega))) hid
 ·have:=hl id h0
  have:=m.le
  omega
section
variable {P:Program}{lo:Nat}{Tch:Nat→Prop}{φ:Phi}{σ:Sig}{G:Nat→Option (List IV)}{a:Act}{w:World}{nt N:Nat}{K:Callee}{ops:Array Oper}
theorem KOk.kmon (hK:KOk P G K):KMon K:=fun f args H n lo v H' n'=>hK.mon f args H n lo v H' n'
theorem zNF:∀ {os:List Oper}{ds:List DO},okOs P nt ops os ds=true→os.length=ds.length∧∀ (i:Nat) o d,os[i]?=some o→ds[i]?=some d→okO P nt ops o d=true
 | [],[],_=>⟨rfl,by simp⟩
 | o::os,d::ds,h=>by
  simp only[okOs,Bool.and_eq_true] at h
  obtain⟨q1,q2⟩:=zNF h.2
  refine⟨by simp[q1],fun i o' d' h1 h2=>?_⟩
  cases i with
  | zero=>simp at h1 h2; subst h1 h2; exact h.1
  | succ i=>simp at h1 h2; exact q2 i o' d' h1 h2
 | [],_::_,h=>by simp[okOs] at h
 | _::_,[],h=>by simp[okOs] at h
theorem zNX:∀ {ds:List DO}{s s':St}{accs:List (List Acc)},zNV G K lo ds s=some (s',accs)→
  ∃ st:Nat→St,st 0=s∧st ds.length=s'∧accs.length=ds.length∧∀ (i:Nat) d,ds[i]?=some d→∃ acc,accs[i]?=some acc∧zNP G K lo d (st i)=some (st (i+1),acc)
 | [],s,s',accs,h=>by
  simp[zNV] at h
  obtain⟨rfl,rfl⟩:=h
  exact⟨fun _=>s,rfl,rfl,rfl,by simp⟩
 | d::ds,s,s',accs,h=>by
  simp only[zNV] at h
  split at h
  ·rename_i s1 ac h1
   simp only[Option.map_eq_some_iff] at h
   obtain⟨⟨s2,as⟩,h2,h3⟩:=h
   cases h3
   obtain⟨st,q1,q2,q3,q4⟩:=zNX h2
   refine⟨fun i=>match i with | 0=>s | i+1=>st i,rfl,q2,by simp[q3],fun i d' hd=>?_⟩
   cases i with
   | zero=>
    simp at hd; subst hd
    refine⟨ac,rfl,?_⟩
    show zNP G K lo d s=some (st 0,ac)
    rw[q1]; exact h1
   | succ i=>
    simp at hd
    obtain⟨acc,p1,p2⟩:=q4 i d' hd
    exact⟨acc,by simpa using p1,p2⟩
  ·cases h
theorem zOc (hK:KOk P G K){Q:Exit→Act→World→Prop}{ds0:List DO}(hok:okOs P nt ops ops.toList ds0=true) :
  ∀ (ds:List DO) (i:Nat) (s s':St) (accs:List (List Acc)) (φ:Phi) (σ:Sig) (a:Act) (w:World),ds0.drop i=ds→zNV G K lo ds s=some (s',accs)→SR lo Tch φ σ G nt N s a w→s'.n≤N→
   (∀ a' w' φ' σ',SR lo Tch φ' σ' G nt N s' a' w'→Grow φ φ' σ σ' s.n s'.n w→Fr Tch w w'→Q .normal a' w')→
   wpOps P ops Q (List.range' i ds.length) a w:=by
 obtain⟨hlen,hpt⟩:=zNF hok
 intro ds
 induction ds with
 | nil=>
  intro i s s' accs φ σ a w hi hr hS hN hQ
  simp[zNV] at hr
  obtain⟨rfl,rfl⟩:=hr
  exact hQ a w φ σ hS (.refl _ _ _ _ _) (.refl _ _)
 | cons d ds ih=>
  intro i s s' accs φ σ a w hi hr hS hN hQ
  have hdi:ds0[i]?=some d:=by
   have:(ds0.drop i)[0]?=some d:=by rw[hi]; rfl
   simpa using this
  have hlt:i<ops.toList.length:=by rw[hlen]; exact (List.getElem?_eq_some_iff.1 hdi).1
  have ho:ops.toList[i]?=some ops.toList[i]:=List.getElem?_eq_getElem hlt
  generalize ops.toList[i]=o at ho
  have ho':ops[i]?=some o:=by simpa using ho
  have hoko:=hpt i o d ho hdi
  simp only[zNV] at hr
  split at hr
  ·rename_i s1 ac h1
   simp only[Option.map_eq_some_iff] at hr
   obtain⟨⟨s2,as⟩,h2,h3⟩:=hr
   cases h3
   have hfr:=zNR hK.kmon h1
   have hm2:=zNW hK.kmon h2
   simp only[List.length_cons,List.range'_succ,wpOps,ho']
   refine zNT hK hoko h1 hS.fr (fun _ _=>rfl) (fun _ _=>rfl) (fun _ _=>rfl) (fun _=>rfl) (fun id p1 p2=>hS.fresh id p1 (by have:=hm2.le; simp only at hN; omega)) hS.le hS.live ?_
   intro a' w' φ' σ' hF hg hfr'
   have e1:(fun k=>if d.dst=some k then s1.T.get k else s.T.get k)=s1.T.get:=by
    funext k; split
    ·rfl
    ·rename_i hk; exact (hfr.t k hk).symm
   have e2:(fun k=>if Acc.wL k∈ac then s1.L.get k else s.L.get k)=s1.L.get:=by
    funext k; split
    ·rfl
    ·rename_i hk; exact (hfr.l k hk).symm
   have e3:(fun id=>if Acc.wX id∈ac∨Acc.wA∈ac then s1.H.get id else s.H.get id)=s1.H.get:=by
    funext id; split
    ·rfl
    ·rename_i hk; exact (hfr.x id (fun e=>hk (.inl e)) (fun e=>hk (.inr e))).symm
   rw[e1,e2,e3] at hF
   refine ih (i+1) s1 s2 as φ' σ' a' w' (by rw[← List.drop_drop,hi]; rfl) h2 ⟨hF,hg.fresh hfr.mon.le hS.fresh,hfr.mon.live hS.live,Nat.le_trans hS.le hfr.mon.le⟩ hN ?_
   intro a'' w'' φ'' σ'' hS'' hg'' hfr''
   exact hQ a'' w'' φ'' σ'' hS'' (hg.trans hg'' hfr.mon.le hm2.le hfr'.size) (hfr'.trans hfr'')
  ·cases hr
theorem zER {x y:List Acc}(h:zES x y=false){p q:Acc}(hp:p∈x) (hq:q∈y):p.clash q=false:=by
 unfold zES at h
 rw[List.any_eq_false] at h
 have:=h p hp
 simp only[Bool.not_eq_true,List.any_eq_false] at this
 simpa using this q hq
structure Draw (ops:Array Oper) (ds:List DO) (accs:List (List Acc)):Prop where
 slots:∀ (i j:Nat) x y,i<j→ds[i]?=some x→ds[j]?=some y→¬Bef ops.toList i j→zRC x y=true
 accs:∀ (i j:Nat) x y,i<j→accs[i]?=some x→accs[j]?=some y→¬Bef ops.toList i j→zES x y=false
theorem zGa {ds:List DO}{bef:List (List Nat)}{accs:List (List Acc)}(h1:zC9 (zB4 ops.toList) bef=true) (h2:zNq (zB4 ops.toList) ds=true) (h3:calm bef accs=true):Draw ops ds accs:=by
 have hA:=zB5 ops.toList
 constructor
 ·intro i j x y hij hx hy hb
  unfold zNq at h2
  rw[List.all_eq_true] at h2
  have:=h2 (y,j) (List.mem_zipIdx_iff_getElem?.2 hy)
  simp only[List.all_eq_true] at this
  have:=this (x,i) (List.mem_zipIdx_iff_getElem?.2 hx)
  simp only[hij,decide_true,Bool.not_true,Bool.false_or,Bool.or_eq_true,List.contains_iff_mem] at this
  rcases this with h | h
  ·exact absurd (hA _ _ h) hb
  ·exact h
 ·intro i j x y hij hx hy hb
  unfold calm at h3
  rw[List.all_eq_true] at h3
  have:=h3 (y,j) (List.mem_zipIdx_iff_getElem?.2 hy)
  simp only[Bool.or_eq_true,List.all_eq_true] at this
  rcases this with h | h
  ·have:y=[]:=by simpa using h
   subst this
   simp[zES]
  ·have:=h (x,i) (List.mem_zipIdx_iff_getElem?.2 hx)
   simp only[hij,decide_true,Bool.not_true,Bool.false_or,Bool.or_eq_true,List.contains_iff_mem,Bool.not_eq_true'] at this
   rcases this with (h | h) | h
   ·have:x=[]:=by simpa using h
    subst this
    simp[zES]
   ·exfalso
    unfold zC9 at h1
    rw[List.all_eq_true] at h1
    have hj:bef[j]?=some (bef.getD j []):=by
     rw[List.getD_eq_getElem?_getD] at h ⊢
     cases hb':bef[j]? with
     | none=>rw[hb'] at h; simp at h
     | some l=>simp
    have:=h1 (bef.getD j [],j) (List.mem_zipIdx_iff_getElem?.2 hj)
    simp only[List.all_eq_true,List.contains_iff_mem] at this
    exact hb (hA _ _ (this i (by simpa using h)))
   ·simpa using h
end
end Go.PM
end
section
set_option linter.unusedVariables false
set_option linter.unusedSimpArgs false
namespace Go.PM
section
variable {P:Program}{lo:Nat}{Tch:Nat→Prop}{φ0:Phi}{σ0:Sig}{w0:World}{G:Nat→Option (List IV)}{nt N:Nat}{K:Callee}{ops:Array Oper}
theorem apart_spec {x y:DO}(h:zRC x y=true):(∀ k,x.dst=some k→k∉y.ts∧y.dst≠some k)∧∀ k,y.dst=some k→k∉x.ts:=by
 unfold zRC at h
 simp only[Bool.and_eq_true] at h
 refine⟨fun k hk=>?_,fun k hk=>?_⟩
 ·have:=h.1
  rw[hk] at this
  simpa using this
 ·have:=h.2
  rw[hk] at this
  simpa using this
def wrT (ds:List DO) (i x:Nat):Prop:=(ds[i]?).bind (·.dst)=some x
def wrL (accs:List (List Acc)) (i x:Nat):Prop:=Acc.wL x∈accs.getD i []
def wrH (accs:List (List Acc)) (i x:Nat):Prop:=Acc.wX x∈accs.getD i []∨Acc.wA∈accs.getD i []
instance (ds:List DO) (i x:Nat):Decidable (wrT ds i x):=inferInstanceAs (Decidable (_=_))
instance (accs:List (List Acc)) (i x:Nat):Decidable (wrL accs i x):=inferInstanceAs (Decidable (_∈_))
instance (accs:List (List Acc)) (i x:Nat):Decidable (wrH accs i x):=inferInstanceAs (Decidable (_∨_))
structure Run (G:Nat→Option (List IV)) (K:Callee) (lo:Nat) (ds:List DO) (accs:List (List Acc)) (st:Nat→St):Prop where
 step:∀ (i:Nat) d,ds[i]?=some d→zNP G K lo d (st i)=some (st (i+1),accs.getD i [])
 fr:∀ (i:Nat) d,ds[i]?=some d→OpFr d (st i) (st (i+1)) (accs.getD i [])
theorem Run.mono {ds:List DO}{accs:List (List Acc)}{st:Nat→St}(hr:Run G K lo ds accs st){i:Nat}:∀ {j:Nat},i≤j→j≤ds.length→Mon (st i).n (st j).n (st i).H.get (st j).H.get
 | 0,h,_=>by rw[Nat.le_zero.1 h]; exact .refl _ _
 | j+1,h,hj=>by
  by_cases he:i=j+1
  ·rw[he]; exact .refl _ _
  ·exact (hr.mono (by omega) (by omega)).trans (hr.fr j _ (List.getElem?_eq_getElem (by omega:j<ds.length))).mon
theorem zEu {l:List Bool}{i:Nat}(h:l[i]?=some false):(l.set i true).count false+1=l.count false:=by
 induction l generalizing i with
 | nil=>simp at h
 | cons b l ih=>
  cases i with
  | zero=>simp at h; subst h; simp
  | succ i=>
   simp at h
   simp only[List.set_cons_succ,List.count_cons]
   have:=ih h
   omega
theorem zCI (hK:KOk P G K){Q:Exit→Act→World→Prop}{ds:List DO}{accs:List (List Acc)}{st:Nat→St}(hok:okOs P nt ops ops.toList ds=true) (hah:ahOk ops.toList=true)
  (hd:Draw ops ds accs) (hal:accs.length=ds.length) (hr:Run G K lo ds accs st) (hlo:lo≤(st 0).n) (hlv:∀ id,(st 0).H.get id≠none→id<(st 0).n) (hN:(st ds.length).n≤N)
  (hQ:∀ a' w' φ' σ',FR lo Tch φ' σ' G nt (st ds.length).T.get (st ds.length).L.get (st ds.length).H.get a' w'→Grow φ0 φ' σ0 σ' (st 0).n (st ds.length).n w0→Fr Tch w0 w'→Q .normal a' w') :
  ∀ (fuel:Nat) (listed:Array Bool) (a:Act) (w:World) (φ:Phi) (σ:Sig),listed.size=ops.size→listed.toList.count false=fuel→Closed ops.toList (fun i=>listed.getD i false)→
   FR lo Tch φ σ G nt (zL3 (fun i=>(st i).T.get) (wrT ds) (fun i=>listed.getD i false) ds.length) (zL3 (fun i=>(st i).L.get) (wrL accs) (fun i=>listed.getD i false) ds.length)
    (zL3 (fun i=>(st i).H.get) (wrH accs) (fun i=>listed.getD i false) ds.length) a w→
   (∀ id bi,φ id=some bi→id<(st 0).n∨N≤id∨∃ j,j<ds.length∧listed.getD j false=true∧(st j).n≤id∧id<(st (j+1)).n)→
   Grow φ0 φ σ0 σ (st 0).n (st ds.length).n w0→Fr Tch w0 w→wpAny P .any ops Q fuel listed a w:=by
 obtain⟨hlen,hpt⟩:=zNF hok
 have hsz:ops.size=ds.length:=by simpa using hlen
 have getd:∀ i,i<ds.length→∃ d,ds[i]?=some d:=fun i hi=>⟨_,List.getElem?_eq_getElem hi⟩
 have geta:∀ i,i<ds.length→accs[i]?=some (accs.getD i []):=fun i hi=>by
  rw[List.getD_eq_getElem?_getD,List.getElem?_eq_getElem (by omega:i<accs.length)]; rfl
 have frT:∀ j x,j<ds.length→¬wrT ds j x→(st (j+1)).T.get x=(st j).T.get x:=fun j x hj hw=>by
  obtain⟨d,hdj⟩:=getd j hj
  exact (hr.fr j d hdj).t x (fun e=>hw (by simp[wrT,hdj,e]))
 have frL:∀ j x,j<ds.length→¬wrL accs j x→(st (j+1)).L.get x=(st j).L.get x:=fun j x hj hw=>by
  obtain⟨d,hdj⟩:=getd j hj
  exact (hr.fr j d hdj).l x hw
 have frH:∀ j x,j<ds.length→¬wrH accs j x→(st (j+1)).H.get x=(st j).H.get x:=fun j x hj hw=>by
  obtain⟨d,hdj⟩:=getd j hj
  exact (hr.fr j d hdj).x x (fun e=>hw (.inl e)) (fun e=>hw (.inr e))
 have con:∀ i j p q,i<j→j<ds.length→p∈accs.getD i []→q∈accs.getD j []→p.clash q=true→Bef ops.toList i j:=fun i j p q hij hj hp hq hc=>by
  apply Classical.byContradiction
  intro hb
  have:=zER (hd.accs i j _ _ hij (geta i (by omega)) (geta j hj) hb) hp hq
  rw[hc] at this; cases this
 have done:∀ (listed:Array Bool) (a:Act) (w:World) (φ:Phi) (σ:Sig),(∀ i,i<ds.length→listed.getD i false=true)→
   FR lo Tch φ σ G nt (zL3 (fun i=>(st i).T.get) (wrT ds) (fun i=>listed.getD i false) ds.length) (zL3 (fun i=>(st i).L.get) (wrL accs) (fun i=>listed.getD i false) ds.length)
    (zL3 (fun i=>(st i).H.get) (wrH accs) (fun i=>listed.getD i false) ds.length) a w→Grow φ0 φ σ0 σ (st 0).n (st ds.length).n w0→Fr Tch w0 w→Q .normal a w:=fun listed a w φ σ hall hF hg hf=>by
  have e1:zL3 (fun i=>(st i).T.get) (wrT ds) (fun i=>listed.getD i false) ds.length=(st ds.length).T.get:=by
   funext x; exact zL4 (fun j hj=>frT j x hj) (fun j hj _=>hall j hj)
  have e2:zL3 (fun i=>(st i).L.get) (wrL accs) (fun i=>listed.getD i false) ds.length=(st ds.length).L.get:=by
   funext x; exact zL4 (fun j hj=>frL j x hj) (fun j hj _=>hall j hj)
  have e3:zL3 (fun i=>(st i).H.get) (wrH accs) (fun i=>listed.getD i false) ds.length=(st ds.length).H.get:=by
   funext x; exact zL4 (fun j hj=>frH j x hj) (fun j hj _=>hall j hj)
  rw[e1,e2,e3] at hF
  exact hQ a w φ σ hF hg hf
 have all_of_ready:∀ (listed:Array Bool),listed.size=ops.size→Region.ready .any ops listed=[]→∀ i,i<ds.length→listed.getD i false=true:=fun listed hls hre i=>by
  induction i using Nat.strongRecOn with
  | _ i ih=>
   intro hi
   have hil:i<listed.size:=by omega
   cases hb:listed[i] with
   | true=>simp[hil,hb]
   | false=>
    exfalso
    have:i∈Region.ready .any ops listed:=by
     rw[mem_ready]
     refine⟨by simp[hil,hb],ops[i]'(by omega),Array.getElem?_eq_getElem (by omega),fun e he hbd=>ih e.on ?_ ?_⟩
     ·unfold ahOk at hah
      rw[List.all_eq_true] at hah
      have:=hah (ops[i]'(by omega),i) (List.mem_zipIdx_iff_getElem?.2 (by simp))
      simp only[List.all_eq_true] at this
      have:=this e (Array.mem_toList_iff.2 he)
      simpa [hbd] using this
     ·unfold ahOk at hah
      rw[List.all_eq_true] at hah
      have:=hah (ops[i]'(by omega),i) (List.mem_zipIdx_iff_getElem?.2 (by simp))
      simp only[List.all_eq_true] at this
      have:=this e (Array.mem_toList_iff.2 he)
      have:e.on<i:=by simpa [hbd] using this
      omega
    rw[hre] at this; cases this
 intro fuel
 induction fuel with
 | zero=>
  intro listed a w φ σ hls hc hcl hF hφ hg hf
  have hall:∀ i,i<ds.length→listed.getD i false=true:=fun i hi=>by
   have hil:i<listed.size:=by omega
   cases hb:listed[i] with
   | true=>simp[hil,hb]
   | false=>
    exfalso
    have:0<listed.toList.count false:=List.count_pos_iff.2 (by rw[← hb]; simp)
    omega
  refine⟨?_,done listed a w φ σ hall hF hg hf⟩
  rw[List.eq_nil_iff_forall_not_mem]
  intro i hi
  have hi':=mem_ready.1 hi
  have hil:i<ds.length:=by
   obtain⟨_,o,ho,_⟩:=hi'
   rw[← hsz]; exact (Array.getElem?_eq_some_iff.1 ho).1
  have h1:=hall i hil
  have h2:=hi'.1
  have hil':i<listed.size:=by omega
  simp[hil'] at h1 h2
  rw[h1] at h2; cases h2
 | succ fuel ih=>
  intro listed a w φ σ hls hc hcl hF hφ hg hf
  refine⟨fun hre=>done listed a w φ σ (all_of_ready listed hls hre) hF hg hf,fun i hi=>?_⟩
  obtain⟨hun,o,ho,hedges⟩:=mem_ready.1 hi
  have hik:i<ds.length:=by rw[← hsz]; exact (Array.getElem?_eq_some_iff.1 ho).1
  have hil:i<listed.size:=by omega
  have hni:listed.getD i false=false:=by simpa [hil] using hun
  obtain⟨d,hdi⟩:=getd i hik
  have hoko:=hpt i o d (by simpa using ho) hdi
  have hready:∀ j,Edg ops.toList j i→listed.getD j false=true:=fun j hj=>by
   obtain⟨o',ho',e,he,hb,rfl⟩:=hj
   have:o'=o:=by
    have:ops[i]?=some o':=by simpa using ho'
    rw[ho] at this; cases this; rfl
   subst this
   exact hedges e he hb
  have ahead:∀ j,Bef ops.toList j i→listed.getD j false=true:=fun j hb=>hcl.ready hready hb
  have behind:∀ j,listed.getD j false=true→¬Bef ops.toList i j:=fun j hj hb=>by
   have:listed.getD i false=true:=hcl.bef hb hj
   rw[hni] at this; cases this
  have slot:∀ j,j<i→∀ dj,ds[j]?=some dj→listed.getD j false=false→zRC dj d=true:=fun j hj dj hdj hnl=>
   hd.slots j i dj d hj hdj hdi (fun hb=>by rw[ahead j hb] at hnl; cases hnl)
  have slot':∀ j,i<j→∀ dj,ds[j]?=some dj→listed.getD j false=true→zRC d dj=true:=fun j hj dj hdj hl=>
   hd.slots i j d dj hj hdi hdj (behind j hl)
  unfold wpOp
  rw[ho]
  refine zNT hK hoko (hr.step i d hdi) hF (fun x hx=>?_) (fun x hx=>?_) (fun x hx=>?_) (fun hx=>?_) (fun id h1 h2=>?_) (Nat.le_trans hlo (hr.mono (Nat.zero_le i) (by omega)).le)
   ((hr.mono (Nat.zero_le i) (by omega)).live hlv) ?_
  ·-- slots
   refine zL6 (by omega) (fun j hj=>frT j x (by omega)) (fun j hj hw=>?_) (fun j h1 h2 hS hw=>?_)
   ·obtain⟨dj,hdj⟩:=getd j (by omega)
    simp only[wrT,hdj,Option.bind_some] at hw
    cases hS:listed.getD j false with
    | true=>rfl
    | false=>exact absurd hx ((apart_spec (slot j hj dj hdj hS)).1 x hw).1
   ·obtain⟨dj,hdj⟩:=getd j h2
    simp only[wrT,hdj,Option.bind_some] at hw
    by_cases he:j=i
    ·subst he; rw[hni] at hS; cases hS
    ·exact absurd hx ((apart_spec (slot' j (by omega) dj hdj hS)).2 x hw)
  ·-- the frame's own
   refine zL6 (by omega) (fun j hj=>frL j x (by omega)) (fun j hj hw=>?_) (fun j h1 h2 hS hw=>?_)
   ·refine ahead j ?_
    rcases hx with hx | hx
    ·exact con j i _ _ hj hik hw hx (by simp[Acc.clash])
    ·exact con j i _ _ hj hik hw hx (by simp[Acc.clash])
   ·by_cases he:j=i
    ·subst he; rw[hni] at hS; cases hS
    ·refine behind j hS ?_
     rcases hx with hx | hx
     ·exact con i j _ _ (by omega) h2 hx hw (by simp[Acc.clash])
     ·exact con i j _ _ (by omega) h2 hx hw (by simp[Acc.clash])
  ·-- the heap
   refine zL6 (by omega) (fun j hj=>frH j x (by omega)) (fun j hj hw=>?_) (fun j h1 h2 hS hw=>?_)
   ·refine ahead j ?_
    rcases hx with hx | hx <;> rcases hw with hw | hw <;> exact con j i _ _ hj hik hw hx (by simp[Acc.clash])
   ·by_cases he:j=i
    ·subst he; rw[hni] at hS; cases hS
    ·refine behind j hS ?_
     rcases hx with hx | hx <;> rcases hw with hw | hw <;> exact con i j _ _ (by omega) h2 hx hw (by simp[Acc.clash])
  ·-- all of the heap
   funext x
   refine zL6 (by omega) (fun j hj=>frH j x (by omega)) (fun j hj hw=>?_) (fun j h1 h2 hS hw=>?_)
   ·refine ahead j ?_
    rcases hx with hx | hx <;> rcases hw with hw | hw <;> exact con j i _ _ hj hik hw hx (by simp[Acc.clash])
   ·by_cases he:j=i
    ·subst he; rw[hni] at hS; cases hS
    ·refine behind j hS ?_
     rcases hx with hx | hx <;> rcases hw with hw | hw <;> exact con i j _ _ (by omega) h2 hx hw (by simp[Acc.clash])
  ·-- numbers
   cases he:φ id with
   | none=>rfl
   | some bi=>
    exfalso
    have m1:=(hr.mono (Nat.zero_le i) (by omega)).le
    have m2:=(hr.mono (i:=i+1) (j:=ds.length) (by omega) (Nat.le_refl _)).le
    rcases hφ id bi he with h | h | ⟨j,hj,hS,h3,h4⟩
    ·omega
    ·omega
    ·by_cases hji:j=i
     ·subst hji; rw[hni] at hS; cases hS
     ·by_cases hlt:j<i
      ·have:=(hr.mono (i:=j+1) (j:=i) (by omega) (by omega)).le
       omega
      ·have:=(hr.mono (i:=i+1) (j:=j) (by omega) (by omega)).le
       omega
  ·intro a' w' φ' σ' hF' hg' hf'
   have hset:∀ j,j≠i→(listed.setIfInBounds i true).getD j false=listed.getD j false:=fun j hj=>getD_set_ne false (Ne.symm hj)
   have hseti:(listed.setIfInBounds i true).getD i false=true:=by simp[hil]
   have m1:=(hr.mono (Nat.zero_le i) (by omega)).le
   have m2:=(hr.mono (i:=i+1) (j:=ds.length) (by omega) (Nat.le_refl _)).le
   have m3:=(hr.fr i d hdi).mon.le
   refine ih (listed.setIfInBounds i true) a' w' φ' σ' (by simpa using hls) ?_ ?_ ?_ ?_ (hg.over hg' m1 m2 hf.size) (hf.trans hf')
   ·have:=zEu (l:=listed.toList) (i:=i) (by
     have:listed[i]=false:=by simpa [hil] using hni
     simp[hil,this])
    simp only[Array.toList_setIfInBounds]
    omega
   ·intro x y hxy hy
    have hy':(listed.setIfInBounds i true).getD y false=true:=hy
    show (listed.setIfInBounds i true).getD x false=true
    by_cases hyi:y=i
    ·subst hyi
     exact getD_set_true (hready x hxy)
    ·rw[hset y hyi] at hy'
     exact getD_set_true (hcl x y hxy hy')
   ·have e1:zL3 (fun i=>(st i).T.get) (wrT ds) (fun j=>(listed.setIfInBounds i true).getD j false) ds.length=
      fun x=>if d.dst=some x then (st (i+1)).T.get x else zL3 (fun i=>(st i).T.get) (wrT ds) (fun i=>listed.getD i false) ds.length x:=by
     funext x
     rw[zL8 hik hseti hset (fun hw j h1 h2 hS hw'=>?_)]
     ·have:wrT ds i x↔d.dst=some x:=by simp[wrT,hdi]
      by_cases hx:d.dst=some x
      ·rw[if_pos (this.2 hx),if_pos hx]
      ·rw[if_neg (fun e=>hx (this.1 e)),if_neg hx]
     ·obtain⟨dj,hdj⟩:=getd j h2
      simp only[wrT,hdi,hdj,Option.bind_some] at hw hw'
      exact ((apart_spec (slot' j h1 dj hdj hS)).1 x hw).2 hw'
    have e2:zL3 (fun i=>(st i).L.get) (wrL accs) (fun j=>(listed.setIfInBounds i true).getD j false) ds.length=
      fun x=>if Acc.wL x∈accs.getD i [] then (st (i+1)).L.get x else zL3 (fun i=>(st i).L.get) (wrL accs) (fun i=>listed.getD i false) ds.length x:=by
     funext x
     rw[zL8 (wr:=wrL accs) (val:=fun i=>(st i).L.get) hik hseti hset (fun hw j h1 h2 hS hw'=>behind j hS (con i j (.wL x) (.wL x) h1 h2 hw hw' (by simp[Acc.clash])))]
     rfl
    have e3:zL3 (fun i=>(st i).H.get) (wrH accs) (fun j=>(listed.setIfInBounds i true).getD j false) ds.length=
      fun x=>if Acc.wX x∈accs.getD i []∨Acc.wA∈accs.getD i [] then (st (i+1)).H.get x else zL3 (fun i=>(st i).H.get) (wrH accs) (fun i=>listed.getD i false) ds.length x:=by
     funext x
     rw[zL8 (wr:=wrH accs) (val:=fun i=>(st i).H.get) hik hseti hset (fun hw j h1 h2 hS hw'=>behind j hS (by
      rcases hw with hw | hw <;> rcases hw' with hw' | hw' <;> exact con i j _ _ h1 h2 hw hw' (by simp[Acc.clash])))]
     rfl
    rw[e1,e2,e3]; exact hF'
   ·intro id bi hid
    cases he:φ id with
    | some bj=>
     rcases hφ id bj he with h | h | ⟨j,hj,hS,h3,h4⟩
     ·exact .inl h
     ·exact .inr (.inl h)
     ·exact .inr (.inr ⟨j,hj,getD_set_true hS,h3,h4⟩)
    | none=>
     obtain⟨h1,h2⟩:=hg'.new id bi he hid
     exact .inr (.inr ⟨i,hik,hseti,h1,h2⟩)
end
end Go.PM
end
