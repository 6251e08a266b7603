/-
  Arguments as the row reads them, as D's values.
-/
import Derived.Test.YtlknjgmhfimhbaaGreatDoorSimS
import Derived.ChangeArms
import Derived.OpenShut
import Derived.WideKeyArgs
import Derived.SizedLaws
set_option linter.unusedVariables false
set_option linter.unusedSimpArgs false
namespace Go.PM
inductive Kd where
 | b
 | i (k:IntKind)
 | s
 | sl (ks:List Kd)
 deriving Inhabited
inductive FitK:Kd→IV→Prop
 | b {x:Bool}:FitK .b (.bool x)
 | i {k:IntKind}{n:Int}(h:(Lit.int k n).wf=true):FitK (.i k) (.int k n)
 | s {x:List UInt8}(hm:x.length≤reachBytes):FitK .s (.str x)
 | nil {ks:List Kd}:FitK (.sl ks) .nils
 | sl {ks:List Kd}{es:List (List IV)}(hm:es.length≤reachBytes) (hl:∀ e∈es,e.length=ks.length) (h:∀ (i j:Nat) e k c,es[i]?=some e→ks[j]?=some k→e[j]?=some c→FitK k c):FitK (.sl ks) (.lst false ks.length es)
def zQt (P:Program) (r:TypeId→Option (List Kd)):Nat→List Field→Option (List Kd)
 | _,[]=>some []
 | off,f::fs=>match r f.type with
  | some ks=>if f.offset=off∧ks.length=P.cellsOf f.type then (zQt P r (off+ks.length) fs).map (ks++·) else none
  | none=>none
def zQs (P:Program):Nat→TypeId→Option (List Kd)
 | 0,_=>none
 | n+1,t=>match P.underlying t with
  | some .bool=>some [.b]
  | some (.int k)=>some [.i k]
  | some .string=>some [.s]
  | some (.slice e)=>match zQs P n e with
   | some ks=>if ks.length=P.cellsOf e∧0<P.bytesOf e then some [.sl ks] else none
   | none=>none
  | some (.struct fs)=>match zQt P (zQs P n) 0 fs.toList with
   | some ks=>if ks.length=P.cellsOf t then some ks else none
   | none=>none
  | some (.array m e)=>match zQs P n e with
   | some ks=>if ks.length=P.cellsOf e∧m*ks.length=P.cellsOf t then some (List.replicate m ks).flatten else none
   | none=>none
  | _=>none
def zQx (w:World):Sig:=fun b=>w.heap[b]?
theorem zQy {w:World}{a:Addr}{v:Value}(h:w.cell? a=some v):(zQx w).cell a=some v:=by
 unfold World.cell? at h
 unfold Sig.cell zQx
 exact h
section
variable {H:Type}{enc:TypeId×Value→H}{P:Program}{w:World}{base:Nat}{spare:Nat→Bool}{held:Bool}
def zAG (w:World) (k:Kd) (v:Value):Prop:=∃ iv,FitK k iv∧RepI (zQx w) iv v∧v.oneCell'=true
theorem zTS {P:Program}{e:TypeId}:∀ {l:List (DataW H)}{d:DataW H},d∈l→∀ n∈d.weights P e,n∈DataW.weightsAll P e l
 | [],_,h,_,_=>by cases h
 | x::r,d,h,n,hn=>by
  simp only[DataW.weightsAll,List.mem_append]
  rcases List.mem_cons.1 h with rfl | h
  ·exact .inl hn
  ·exact .inr (zTS h n hn)
theorem zSq:∀ (n:Nat){t:TypeId}{ks:List Kd},zQs P n t=some ks→∀ {fuel:Nat}{cs:List Value}{x:DataW H×List MemPlace},DataW.trod enc P w base spare held fuel t cs=some x→(∀ n∈x.1.weights P t,n≤reachBytes)→
  cs.length=ks.length∧∀ (j:Nat) k v,ks[j]?=some k→cs[j]?=some v→zAG w k v:=by
 intro n
 induction n with
 | zero=>intro t ks h; simp[zQs] at h
 | succ n ih=>
  intro t ks h fuel cs x ht hw
  simp only[zQs] at h
  split at h
  ·rename_i hu
   cases h
   obtain⟨b,rfl,_⟩:=DataW.trod_bool hu ht
   refine⟨rfl,fun j k v hk hv=>?_⟩
   cases j with
   | zero=>simp at hk hv; subst hk hv; exact⟨_,.b,.bool,rfl⟩
   | succ j=>simp at hk
  ·rename_i kd hu
   cases h
   obtain⟨m,rfl,_,hwf⟩:=DataW.trod_int hu ht
   refine⟨rfl,fun j k v hk hv=>?_⟩
   cases j with
   | zero=>simp at hk hv; subst hk hv; exact⟨_,.i hwf,.int,rfl⟩
   | succ j=>simp at hk
  ·rename_i hu
   cases h
   obtain⟨m,rfl,hx,_⟩:=DataW.trod_string hu ht
   have hsz:m.data.toList.length≤reachBytes:=hw _ (by rw[hx]; simp[DataW.weights])
   refine⟨rfl,fun j k v hk hv=>?_⟩
   cases j with
   | zero=>simp at hk hv; subst hk hv; exact⟨_,.s hsz,.str,rfl⟩
   | succ j=>simp at hk
  ·rename_i e hu
   split at h
   ·rename_i ks' hs
    split at h
    ·rename_i hlb
     obtain⟨hl,hby⟩:=hlb
     cases h
     rcases DataW.trod_slice hu ht with⟨rfl,_⟩ | ⟨a,len,cap,elems,rest,m,_,rfl,hx,_,hlc,hcm,hel,hat,_⟩
     ·refine⟨rfl,fun j k v hk hv=>?_⟩
      cases j with
      | zero=>simp at hk hv; subst hk hv; exact⟨_,.nil,.nils,rfl⟩
      | succ j=>simp at hk
     ·refine⟨rfl,fun j k v hk hv=>?_⟩
      cases j with
      | succ j=>simp at hk
      | zero=>
       simp at hk hv; subst hk hv
       have hwl:(elems.length+rest.length)*P.bytesOf e≤reachBytes:=hw _ (by rw[hx]; simp[DataW.weights,hu])
       have hlb:len≤reachBytes:=by
        have:elems.length+rest.length≤(elems.length+rest.length)*P.bytesOf e:=Nat.le_mul_of_pos_right _ hby
        omega
       have hwe:∀ y∈elems,∀ n∈y.1.weights P e,n≤reachBytes:=fun y hy n hn=>hw n (by
        rw[hx]
        simp only[DataW.weights,hu,List.mem_cons,List.mem_append]
        exact .inr (.inl (zTS (List.mem_map_of_mem hy) n hn)))
       have each:∀ i,i<len→∃ cs:List Value,cs.length=ks'.length∧(∀ j,j<ks'.length→w.cell? (a.add (i*ks'.length+j))=cs[j]?)∧∀ (j:Nat) k v,ks'[j]?=some k→cs[j]?=some v→zAG w k v:=fun i hi=>by
        have h1:=hat i hi
        rw[List.getElem?_eq_getElem (by omega:i<elems.length),Option.bind_eq_some_iff] at h1
        obtain⟨cs,h2,h3⟩:=h1
        obtain⟨g1,g2,g3⟩:=World.cells?_some h2
        obtain⟨f1,f2⟩:=ih hs h3 (hwe _ (List.getElem_mem _))
        refine⟨cs,f1,fun j hj=>?_,f2⟩
        rw[← hl] at g3
        rw[← g3 j hj,zBx]
       have hch:∀ i,∃ e:List IV,i<len→e.length=ks'.length∧∀ j,j<ks'.length→∃ k c u,ks'[j]?=some k∧e[j]?=some c∧w.cell? (a.add (i*ks'.length+j))=some u∧FitK k c∧RepI (zQx w) c u∧u.oneCell'=true:=fun i=>by
        by_cases hi:i<len
        ·obtain⟨cs,g1,g2,g3⟩:=each i hi
         have hjj:∀ j,∃ c:IV,∀ k,ks'[j]?=some k→∃ u,w.cell? (a.add (i*ks'.length+j))=some u∧FitK k c∧RepI (zQx w) c u∧u.oneCell'=true:=fun j=>by
          cases hk:ks'[j]? with
          | none=>exact⟨.undef,fun k hk'=>by cases hk'⟩
          | some k=>
           have hj:j<ks'.length:=(List.getElem?_eq_some_iff.1 hk).1
           have hv:cs[j]?=some (cs[j]'(by omega)):=List.getElem?_eq_getElem (by omega)
           obtain⟨c,q1,q2,q3⟩:=g3 j k _ hk hv
           exact⟨c,fun k' hk'=>by cases hk'; exact⟨_,(g2 j hj).trans hv,q1,q2,q3⟩⟩
         obtain⟨f,hf⟩:=Classical.axiomOfChoice hjj
         refine⟨(List.range ks'.length).map f,fun _=>⟨by simp,fun j hj=>?_⟩⟩
         have hk:ks'[j]?=some ks'[j]:=List.getElem?_eq_getElem hj
         obtain⟨u,q1,q2,q3,q4⟩:=hf j _ hk
         exact⟨_,f j,u,hk,by simp[hj],q1,q2,q3,q4⟩
        ·exact⟨[],fun h=>absurd h hi⟩
       obtain⟨g,hg⟩:=Classical.axiomOfChoice hch
       let es:=(List.range len).map g
       have hes:∀ (i:Nat) e,es[i]?=some e→i<len∧e=g i:=fun i e he=>by
        have hi:i<len:=by have:=(List.getElem?_eq_some_iff.1 he).1; simpa [es] using this
        simp[es,hi] at he
        exact⟨hi,he.symm⟩
       have hlen:es.length=len:=by simp[es]
       have fits:FitK (.sl ks') (.lst false ks'.length es):=by
        refine .sl (by rw[hlen]; exact hlb) (fun e he=>?_) (fun i j e k c he hk hc=>?_)
        ·obtain⟨i,hi⟩:=List.getElem?_of_mem he
         obtain⟨q1,rfl⟩:=hes i e hi
         exact (hg i q1).1
        ·obtain⟨q1,rfl⟩:=hes i e he
         have hj:j<ks'.length:=(List.getElem?_eq_some_iff.1 hk).1
         obtain⟨k',c',u,z1,z2,z3,z4,z5,z6⟩:=(hg i q1).2 j hj
         rw[hk] at z1; cases z1
         rw[hc] at z2; cases z2
         exact z4
       have hcell:∀ (i j:Nat) e c,es[i]?=some e→e[j]?=some c→∃ u,w.cell? (a.add (i*ks'.length+j))=some u∧RepI (zQx w) c u∧u.oneCell'=true:=fun i j e c he hc=>by
        obtain⟨q1,rfl⟩:=hes i e he
        have hj:j<ks'.length:=by rw[← (hg i q1).1]; exact (List.getElem?_eq_some_iff.1 hc).1
        obtain⟨k',c',u,z1,z2,z3,z4,z5,z6⟩:=(hg i q1).2 j hj
        rw[hc] at z2; cases z2
        exact⟨u,z3,z5,z6⟩
       refine⟨_,fits,?_,rfl⟩
       have:=RepI.lst (σ:=zQx w) (full:=false) (sz:=ks'.length) (es:=es) (a:=a) (cap:=cap) (fun i j=>(w.cell? (a.add (i*ks'.length+j))).getD undef) (by omega) (by simp)
        (fun e he=>by
         obtain⟨i,hi⟩:=List.getElem?_of_mem he
         obtain⟨q1,rfl⟩:=hes i e hi
         exact (hg i q1).1) (fun i j e c he hc=>by
         obtain⟨u,z1,z2,z3⟩:=hcell i j e c he hc
         simp only[z1,Option.getD_some]
         exact⟨zQy z1,z3⟩) (fun i j e c he hc=>by
         obtain⟨u,z1,z2,z3⟩:=hcell i j e c he hc
         simp only[z1,Option.getD_some]
         exact z2)
       rw[hlen] at this
       exact this
    ·cases h
   ·cases h
  ·rename_i fs hu
   split at h
   ·rename_i ks' hs
    split at h
    ·rename_i hl
     cases h
     obtain⟨xs,m,_,hx,hcl,hxl,hat⟩:=DataW.trod_struct hu ht
     refine⟨by rw[hcl,hl],?_⟩
     have key:∀ (l:List Field) (off:Nat) (ks:List Kd),zQt P (zQs P n) off l=some ks→(∀ f∈l,∃ y,DataW.trod enc P w base spare held m f.type ((cs.drop f.offset).take (P.cellsOf f.type))=some y∧∀ n∈y.1.weights P f.type,n≤reachBytes)→
       ∀ (j:Nat) k v,ks[j]?=some k→cs[off+j]?=some v→zAG w k v:=by
      intro l
      induction l with
      | nil=>intro off ks h1 _ j k v hk; simp[zQt] at h1; subst h1; simp at hk
      | cons f l ihl=>
       intro off ks h1 h2 j k v hk hv
       simp only[zQt] at h1
       split at h1
       ·rename_i ks1 hf
        split at h1
        ·rename_i hc
         obtain⟨ho,hlen⟩:=hc
         simp only[Option.map_eq_some_iff] at h1
         obtain⟨ks2,h3,rfl⟩:=h1
         rw[List.getElem?_append] at hk
         split at hk
         ·rename_i hj
          obtain⟨y,hy,hyw⟩:=h2 f (List.mem_cons_self ..)
          obtain⟨z1,z2⟩:=ih hf hy hyw
          refine z2 j k v hk ?_
          rw[List.getElem?_take,if_pos (by omega),List.getElem?_drop,ho]
          exact hv
         ·rename_i hj
          refine ihl (off+ks1.length) ks2 h3 (fun f' hf'=>h2 f' (List.mem_cons_of_mem _ hf')) (j - ks1.length) k v hk ?_
          rw[show off+ks1.length+(j - ks1.length)=off+j by omega]; exact hv
        ·cases h1
       ·cases h1
     intro j k v hk hv
     refine key fs.toList 0 ks hs (fun f hf=>?_) j k v hk (by rw[Nat.zero_add]; exact hv)
     obtain⟨i,hi⟩:=List.getElem?_of_mem hf
     have hi':fs[i]?=some f:=by simpa using hi
     have:=hat i f hi'
     have hlt:i<xs.length:=by
      have:=(Array.getElem?_eq_some_iff.1 hi').1
      omega
     rw[List.getElem?_eq_getElem hlt] at this
     refine⟨_,this,fun n hn=>hw n ?_⟩
     rw[hx]
     simp only[DataW.weights,hu]
     refine DataW.weights_mem_each (j:=i) (t:=f.type) (d:=xs[i].1) ?_ ?_ n hn
     ·rw[List.getElem?_map,hi]; rfl
     ·rw[List.getElem?_map,List.getElem?_eq_getElem hlt]; rfl
    ·cases h
   ·cases h
  ·rename_i m e hu
   split at h
   ·rename_i ks' hs
    split at h
    ·rename_i hl
     cases h
     obtain⟨xs,q,_,hx,hcl,hxs,hat⟩:=DataW.trod_array hu ht
     refine⟨by rw[hcl,← hl.2]; simp,fun j k v hk hv=>?_⟩
     have hpos:0<ks'.length:=by
      cases ks' with
      | nil=>simp at hk
      | cons=>simp
     have hjm:j<m*ks'.length:=by
      have:=(List.getElem?_eq_some_iff.1 hk).1
      simpa using this
     rw[zHl m j hjm] at hk
     have hi:j / ks'.length<m:=Nat.div_lt_of_lt_mul (by rw[Nat.mul_comm]; exact hjm)
     have:=hat (j / ks'.length) hi
     rw[List.getElem?_eq_getElem (by omega)] at this
     obtain⟨z1,z2⟩:=ih hs this (fun n hn=>hw n (by
      rw[hx]
      simp only[DataW.weights,hu]
      exact zTS (List.mem_map_of_mem (List.getElem_mem _)) n hn))
     refine z2 (j % ks'.length) k v hk ?_
     rw[List.getElem?_take,if_pos (by rw[← hl.1]; exact Nat.mod_lt _ hpos),List.getElem?_drop,← hl.1]
     have:j / ks'.length*ks'.length+j % ks'.length=j:=by rw[Nat.mul_comm]; exact Nat.div_add_mod _ _
     rw[this]; exact hv
    ·cases h
   ·cases h
  ·cases h
end
end Go.PM
