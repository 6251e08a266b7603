/-
  Frozen values.
  Calls: what a call of D leaves in the model.
  One operation of a region, in any order.
-/
import Derived.Test.YtlknjgmhfimhbaaGreatDoorSimL
import Derived.Test.YtlknjgmhfimhbaaGreatDoorLoc
import Derived.Test.YtlknjgmhfimhbaaGreatDoorDFr
section
set_option linter.unusedVariables false
set_option linter.unusedSimpArgs false
namespace Go.PM
section
variable {φ φ0:Phi}{σ σ2:Sig}{h:Nat→Option HB}{w:World}{lo:Nat}
theorem zLs {α β:Type}{f:α→Option β}:∀ {xs:List α}{ys:List β},mapO f xs=some ys→ys.length=xs.length∧∀ (i:Nat) y,ys[i]?=some y→∃ x,xs[i]?=some x∧f x=some y
 | [],ys,hm=>by simp[mapO] at hm; subst hm; exact⟨rfl,by simp⟩
 | x::xs,ys,hm=>by
  simp only[mapO] at hm
  split at hm
  ·rename_i y ys' h1 h2
   cases hm
   obtain⟨q1,q2⟩:=zLs h2
   refine⟨by simp[q1],fun i z hz=>?_⟩
   cases i with
   | zero=>simp at hz; subst hz; exact⟨x,rfl,h1⟩
   | succ i=>simp at hz ⊢; exact q2 i z hz
  ·cases hm
theorem zIA (hheap:∀ id hb,h id=some hb→∃ bi,φ id=some bi∧BlockAt φ σ hb bi w)
  (hblk:∀ id hb bi,lo≤id→h id=some hb→φ id=some bi→∀ o,w.heap[bi.blk]?=some o→σ2 bi.blk=some o) (hmono:∀ b o,σ b=some o→σ2 b=some o) :
  ∀ (d:Nat){v:DV}{iv:IV}{rv:Value},frzI h lo d v=some iv→RepD φ σ v rv→RepI σ2 iv rv:=by
 intro d
 induction d with
 | zero=>
  intro v iv rv hf hv
  cases hv with
  | imm hi=>simp[frzI] at hf; subst hf; exact hi.mono hmono
  | _=>simp[frzI] at hf
 | succ d ih=>
  intro v iv rv hf hv
  cases hv with
  | imm hi=>simp[frzI] at hf; subst hf; exact hi.mono hmono
  | sl hbi h1 h2 h3=>
   rename_i id row len cap rcap bi
   simp only[frzI] at hf
   split at hf
   ·rename_i hlo
    split at hf
    ·rename_i hb hhb
     split at hf
     ·rename_i hle
      simp only[Option.map_eq_some_iff] at hf
      obtain⟨es,g1,rfl⟩:=hf
      obtain⟨bi',g2,g3⟩:=hheap id hb hhb
      rw[hbi] at g2; cases g2
      obtain⟨c,T,fr,c1,c2,c3,c4,c5⟩:=g3.cells
      have hσ:=hblk id hb bi hlo hhb hbi _ c1.1
      obtain⟨m1,m2⟩:=zLs g1
      have hlen:es.length=len:=by rw[m1]; simp; omega
      have key:∀ (i j:Nat) e x,es[i]?=some e→e[j]?=some x→e.length=hb.sz∧∃ rv,c[(row+i)*hb.sz+j]?=some rv∧rv.oneCell'=true∧RepI σ2 x rv:=fun i j e x he hx=>by
       obtain⟨r,r1,r2⟩:=m2 i e he
       obtain⟨p1,p2⟩:=zLs r2
       obtain⟨y,y1,y2⟩:=p2 j x hx
       have hr:hb.rows[row+i]?=some r:=by
        have hi:i<len:=by rw[← hlen]; exact (List.getElem?_eq_some_iff.1 he).1
        rw[List.getElem?_take,if_pos hi,List.getElem?_drop] at r1
        exact r1
       obtain⟨rv,z1,z2,z3⟩:=c5 (row+i) r hr j y y1
       exact⟨by rw[p1]; exact c4 r (List.mem_of_getElem? hr),rv,z1,z2,ih y2 z3⟩
      have hwid:∀ e∈es,e.length=hb.sz:=fun e he=>by
       obtain⟨i,hi,rfl⟩:=List.getElem_of_mem he
       obtain⟨r,r1,r2⟩:=m2 i es[i] (List.getElem?_eq_getElem hi)
       obtain⟨p1,p2⟩:=zLs r2
       rw[p1]
       have hi':i<len:=by rw[← hlen]; exact hi
       rw[List.getElem?_take,if_pos hi',List.getElem?_drop] at r1
       exact c4 r (List.mem_of_getElem? r1)
      have hcell:∀ k,σ2.cell (Addr.add ⟨bi.blk,row*bi.sz,none⟩ k)=c[row*bi.sz+k]?:=fun k=>by
       rw[zBz]; simp[Sig.cell,hσ]
      have:=RepI.lst (σ:=σ2) (full:=false) (sz:=hb.sz) (es:=es) (a:=⟨bi.blk,row*bi.sz,none⟩) (cap:=rcap) (fun i j=>c.getD ((row+i)*hb.sz+j) undef)
       (by omega) (by simp) hwid (fun i j e x he hx=>by
        obtain⟨_,rv,z1,z2,z3⟩:=key i j e x he hx
        have:row*bi.sz+(i*hb.sz+j)=(row+i)*hb.sz+j:=by rw[g3.sz,Nat.add_mul]; omega
        rw[hcell,this]
        simp only[Array.getD_eq_getD_getElem?,z1,Option.getD_some]
        exact⟨trivial,z2⟩) (fun i j e x he hx=>by
        obtain⟨_,rv,z1,z2,z3⟩:=key i j e x he hx
        simp only[Array.getD_eq_getD_getElem?,z1,Option.getD_some]
        exact z3)
      rw[hlen] at this
      exact this
     ·cases hf
    ·cases hf
   ·cases hf
  | _=>simp[frzI] at hf
theorem zIK:∀ {cs cs':List DV},frz.frzs h lo cs=some cs'→cs'.length=cs.length∧∀ (i:Nat) c',cs'[i]?=some c'→∃ c,cs[i]?=some c∧frz h lo c=some c'
 | [],cs',hm=>by simp[frz.frzs] at hm; subst hm; exact⟨rfl,by simp⟩
 | x::xs,ys,hm=>by
  simp only[frz.frzs] at hm
  split at hm
  ·rename_i y ys' h1 h2
   cases hm
   obtain⟨q1,q2⟩:=zIK h2
   refine⟨by simp[q1],fun i z hz=>?_⟩
   cases i with
   | zero=>simp at hz; subst hz; exact⟨x,rfl,h1⟩
   | succ i=>simp at hz ⊢; exact q2 i z hz
  ·cases hm
theorem zRM:∀ {cs cs':List DV},snap.snaps h cs=some cs'→cs'.length=cs.length∧∀ (i:Nat) c',cs'[i]?=some c'→∃ c,cs[i]?=some c∧snap h c=some c'
 | [],cs',hm=>by simp[snap.snaps] at hm; subst hm; exact⟨rfl,by simp⟩
 | x::xs,ys,hm=>by
  simp only[snap.snaps] at hm
  split at hm
  ·rename_i y ys' h1 h2
   cases hm
   obtain⟨q1,q2⟩:=zRM h2
   refine⟨by simp[q1],fun i z hz=>?_⟩
   cases i with
   | zero=>simp at hz; subst hz; exact⟨x,rfl,h1⟩
   | succ i=>simp at hz ⊢; exact q2 i z hz
  ·cases hm
variable {rv:Value} {v:DV}
theorem zID (hheap:∀ id hb,h id=some hb→∃ bi,φ id=some bi∧BlockAt φ σ hb bi w)
  (hblk:∀ id hb bi,lo≤id→h id=some hb→φ id=some bi→∀ o,w.heap[bi.blk]?=some o→σ2 bi.blk=some o) (hmono:∀ b o,σ b=some o→σ2 b=some o)
  (hφ:∀ id bi,id<lo→φ id=some bi→φ0 id=some bi)(hv:RepD φ σ v rv):∀ {v':DV},frz h lo v=some v'→RepD φ0 σ2 v' rv:=by
 induction hv with
 | imm hi=>intro v' hf; simp[frz] at hf; subst hf; exact .imm (hi.mono hmono)
 | ptr hb=>
  intro v' hf
  simp only[frz] at hf
  split at hf
  ·rename_i hl; cases hf; exact .ptr (hφ _ _ hl hb)
  ·cases hf
 | sl hb h1 h2 h3=>
  intro v' hf
  simp only[frz] at hf
  split at hf
  ·rename_i hl; cases hf; exact .sl (hφ _ _ hl hb) h1 h2 h3
  ·simp only[Option.map_eq_some_iff] at hf
   obtain⟨iv,g1,rfl⟩:=hf
   exact .imm (zIA hheap hblk hmono _ g1 (.sl hb h1 h2 h3))
 | agg hl hr ih=>
  intro v' hf
  simp only[frz,Option.map_eq_some_iff] at hf
  obtain⟨cs',g1,rfl⟩:=hf
  obtain⟨q1,q2⟩:=zIK g1
  exact .agg (q1.trans hl) (fun i c v hc hv=>by
   obtain⟨c0,p1,p2⟩:=q2 i c hc
   exact ih i c0 v p1 hv p2)
 | tup hl hr ih=>
  intro v' hf
  simp only[frz,Option.map_eq_some_iff] at hf
  obtain⟨cs',g1,rfl⟩:=hf
  obtain⟨q1,q2⟩:=zIK g1
  exact .tup (q1.trans hl) (fun i c v hc hv=>by
   obtain⟨c0,p1,p2⟩:=q2 i c hc
   exact ih i c0 v p1 hv p2)
 | fnc=>intro v' hf; simp[frz] at hf
 | lref=>intro v' hf; simp[frz] at hf
theorem zRK (hheap:∀ id hb,h id=some hb→∃ bi,φ id=some bi∧BlockAt φ σ hb bi w)
  (hblk:∀ id hb bi,h id=some hb→φ id=some bi→∀ o,w.heap[bi.blk]?=some o→σ2 bi.blk=some o) (hmono:∀ b o,σ b=some o→σ2 b=some o)
 (hv:RepD φ σ v rv):∀ {v':DV},snap h v=some v'→RepD φ0 σ2 v' rv:=by
 induction hv with
 | imm hi=>intro v' hf; simp[snap] at hf; subst hf; exact .imm (hi.mono hmono)
 | ptr hb=>intro v' hf; simp[snap] at hf
 | sl hb h1 h2 h3=>
  intro v' hf
  simp only[snap,Option.map_eq_some_iff] at hf
  obtain⟨iv,g1,rfl⟩:=hf
  exact .imm (zIA hheap (fun id hb bi _=>hblk id hb bi) hmono _ g1 (.sl hb h1 h2 h3))
 | agg hl hr ih=>
  intro v' hf
  simp only[snap,Option.map_eq_some_iff] at hf
  obtain⟨cs',g1,rfl⟩:=hf
  obtain⟨q1,q2⟩:=zRM g1
  exact .agg (q1.trans hl) (fun i c v hc hv=>by
   obtain⟨c0,p1,p2⟩:=q2 i c hc
   exact ih i c0 v p1 hv p2)
 | tup hl hr ih=>intro v' hf; simp[snap] at hf
 | fnc hl hr ih=>
  intro v' hf
  rename_i f cs vs
  cases cs with
  | nil=>
   simp[snap] at hf; subst hf
   exact .fnc hl (fun i c v hc=>by simp at hc)
  | cons c cs=>simp[snap] at hf
 | lref=>intro v' hf; simp[snap] at hf
theorem zHo:∀ {cs:List DV},DV.flat.flats cs=true→∀ (i:Nat) c,cs[i]?=some c→c.flat=true
 | [],_,i,c,hc=>by simp at hc
 | x::xs,hf,i,c,hc=>by
  simp only[DV.flat.flats,Bool.and_eq_true] at hf
  cases i with
  | zero=>simp at hc; subst hc; exact hf.1
  | succ i=>simp at hc; exact zHo hf.2 i c hc
theorem zOK:∀ {cs:List DV},DV.pure.pures cs=true→∀ (i:Nat) c,cs[i]?=some c→c.pure=true
 | [],_,i,c,hc=>by simp at hc
 | x::xs,hf,i,c,hc=>by
  simp only[DV.pure.pures,Bool.and_eq_true] at hf
  cases i with
  | zero=>simp at hc; subst hc; exact hf.1
  | succ i=>simp at hc; exact zOK hf.2 i c hc
theorem zHn(hv:RepD φ σ v rv):v.flat=true→RepD φ0 σ2 v rv:=by
 induction hv with
 | imm hi=>intro hf; cases hi <;> first | exact .imm .bool | exact .imm .int | exact .imm .str | exact .imm .undef | (simp[DV.flat] at hf)
 | agg hl hr ih=>intro hf; exact .agg hl (fun i c v hc hv=>ih i c v hc hv (zHo hf i c hc))
 | tup hl hr ih=>intro hf; exact .tup hl (fun i c v hc hv=>ih i c v hc hv (zHo hf i c hc))
 | _=>intro hf; simp[DV.flat] at hf
theorem zSN:∀ {cs:List DV},DV.tame.tames cs=true→∀ (i:Nat) c,cs[i]?=some c→c.tame=true
 | [],_,i,c,hc=>by simp at hc
 | x::xs,hf,i,c,hc=>by
  simp only[DV.tame.tames,Bool.and_eq_true] at hf
  cases i with
  | zero=>simp at hc; subst hc; exact hf.1
  | succ i=>simp at hc; exact zSN hf.2 i c hc
theorem zSL {v:IV}(hv:RepI σ v rv):v.tame=true→RepI σ2 v rv:=by
 induction hv with
 | bool=>exact fun _=>.bool
 | int=>exact fun _=>.int
 | str=>exact fun _=>.str
 | nilp=>exact fun _=>.nilp
 | nils=>exact fun _=>.nils
 | nilf=>exact fun _=>.nilf
 | nili=>exact fun _=>.nili
 | undef=>exact fun _=>.undef
 | iface _ ih=>exact fun h=>.iface (ih h)
 | _=>intro h; simp[IV.tame] at h
theorem zSM (hp:∀ id bi,φ id=some bi→φ0 id=some bi)(hv:RepD φ σ v rv):v.tame=true→RepD φ0 σ2 v rv:=by
 induction hv with
 | imm hi=>exact fun h=>.imm (zSL hi h)
 | ptr hb=>exact fun _=>.ptr (hp _ _ hb)
 | sl hb h1 h2 h3=>exact fun _=>.sl (hp _ _ hb) h1 h2 h3
 | agg hl hr ih=>exact fun hf=>.agg hl (fun i c v hc hv=>ih i c v hc hv (zSN hf i c hc))
 | tup hl hr ih=>exact fun hf=>.tup hl (fun i c v hc hv=>ih i c v hc hv (zSN hf i c hc))
 | _=>intro hf; simp[DV.tame] at hf
theorem zOI(hv:RepD φ σ v rv):v.pure=true→RepD φ0 σ v rv:=by
 induction hv with
 | imm hi=>intro hf; exact .imm hi
 | agg hl hr ih=>intro hf; exact .agg hl (fun i c v hc hv=>ih i c v hc hv (zOK hf i c hc))
 | fnc hl hr ih=>
  intro hf
  rename_i f cs vs
  cases cs with
  | nil=>exact .fnc hl (fun i c v hc=>by simp at hc)
  | cons c cs=>simp[DV.pure] at hf
 | _=>intro hf; simp[DV.pure] at hf
end
end Go.PM
end
section
set_option linter.unusedVariables false
set_option linter.unusedSimpArgs false
namespace Go.PM
def noT:Nat→Option DV:=fun _=>none
def noL:Nat→Option LV:=fun _=>none
def noH:Nat→Option HB:=fun _=>none
def zAF (lo:Nat) (Tch:Nat→Prop) (φ:Phi) (σ:Sig) (T:Nat→Option DV) (L:Nat→Option LV) (h':Nat→Option HB) (tmps:Array Value) (w:World) (n n':Nat) (v:DV):Ending→World→Prop
 | .returned rv,w'=>∃ φ' σ',Rel lo Tch φ' σ' T L h' tmps w'∧Grow φ φ' σ σ' n n' w∧Fr Tch w w'∧RepD φ' σ' v rv
 | _,_=>False
structure KOk (P:Program) (G:Nat→Option (List IV)) (K:Callee):Prop where
 snd:∀ f args H n lo v H' n',K f args H n lo=some (v,H',n')→lo≤n→(∀ id,H.get id≠none→id<n)→
  ∀ Tch φ σ w rargs,GRel σ G→(∀ b,w.heap.size≤b→Tch b)→Rel lo Tch φ σ noT noL H.get #[] w→RepDs φ σ args rargs→zAh φ n n'→
   Calls P f rargs w (zAF lo Tch φ σ noT noL H'.get #[] w n n' v)
 mon:∀ f args H n lo v H' n',K f args H n lo=some (v,H',n')→Mon n n' H.get H'.get
 fun_ : ∀ f args H n lo r, K f args H n lo = some r → ∃ fn, P.funcs[f]? = some fn ∧ fn.body.isSome = true ∧ fn.name ≠ "runtime.NumGoroutine"
section
variable {P:Program}{lo:Nat}{Tch:Nat→Prop}{φ:Phi}{σ:Sig}{G:Nat→Option (List IV)}{T:Nat→Option DV}{L:Nat→Option LV}{h:Nat→Option HB}{tmps:Array Value}{w:World}{n:Nat}
 {K:Callee}
theorem Rel.enter (hR:Rel lo Tch φ σ T L h tmps w){lo':Nat}{Tch':Nat→Prop}{tmps':Array Value}(ht:∀ id hb bi,lo'≤id→h id=some hb→φ id=some bi→Tch' bi.blk) :
  Rel lo' Tch' φ σ noT noL h tmps' w:=by
 refine⟨hR.sig,fun i j bi bj li lj=>hR.inj i j bi bj ?_ ?_,hR.rng,fun id hb hid=>?_,fun k v hk=>by simp[noL] at hk,fun k k' v v' hk=>by simp[noL] at hk,fun k v hk=>by simp[noT] at hk⟩
 ·rcases li with h1 | ⟨k,v,h1,_⟩
  ·exact .inl h1
  ·simp[noL] at h1
 ·rcases lj with h1 | ⟨k,v,h1,_⟩
  ·exact .inl h1
  ·simp[noL] at h1
 ·obtain⟨bi,h1,h2,_⟩:=hR.heap id hb hid
  exact⟨bi,h1,h2,fun hl=>ht id hb bi hl hid h1⟩
theorem Rel.bare (hR:Rel lo Tch φ σ T L h tmps w){lo':Nat}{Tch':Nat→Prop}{tmps':Array Value}{σ2:Sig}(hs:∀ b o,σ2 b=some o→w.heap[b]?=some o) :
  Rel lo' Tch' (fun _=>none) σ2 noT noL noH tmps' w:=by
 refine⟨hs,fun i j bi bj li lj hi=>by simp at hi,fun i bi hi=>by simp at hi,fun id hb hid=>by simp[noH] at hid,fun k v hk=>by simp[noL] at hk,fun k k' v v' hk=>by simp[noL] at hk,fun k v hk=>by simp[noT] at hk⟩
variable {n':Nat}
theorem Rel.noneL (hR:Rel lo Tch φ σ T L h tmps w)(hF:zAh φ n n'){k:Nat}{v:LV}(hk:L k=some v):v.id<n∨n'≤v.id:=by
 obtain⟨_,bi,h1,_⟩:=hR.locs _ _ hk
 by_cases h2:v.id<n
 ·exact .inl h2
 ·by_cases h3:n'≤v.id
  ·exact .inr h3
  ·have:=hF v.id (by omega) (by omega)
   rw[h1] at this; cases this
def zBi (lo:Nat) (φ:Phi) (h:Nat→Option HB) (w:World) (b:Nat):Prop:=w.heap.size≤b∨∃ id hb bi,lo≤id∧h id=some hb∧φ id=some bi∧bi.blk=b
theorem Rel.leave (hR:Rel lo Tch φ σ T L h tmps w) (hlo:lo≤n){φ':Phi}{σ':Sig}{h':Nat→Option HB}{w':World}(hT:∀ b,w.heap.size≤b→Tch b)
  (hR':Rel lo (zBi lo φ h w) φ' σ' noT noL h' #[] w') (hg:Grow φ φ' σ σ' n n' w) (hf:Fr (zBi lo φ h w) w w') (hm:Mon n n' h h') (hF:zAh φ n n') :
  Rel lo Tch φ' σ' T L h' tmps w'∧Fr Tch w w':=by
 have toT:∀ b,zBi lo φ h w b→Tch b:=fun b hb=>by
  rcases hb with hb | ⟨id,hb,bi,h1,h2,h3,rfl⟩
  ·exact hT _ hb
  ·obtain⟨bi',q1,_,q3⟩:=hR.heap id hb h2
   rw[h3] at q1; cases q1
   exact q3 h1
 have old:∀ {id:Nat}{bi:BI},Liv L h id→φ' id=some bi→φ id=some bi:=fun {id bi} hl hb=>by
  obtain⟨bi',q⟩:=hR.liv hl
  have:=hg.ext _ _ q
  rw[hb] at this; cases this; exact q
 have apart:∀ {k:Nat}{v:LV}{bi:BI},L k=some v→φ v.id=some bi→¬zBi lo φ h w bi.blk:=fun {k v bi} hk hb ht=>by
  obtain⟨h0,bi',q1,q2,q3⟩:=hR.locs k v hk
  rw[hb] at q1; cases q1
  have:=hR.rng _ _ hb
  rcases ht with ht | ⟨id,hb',bj,h1,h2,h3,h4⟩
  ·omega
  ·have:=hR.inj id v.id bj bi (.inl ⟨hb',h2⟩) (.inr ⟨k,v,hk,rfl⟩) h3 hb h4
   rw[this,h0] at h2; cases h2
 have cross:∀ {k:Nat}{v:LV}{bi bj:BI}{j:Nat}{hb:HB},L k=some v→φ' v.id=some bi→h' j=some hb→φ' j=some bj→bi.blk=bj.blk→False:=fun {k v bi bj j hb} hk hi hj hbj he=>by
  have hi0:=old (.inr ⟨k,v,hk,rfl⟩) hi
  obtain⟨h0,_⟩:=hR.locs k v hk
  by_cases hjo:h j=none
  ·have hjn:n≤j:=by
    by_cases hlt:j<n
    ·have:=hm.fr j hjo (.inl hlt); rw[hj] at this; cases this
    ·omega
   obtain⟨bj',q1,_,q3⟩:=hR'.heap j hb hj
   rw[hbj] at q1; cases q1
   exact apart hk hi0 (he▸q3 (by omega))
  ·cases hh:h j with
   | none=>exact hjo hh
   | some hb0=>
    have lj:Liv L h j:=.inl ⟨hb0,hh⟩
    have:=hR.inj v.id j bi bj (.inr ⟨k,v,hk,rfl⟩) lj hi0 (old lj hbj) he
    rw[this,hh] at h0; cases h0
 refine⟨⟨hR'.sig,?_,hR'.rng,fun id hb hid=>?_,fun k v hk=>?_,hR.apart,fun k v hk=>?_⟩,hf.weaken (fun b _ hb=>toT b hb)⟩
 ·intro i j bi bj li lj hi hj he
  rcases li with⟨hb,li⟩ | ⟨k,v,li,rfl⟩ <;> rcases lj with⟨hb',lj⟩ | ⟨k',v',lj,rfl⟩
  ·exact hR'.inj i j bi bj (.inl ⟨hb,li⟩) (.inl ⟨hb',lj⟩) hi hj he
  ·exact (cross lj hj li hi he.symm).elim
  ·exact (cross li hi lj hj he).elim
  ·exact hR.inj _ _ bi bj (.inr ⟨k,v,li,rfl⟩) (.inr ⟨k',v',lj,rfl⟩) (old (.inr ⟨k,v,li,rfl⟩) hi) (old (.inr ⟨k',v',lj,rfl⟩) hj) he
 ·obtain⟨bi,h1,h2,h3⟩:=hR'.heap id hb hid
  exact⟨bi,h1,h2,fun hl=>toT _ (h3 hl)⟩
 ·obtain⟨h0,bi,h1,h2,h3⟩:=hR.locs k v hk
  have hlt:=hR.rng _ _ h1
  have hnt:=apart hk h1
  refine⟨hm.fr v.id h0 (hR.noneL hF hk),bi,hg.ext _ _ h1,h2.mono hg.ext hg.sg ?_ (hf.same _ hlt hnt),h3⟩
  cases he:σ' bi.blk with
  | none=>rfl
  | some o=>
   rcases hg.sgn _ _ he with q | q
   ·rw[h2.free] at q; cases q
   ·omega
 ·obtain⟨rv,h1,h2⟩:=hR.tmp k v hk
  exact⟨rv,h1,h2.mono hg.ext hg.sg⟩
variable {H:PT HB} {args:List DV} {f:FuncId} {rargs:Array Value} {v:DV}
theorem zG1 (hK:KOk P G K) (hR:Rel lo Tch φ σ T L h tmps w)(hH:h=H.get) (hlo:lo≤n) (hlv:∀ id,h id≠none→id<n) (hG:GRel σ G) (hT:∀ b,w.heap.size≤b→Tch b)
 (ha:RepDs φ σ args rargs){H':PT HB}(he:K f args H n lo=some (v,H',n')) (hF:zAh φ n n') :
  Calls P f rargs w (zAF lo Tch φ σ T L H'.get tmps w n n' v):=by
 subst hH
 refine (hK.snd f args H n lo v H' n' he hlo hlv (zBi lo φ H.get w) φ σ w rargs hG (fun b hb=>.inl hb)
  (hR.enter (fun id hb bi h1 h2 h3=>.inr ⟨id,hb,bi,h1,h2,h3,rfl⟩)) ha hF).mono fun e w' hp=>?_
 cases e with
 | returned rv=>
  obtain⟨φ',σ',q1,q2,q3,q4⟩:=hp
  obtain⟨z1,z2⟩:=hR.leave hlo hT q1 q2 q3 (hK.mon _ _ _ _ _ _ _ _ he) hF
  exact⟨φ',σ',z1,q2,z2,q4⟩
 | panicked _=>exact hp.elim
 | outgrown=>exact hp.elim
def sigAll (σ:Sig) (w w':World):Sig:=fun b=>if b<w.heap.size then σ b else w'.heap[b]?
theorem Rel.sigAll (hR:Rel lo Tch φ σ T L h tmps w){w':World}(hf:Fr (fun b=>w.heap.size≤b) w w') :
  Rel lo Tch φ (sigAll σ w w') T L h tmps w'∧Grow φ φ σ (Go.PM.sigAll σ w w') n n w∧Fr Tch w w':=by
 have hsame:∀ b,b<w.heap.size→w'.heap[b]?=w.heap[b]?:=fun b hb=>hf.same b hb (by omega)
 have hg:Grow φ φ σ (Go.PM.sigAll σ w w') n n w:=by
  refine⟨fun _ _ h=>h,fun _ _ h h'=>(by rw[h] at h'; cases h'),fun b o hb=>?_,fun b o hb=>?_⟩
  ·have:=(Array.getElem?_eq_some_iff.1 (hR.sig _ _ hb)).1
   simp[Go.PM.sigAll,this,hb]
  ·unfold Go.PM.sigAll at hb
   split at hb
   ·exact .inl hb
   ·right; omega
 refine⟨hR.same hg hsame hf.size (fun b o hb=>?_) (fun i bi hi=>Nat.lt_of_lt_of_le (hR.rng i bi hi) hf.size),hg,hf.weaken (fun b hb hn=>by omega)⟩
 unfold Go.PM.sigAll at hb
 split at hb
 ·rename_i hlt; rw[hsame b hlt]; exact hR.sig _ _ hb
 ·exact hb
variable {H1:PT HB}
theorem zO6 (hK:KOk P G K) (hR:Rel lo Tch φ σ T L h tmps w)(hH:h=H.get) (hlv:∀ id,h id≠none→id<n) (hG:GRel σ G)
 (ha:RepDs φ σ args rargs) {v':DV}(he:K f args H n n=some (v,H1,n')) (hv:frz H1.get n v=some v') (hF:zAh φ n n') :
  Calls P f rargs w (zAF lo Tch φ σ T L h tmps w n n' v'):=by
 subst hH
 refine (hK.snd f args H n n v H1 n' he (Nat.le_refl _) hlv (fun b=>w.heap.size≤b) φ σ w rargs hG (fun b hb=>hb)
  (hR.enter (fun id hb bi h1 h2 h3=>by
   have:=hlv id (by rw[h2]; simp)
   omega)) ha hF).mono fun e w' hp=>?_
 cases e with
 | returned rv=>
  obtain⟨φ1,σ1,q1,q2,q3,q4⟩:=hp
  obtain⟨z1,z2,z3⟩:=hR.sigAll (n:=n) q3
  refine⟨φ,sigAll σ w w',z1,z2.wide (Nat.le_refl _) (hK.mon _ _ _ _ _ _ _ _ he).le,z3,?_⟩
  refine zID (w:=w') (fun id hb hid=>?_) (fun id hb bi hl hid hbi o ho=>?_) (fun b o hb=>?_) (fun id bi hl hbi=>?_) q4 hv
  ·obtain⟨bi,g1,g2,_⟩:=q1.heap id hb hid; exact⟨bi,g1,g2⟩
  ·obtain⟨bi',g1,g2,g3⟩:=q1.heap id hb hid
   rw[hbi] at g1; cases g1
   have:w.heap.size≤bi.blk:=g3 hl
   unfold sigAll
   rw[if_neg (by omega)]; exact ho
  ·unfold sigAll
   split
   ·rcases q2.sgn b o hb with g | g
    ·exact g
    ·omega
   ·exact q1.sig _ _ hb
  ·cases hh:φ id with
   | none=>have:=q2.new id bi hh hbi; omega
   | some bj=>have:=q2.ext _ _ hh; rw[hbi] at this; exact this.symm
 | panicked _=>exact hp.elim
 | outgrown=>exact hp.elim
theorem zKI (id:Nat):(PT.lf:PT HB).get id=none:=rfl
theorem zDg (hK:KOk P G K) (hR:Rel lo Tch φ σ T L h tmps w) (hG:GRel σ G)
 (ha:RepDs φ σ args rargs) (hp:DV.pure.pures args=true) {v':DV}(he:K f args .lf 0 0=some (v,H1,n')) (hv:frz H1.get 0 v=some v') :
  Calls P f rargs w (zAF lo Tch φ σ T L h tmps w n n v'):=by
 refine (hK.snd f args .lf 0 0 v H1 n' he (Nat.le_refl _) (fun id hid=>absurd (zKI id) hid) (fun b=>w.heap.size≤b) (fun _=>none) σ w rargs hG (fun b hb=>hb)
  (hR.bare hR.sig) ⟨ha.1,fun i c u h1 h2=>zOI (ha.2 i c u h1 h2) (zOK hp i c h1)⟩ (fun _ _ _=>rfl)).mono fun e w' hp=>?_
 cases e with
 | returned rv=>
  obtain⟨φ1,σ1,q1,q2,q3,q4⟩:=hp
  obtain⟨z1,z2,z3⟩:=hR.sigAll (n:=n) q3
  refine⟨φ,sigAll σ w w',z1,z2,z3,?_⟩
  refine zID (w:=w') (fun id hb hid=>?_) (fun id hb bi hl hid hbi o ho=>?_) (fun b o hb=>?_) (fun id bi hl hbi=>by omega) q4 hv
  ·obtain⟨bi,g1,g2,_⟩:=q1.heap id hb hid; exact⟨bi,g1,g2⟩
  ·obtain⟨bi',g1,g2,g3⟩:=q1.heap id hb hid
   rw[hbi] at g1; cases g1
   have:w.heap.size≤bi.blk:=g3 hl
   unfold sigAll
   rw[if_neg (by omega)]; exact ho
  ·unfold sigAll
   split
   ·rcases q2.sgn b o hb with g | g
    ·exact g
    ·omega
   ·exact q1.sig _ _ hb
 | panicked _=>exact hp.elim
 | outgrown=>exact hp.elim
open Classical in
noncomputable def zQw (φ:Phi) (σ:Sig) (h:Nat→Option HB) (w:World):Sig:=fun b=>if ∃ id hb bi,h id=some hb∧φ id=some bi∧bi.blk=b then w.heap[b]? else σ b
theorem zRI (hK:KOk P G K) (hR:Rel lo Tch φ σ T L h tmps w) (hG:GRel σ G)
  {args':List DV}(ha:RepDs φ σ args rargs) (hs:snap.snaps h args=some args')(he:K f args' .lf 0 0=some (v,H1,n')) (hv:v.flat=true) :
  Calls P f rargs w (zAF lo Tch φ σ T L h tmps w n n v):=by
 have hmono:∀ b o,σ b=some o→zQw φ σ h w b=some o:=fun b o hb=>by
  unfold zQw
  split
  ·exact hR.sig _ _ hb
  ·exact hb
 obtain⟨s1,s2⟩:=zRM hs
 refine (hK.snd f args' .lf 0 0 v H1 n' he (Nat.le_refl _) (fun id hid=>absurd (zKI id) hid) (fun b=>w.heap.size≤b) (fun _=>none) (zQw φ σ h w) w rargs (hG.mono hmono) (fun b hb=>hb)
  (hR.bare (fun b o hb=>by
   unfold zQw at hb
   split at hb
   ·exact hb
   ·exact hR.sig _ _ hb)) ⟨s1.trans ha.1,fun i c u h1 h2=>by
    obtain⟨c0,g1,g2⟩:=s2 i c h1
    refine zRK (w:=w) (fun id hb hid=>?_) (fun id hb bi hid hbi o ho=>?_) hmono (ha.2 i c0 u g1 h2) g2
    ·obtain⟨bi,p1,p2,_⟩:=hR.heap id hb hid; exact⟨bi,p1,p2⟩
    ·unfold zQw
     rw[if_pos ⟨id,hb,bi,hid,hbi,rfl⟩]; exact ho⟩ (fun _ _ _=>rfl)).mono fun e w' hp=>?_
 cases e with
 | returned rv=>
  obtain⟨φ1,σ1,q1,q2,q3,q4⟩:=hp
  obtain⟨z1,z2,z3⟩:=hR.sigAll (n:=n) q3
  exact⟨φ,sigAll σ w w',z1,z2,z3,zHn q4 hv⟩
 | panicked _=>exact hp.elim
 | outgrown=>exact hp.elim
theorem zMO (hK:KOk P G K) (hR:Rel lo Tch φ σ T L h tmps w)(hH:h=H.get) (hlv:∀ id,h id≠none→id<n) (hG:GRel σ G) (hT:∀ b,w.heap.size≤b→Tch b)
  {args':List DV}(ha:RepDs φ σ args rargs) (hs:snap.snaps h args=some args')(he:K f args' .lf n n=some (v,H1,n')) (hv:v.tame=true) (hF:zAh φ n n') :
  Calls P f rargs w (zAF lo Tch φ σ T L (kept H H1 n (n' - n)).get tmps w n n' v):=by
 subst hH
 have hmono:∀ b o,σ b=some o→zQw φ σ H.get w b=some o:=fun b o hb=>by
  unfold zQw
  split
  ·exact hR.sig _ _ hb
  ·exact hb
 obtain⟨s1,s2⟩:=zRM hs
 have hm:=hK.mon _ _ _ _ _ _ _ _ he
 refine (hK.snd f args' .lf n n v H1 n' he (Nat.le_refl _) (fun id hid=>absurd (zKI id) hid) (fun b=>w.heap.size≤b) (fun _=>none) (zQw φ σ H.get w) w rargs (hG.mono hmono) (fun b hb=>hb)
  (hR.bare (fun b o hb=>by
   unfold zQw at hb
   split at hb
   ·exact hb
   ·exact hR.sig _ _ hb)) ⟨s1.trans ha.1,fun i c u h1 h2=>by
    obtain⟨c0,g1,g2⟩:=s2 i c h1
    refine zRK (w:=w) (fun id hb hid=>?_) (fun id hb bi hid hbi o ho=>?_) hmono (ha.2 i c0 u g1 h2) g2
    ·obtain⟨bi,p1,p2,_⟩:=hR.heap id hb hid; exact⟨bi,p1,p2⟩
    ·unfold zQw
     rw[if_pos ⟨id,hb,bi,hid,hbi,rfl⟩]; exact ho⟩ (fun _ _ _=>rfl)).mono fun e w' hp=>?_
 cases e with
 | returned rv=>
  obtain⟨φ1,σ1,q1,q2,q3,q4⟩:=hp
  obtain⟨φ2,hφ2⟩:∃ φ2:Phi,φ2=fun id=>if (φ id).isSome then φ id else φ1 id:=⟨_,rfl⟩
  have e0:∀ id bi,φ id=some bi→φ2 id=some bi:=fun id bi hb=>by rw[hφ2]; simp[hb]
  have n1:∀ id bi,φ1 id=some bi→n≤id∧id<n':=fun id bi hb=>q2.new id bi rfl hb
  have e1:∀ id bi,φ1 id=some bi→φ2 id=some bi:=fun id bi hb=>by
   have:=n1 id bi hb
   rw[hφ2]
   simp[hF id this.1 this.2,hb]
  have same:∀ b,b<w.heap.size→w'.heap[b]?=w.heap[b]?:=fun b hb=>q3.same b hb (by omega)
  have hs':=q3.size
  have hk:∀ id hb,(kept H H1 n (n' - n)).get id=some hb→(H1.get id=some hb∧n≤id∧id<n'∧hb.tame=true)∨H.get id=some hb:=fun id hb hid=>by
   rw[zJn] at hid
   split at hid
   ·rename_i c
    obtain⟨c1,c2,hb',c3,c4⟩:=c
    rw[c3] at hid
    cases hid
    exact .inl ⟨c3,c1,by omega,c4⟩
   ·exact .inr hid
  have newb:∀ id hb,H1.get id=some hb→∃ bi,φ1 id=some bi∧BlockAt φ1 σ1 hb bi w'∧w.heap.size≤bi.blk:=fun id hb hid=>by
   obtain⟨bi,g1,g2,g3⟩:=q1.heap id hb hid
   exact⟨bi,g1,g2,g3 (n1 id bi g1).1⟩
  have hg:Grow φ φ2 σ σ n n' w:=⟨e0,fun id bi h0 h1=>by
   rw[hφ2] at h1
   simp[h0] at h1
   exact n1 id bi h1,fun _ _ h=>h,fun _ _ h=>.inl h⟩
  have liv2:∀ id,Liv L (kept H H1 n (n' - n)).get id→(Liv L H.get id∧∃ bi,φ id=some bi∧φ2 id=some bi∧bi.blk<w.heap.size)∨((∃ hb,H1.get id=some hb)∧∃ bi,φ1 id=some bi∧φ2 id=some bi∧w.heap.size≤bi.blk):=fun id hid=>by
   have oldl:Liv L H.get id→(Liv L H.get id∧∃ bi,φ id=some bi∧φ2 id=some bi∧bi.blk<w.heap.size):=fun hl=>by
    obtain⟨bi,g⟩:=hR.liv hl
    exact⟨hl,bi,g,e0 _ _ g,hR.rng _ _ g⟩
   rcases hid with⟨hb,hid⟩ | hid
   ·rcases hk id hb hid with⟨h1,_⟩ | h1
    ·obtain⟨bi,g1,_,g3⟩:=newb id hb h1
     exact .inr ⟨⟨hb,h1⟩,bi,g1,e1 _ _ g1,g3⟩
    ·exact .inl (oldl (.inl ⟨hb,h1⟩))
   ·exact .inl (oldl (.inr hid))
  refine⟨φ2,σ,⟨fun b o hb=>?_,fun i j bi bj li lj hi hj he=>?_,fun i bi hi=>?_,fun id hb hid=>?_,fun k u hu=>?_,hR.apart,fun k u hu=>?_⟩,hg,q3.weaken fun b hb hn=>by omega,zSM e1 q4 hv⟩
  ·rw[same b (by
    have:=hR.sig _ _ hb
    exact (Array.getElem?_eq_some_iff.1 this).1)]
   exact hR.sig _ _ hb
  ·rcases liv2 i li with⟨l1,x,a1,a2,a3⟩ | ⟨⟨x',l1⟩,x,a1,a2,a3⟩ <;> rcases liv2 j lj with⟨l2,y,b1,b2,b3⟩ | ⟨⟨y',l2⟩,y,b1,b2,b3⟩ <;> (rw[hi] at a2; cases a2; rw[hj] at b2; cases b2)
   ·exact hR.inj i j _ _ l1 l2 a1 b1 he
   ·omega
   ·omega
   ·exact q1.inj i j _ _ (.inl ⟨x',l1⟩) (.inl ⟨y',l2⟩) a1 b1 he
  ·rw[hφ2] at hi
   simp only at hi
   split at hi
   ·have:=hR.rng _ _ hi; omega
   ·exact q1.rng _ _ hi
  ·rcases hk id hb hid with⟨h1,h2,h3,h4⟩ | h1
   ·obtain⟨bi,g1,g2,g3⟩:=newb id hb h1
    obtain⟨c,Ty,fr,⟨c1,cu⟩,c2,c3,c4,c5⟩:=g2.cells
    refine⟨bi,e1 _ _ g1,⟨g2.sz,g2.pos,?_,c,Ty,fr,⟨c1,cu⟩,c2,c3,c4,fun i r hr j u hu=>?_⟩,fun _=>hT _ g3⟩
    ·cases hq:σ bi.blk with
     | none=>rfl
     | some o=>
      have:=(Array.getElem?_eq_some_iff.1 (hR.sig _ _ hq)).1
      omega
    ·obtain⟨ru,d1,d2,d3⟩:=c5 i r hr j u hu
     refine⟨ru,d1,d2,zSM e1 d3 ?_⟩
     have:=List.all_eq_true.1 h4 r (List.mem_of_getElem? hr)
     exact List.all_eq_true.1 this u (List.mem_of_getElem? hu)
   ·obtain⟨bi,g1,g2,g3⟩:=hR.heap id hb h1
    have:=hR.rng _ _ g1
    exact⟨bi,e0 _ _ g1,g2.mono e0 (fun _ _ h=>h) g2.free (same _ this),g3⟩
  ·obtain⟨g0,bi,g1,g2,g3⟩:=hR.locs k u hu
   have:=hR.rng _ _ g1
   refine⟨?_,bi,e0 _ _ g1,g2.mono e0 (fun _ _ h=>h) g2.free (same _ this),g3⟩
   rw[zJn,if_neg (fun q=>by
    have:=hF u.id q.1 (by have:=hm.le; omega)
    rw[g1] at this
    cases this)]
   exact g0
  ·obtain⟨ru,g1,g2⟩:=hR.tmp k u hu
   exact⟨ru,g1,g2.mono e0 (fun _ _ h=>h)⟩
 | panicked _=>exact hp.elim
 | outgrown=>exact hp.elim
theorem zD7 (hK:KOk P G K) (hR:Rel lo Tch φ σ T L h tmps w)(hlo:lo≤n) (hlv:∀ id,H.get id≠none→id<n) (hG:GRel σ G) (hT:∀ b,w.heap.size≤b→Tch b)
  {m:CM}(ha:RepDs φ σ args rargs){e:CEff}(he:zDz K m f args H n lo=some e){h':Nat→Option HB}
  (hh:(e.acc=[]∧h'=h)∨(h=H.get∧h'=e.H'.get)) (hF:zAh φ n e.n') :
  Calls P f rargs w (zAF lo Tch φ σ T L h' tmps w n e.n' e.v):=by
 unfold zDz at he
 split at he
 ·split at he
  ·simp only[Option.map_eq_some_iff] at he
   obtain⟨⟨v,H',n'⟩,h1,rfl⟩:=he
   rcases hh with⟨h2,_⟩ | ⟨h2,rfl⟩
   ·simp at h2
   ·exact zG1 hK hR h2 hlo (h2▸hlv) hG hT ha h1 hF
  ·cases he
 ·split at he
  ·split at he
   ·rename_i v H1 n1 h1
    simp only[Option.map_eq_some_iff] at he
    obtain⟨v',g1,rfl⟩:=he
    rcases hh with⟨h2,_⟩ | ⟨h2,rfl⟩
    ·simp at h2
    ·have:=zO6 hK hR h2 (h2▸hlv) hG ha h1 g1 hF
     subst h2
     exact this
   ·cases he
  ·cases he
 ·split at he
  ·split at he
   ·split at he
    ·rename_i v H1 n1 h1
     split at he
     ·cases he
      rcases hh with⟨h2,_⟩ | ⟨h2,rfl⟩
      ·simp at h2
      ·exact zG1 hK hR h2 hlo (h2▸hlv) hG hT ha h1 hF
     ·cases he
    ·cases he
   ·cases he
  ·cases he
 ·split at he
  ·rename_i args' g0
   split at he
   ·rename_i v H1 n1 h1
    split at he
    ·rename_i ht
     cases he
     rcases hh with⟨h2,_⟩ | ⟨h2,rfl⟩
     ·simp at h2
     ·subst h2
      exact zMO hK hR rfl hlv hG hT ha g0 h1 ht hF
    ·cases he
   ·cases he
  ·cases he
 ·split at he
  ·rename_i hp
   split at he
   ·rename_i v H1 n1 h1
    simp only[Option.map_eq_some_iff] at he
    obtain⟨v',g1,rfl⟩:=he
    have hhh:h'=h:=by
     rcases hh with⟨_,h2⟩ | ⟨h2,h3⟩
     ·exact h2
     ·rw[h2,h3]
    subst hhh
    exact zDg hK hR hG ha hp h1 g1
   ·cases he
  ·split at he
   ·rename_i args' g0
    split at he
    ·rename_i v H1 n1 h1
     split at he
     ·rename_i hfl
      cases he
      rcases hh with⟨h2,_⟩ | ⟨h2,rfl⟩
      ·simp at h2
      ·subst h2
       exact zRI hK hR hG ha g0 h1 hfl
     ·cases he
    ·cases he
   ·cases he
end
end Go.PM
end
section
set_option linter.unusedVariables false
set_option linter.unusedSimpArgs false
namespace Go.PM
structure FR (lo:Nat) (Tch:Nat→Prop) (φ:Phi) (σ:Sig) (G:Nat→Option (List IV)) (nt:Nat) (T:Nat→Option DV) (L:Nat→Option LV) (h:Nat→Option HB) (a:Act) (w:World):Prop where
 rel:Rel lo Tch φ σ T L h a.tmps w
 defs:a.defers=[]
 size:nt≤a.tmps.size
 grel:GRel σ G
 tch:∀ b,w.heap.size≤b→Tch b
def updO (T:Nat→Option DV) (dst:Option Nat) (v:Option DV):Nat→Option DV:=fun k=>if dst=some k then v else T k
section
variable {P:Program}{lo:Nat}{Tch:Nat→Prop}{φ:Phi}{σ:Sig}{G:Nat→Option (List IV)}{T:Nat→Option DV}{L:Nat→Option LV}{h:Nat→Option HB}{a:Act}{w:World}{n nt:Nat}
 {K:Callee}
theorem zOR (a:Act) (dst:Option Nat) (v:Value):(a.put dst v).tmps.size=a.tmps.size∧(a.put dst v).defers=a.defers:=by
 cases dst <;> simp[Act.put]
variable {dst:Option Nat}
theorem Rel.put (hR:Rel lo Tch φ σ T L h a.tmps w)(hd:∀ k,dst=some k→k<a.tmps.size){v:DV}{rv:Value}(hv:RepD φ σ v rv) :
  Rel lo Tch φ σ (updO T dst (some v)) L h (a.put dst rv).tmps w:=by
 refine⟨hR.sig,hR.inj,hR.rng,hR.heap,hR.locs,hR.apart,fun k u hk=>?_⟩
 unfold updO at hk
 split at hk
 ·rename_i hdk
  cases hk
  subst hdk
  refine⟨rv,?_,hv⟩
  simp[Act.put,hd k rfl]
 ·rename_i hdk
  obtain⟨ru,h1,h2⟩:=hR.tmp k u hk
  refine⟨ru,?_,h2⟩
  cases dst with
  | none=>exact h1
  | some d=>
   have:d≠k:=fun e=>hdk (by rw[e])
   simp only[Act.put]
   rw[Array.getElem?_setIfInBounds_ne this]; exact h1
theorem FR.put (hR:FR lo Tch φ σ G nt T L h a w)(hd:∀ k,dst=some k→k<nt){v:DV}{rv:Value}(hv:RepD φ σ v rv) :
  FR lo Tch φ σ G nt (updO T dst (some v)) L h (a.put dst rv) w:=by
 obtain⟨p1,p2⟩:=zOR a dst rv
 exact⟨hR.rel.put (fun k hk=>Nat.lt_of_lt_of_le (hd k hk) hR.size) hv,p2.trans hR.defs,by rw[p1]; exact hR.size,hR.grel,hR.tch⟩
variable {f:FuncId}
theorem zPl {fn : Func} (hf : P.funcs[f]? = some fn) (hb : fn.body.isSome = true) (hn : fn.name ≠ "runtime.NumGoroutine") (args : Array Value) : (callFunc f args).run P w = .ok (.enter f args) w := by
 have : (fn.name == "runtime.NumGoroutine") = false := by simpa using hn
 cases hb':fn.body with
 | none=>rw[hb'] at hb; cases hb
 | some c=>simp[callFunc,hf,hn,hb']
theorem zTP {ops:Array Oper}{o:Oper}{d:DO}(hok:okO P nt ops o d=true) (hR:Rel lo Tch φ σ T L h a.tmps w){b:Bool}(hw:zTO T d=some b):Region.wanted o (yielded ops a.tmps)=b:=by
 unfold okO at hok
 simp only[Bool.and_eq_true] at hok
 have hg:=hok.2
 unfold zTO at hw
 unfold Region.wanted
 split at hg
 ·rename_i h1 h2
  rw[h2] at hw
  rw[h1]
  simpa using hw
 ·rename_i j w0 g w1 h1 h2
  simp only[Bool.and_eq_true,beq_iff_eq,decide_eq_true_eq] at hg
  obtain⟨rfl,hj⟩:=hg
  rw[h2] at hw
  rw[h1]
  simp only at hw ⊢
  unfold yielded
  rw[hj]
  simp only[Option.bind_some]
  split at hw
  ·rename_i b0 ht
   obtain⟨rv,q1,q2⟩:=hR.tmp _ _ ht
   have:=zOm (zOl q2)
   subst this
   rw[q1]
   cases hw
   cases b0 <;> cases w0 <;> rfl
  ·rename_i ht
   obtain⟨rv,q1,q2⟩:=hR.tmp _ _ ht
   have:rv=.tuple #[]:=by
    have:=zOl q2
    cases this; rfl
   subst this
   rw[q1]
   cases hw
   cases w0 <;> rfl
  ·cases hw
 ·cases hg
theorem zM8{op:Op}{m:CM}{ys:List Opd}(h:okOp P dst op (.call m f ys)=true) :
  ∃ x as ts,op=.call { callee:=.value x,args:=as,argTypes:=ts }∧zNA x (.f f)=true∧zNE as.toList ys=true:=by
 generalize hd:DOp.call m f ys=d at h
 unfold okOp at h
 split at h <;> try (cases hd; done)
 ·cases hd
  simp only[Bool.and_eq_true] at h
  exact⟨_,_,_,rfl,h.1.1,h.1.2⟩
 ·cases h
theorem zM9{op:Op}{m:CM}{f:Opd}{ys:List Opd}(h:okOp P dst op (.calld m f ys)=true) :
  ∃ x as ts,op=.call { callee:=.value x,args:=as,argTypes:=ts }∧zNA x f=true∧zNE as.toList ys=true:=by
 generalize hd:DOp.calld m f ys=d at h
 unfold okOp at h
 split at h <;> try (cases hd; done)
 ·cases hd
  simp only[Bool.and_eq_true] at h
  exact⟨_,_,_,rfl,h.1,h.2⟩
 ·cases h
theorem zNC {x:Operand}(h:zNA x (.f f)=true):a.eval x=.func (.func f) #[] #[]:=by
 unfold zNA at h
 split at h <;> rename_i heq <;> first
  | (cases heq; simp only[beq_iff_eq] at h; subst h; rfl)
  | cases heq
  | cases h
theorem zNT (hK:KOk P G K){ops:Array Oper}{o:Oper}{d:DO}(hok:okO P nt ops o d=true){s s':St}{acc:List Acc}(hd:zNP G K lo d s=some (s',acc))
  (hR:FR lo Tch φ σ G nt T L h a w) (hT:∀ k∈d.ts,T k=s.T.get k) (hL:zAB s.L.get L acc) (hH:zAA s.H.get h acc) (hA:Acc.rA∈acc∨Acc.wA∈acc→h=s.H.get)
  (hF:zAh φ s.n s'.n) (hlo:lo≤s.n) (hlv:∀ id,s.H.get id≠none→id<s.n){next:Act→World→Prop}{Q:Exit→Act→World→Prop}
  (hnext:∀ a' w' φ' σ',FR lo Tch φ' σ' G nt (fun k=>if d.dst=some k then s'.T.get k else T k) (fun k=>if Acc.wL k∈acc then s'.L.get k else L k)
   (fun id=>if Acc.wX id∈acc∨Acc.wA∈acc then s'.H.get id else h id) a' w'→Grow φ φ' σ σ' s.n s'.n w→Fr Tch w w'→next a' w') :
  if Region.wanted o (yielded ops a.tmps) then o.wp P a w next Q∨(o.asks P a w∧LetsOut Q) else next (a.put o.dst undef) w:=by
 have hok':=hok
 unfold okO at hok'
 simp only[Bool.and_eq_true,decide_eq_true_eq] at hok'
 obtain⟨⟨⟨hdst,hk⟩,hop⟩,hgd⟩:=hok'
 have hlt:∀ k,o.dst=some k→k<nt:=fun k hk'=>by
  rw[← hdst,hk'] at hk; simpa using hk
 have hts:∀ k∈d.op.ts,T k=s.T.get k:=fun k hk'=>hT k (by simp[DO.ts,hk'])
 have hwd:∀ b,zTO s.T.get d=some b→Region.wanted o (yielded ops a.tmps)=b:=fun b hb=>by
  refine zTP hok hR.rel (T:=T) ?_
  rw[← hb]
  unfold zTO
  split
  ·rfl
  ·rename_i g w0 hg
   rw[hT g (by simp[DO.ts,hg])]
 have hTn:∀ v,(fun k=>if d.dst=some k then (putT s.T d.dst v).get k else T k)=updO T o.dst (some v):=fun v=>by
  funext k
  simp only[updO,hdst,zIO]
  split <;> rfl
 rcases zNQ hd with⟨g1,rfl,rfl⟩ | ⟨g1,hcase⟩
 ·rw[hwd _ g1]
  simp only[Bool.false_eq_true,if_false]
  refine hnext _ _ φ σ ?_ (.refl _ _ _ _ _) (.refl _ _)
  simp only[hTn]
  simp only[List.not_mem_nil,if_false,or_self]
  exact hR.put hlt (.imm .undef)
 ·rw[hwd _ g1]
  simp only[if_true]
  refine .inl ?_
  have callcase:∀ {m:CM}{f:FuncId}{vs:List DV}{rargs:Array Value}{e:CEff},RepDs φ σ vs rargs→zDz K m f vs s.H s.n lo=some e→s'={ s with T:=putT s.T d.dst e.v,H:=e.H',n:=e.n' }→acc=e.acc→
    (execOp a.eval o).run P w=(callFunc f rargs).run P w→o.wp P a w next Q:=fun {m f vs rargs e} ha he hs hacc hx=>by
   subst hs hacc
   obtain⟨m1,m2,m3,m4⟩:=zD2 (fun f args H n lo v H' n'=>hK.mon f args H n lo v H' n') he
   have hfun : ∃ fn, P.funcs[f]? = some fn ∧ fn.body.isSome = true ∧ fn.name ≠ "runtime.NumGoroutine" := by
    unfold zDz at he
    repeat' split at he
    all_goals first
     | (cases he; done)
     | (simp only[Option.map_eq_some_iff] at he; obtain⟨r,h1,_⟩:=he; exact hK.fun_ _ _ _ _ _ _ h1)
     | exact hK.fun_ _ _ _ _ _ _ (by assumption)
   obtain⟨fn,f1,f2,f3⟩:=hfun
   unfold Oper.wp
   rw[hx,zPl f1 f2 f3,Oper.upon_enter]
   refine (zD7 hK hR.rel (h':=fun id=>if Acc.wX id∈e.acc∨Acc.wA∈e.acc then e.H'.get id else h id) hlo hlv hR.grel hR.tch ha he ?_ hF).mono fun en w' hp=>?_
   ·rcases m4 with h0 | h0 | h0
    ·left; refine⟨h0,?_⟩; funext id; simp[h0]
    ·have hh:=hA (.inl h0)
     right; refine⟨hh,?_⟩; funext id
     split
     ·rfl
     ·rename_i hn
      rw[hh]; exact (m2 id (fun x=>hn (.inl x)) (fun x=>hn (.inr x))).symm
    ·have hh:=hA (.inr h0)
     right; refine⟨hh,?_⟩; funext id
     rw[if_pos (.inr h0)]
   ·cases en with
    | returned rv=>
     obtain⟨φ',σ',q1,q2,q3,q4⟩:=hp
     refine hnext _ _ φ' σ' ?_ q2 q3
     simp only[hTn]
     have hLn:(fun k=>if Acc.wL k∈e.acc then s.L.get k else L k)=L:=by
      funext k; rw[if_neg (m3 k).1]
     rw[hLn]
     exact FR.put ⟨q1,hR.defs,hR.size,hR.grel.mono q2.sg,fun b hb=>hR.tch b (Nat.le_trans q3.size hb)⟩ hlt q4
    | panicked _=>exact hp.elim
    | outgrown=>exact hp.elim
  rcases hcase with⟨m,f,args,vs,e,e1,e2,e3,e4,e5⟩ | ⟨m,f,args,g,caps,vs,e,e1,e2,e2',e3,e4,e5⟩ | ⟨e,e1,rfl,rfl⟩
  ·rw[e1] at hop hts
   simp only[DOp.ts] at hts
   rw[← zHR hts] at e2
   obtain⟨x,as,ts,hx,hxo,has⟩:=zM8 hop
   have hfv:a.eval x=.func (.func f) #[] #[]:=zNC hxo
   have ha:=zHT hR.rel hR.grel has e2
   have hm:(as.toList.map a.eval).toArray=as.map a.eval:=by apply Array.ext'; simp
   rw[hm] at ha
   exact callcase ha e3 e4 e5 (by
    simp only[execOp,hx,resolve,hfv,Deferred.ofValue,pure_bind]
    simp[invoke])
  ·rw[e1] at hop hts
   simp only[DOp.ts] at hts
   obtain⟨t1,t2⟩:=mem2 hts
   rw[← zHN t1] at e2
   rw[← zHR t2] at e2'
   obtain⟨x,as,ts,hx,hxo,has⟩:=zM9 hop
   have hfv:=zHP hR.rel hR.grel hxo e2
   have ha:=zHT hR.rel hR.grel has e2'
   have hm:(as.toList.map a.eval).toArray=as.map a.eval:=by apply Array.ext'; simp
   rw[hm] at ha
   generalize hfx:a.eval x=u at hfv
   cases hfv with
   | fnc hl hr=>
    rename_i cvs
    have hap:RepDs φ σ (vs++caps) (as.map a.eval++cvs):=by
     refine⟨by rw[List.length_append,Array.size_append,ha.1,hl],fun i c v hc hv=>?_⟩
     rw[List.getElem?_append] at hc
     rw[Array.getElem?_append] at hv
     by_cases hi:i<vs.length
     ·rw[if_pos hi] at hc
      rw[if_pos (ha.1▸hi)] at hv
      exact ha.2 i c v hc hv
     ·rw[if_neg hi] at hc
      rw[if_neg (ha.1▸hi)] at hv
      rw[← ha.1] at hv
      exact hr _ c v hc hv
    exact callcase hap e3 e4 e5 (by
     simp only[execOp,hx,resolve,hfx,Deferred.ofValue,pure_bind]
     simp[invoke])
  ·have e1':zGm G T L h s.n lo (o.dst.getD 0) d.op=some e:=by
    rw[hdst]
    exact zGo hts hL hH e1
   obtain⟨nx,rv,w',φ',σ',r1,r2,r3⟩:=zQ1 hR.rel hR.grel hR.tch hop e1' hF
   have hE:=zGn e1
   have hLn:(fun k=>if Acc.wL k∈e.acc then (putL s.L e.lw).get k else L k)=updL L e.lw:=by
    funext k
    rw[zIN]
    split
    ·rename_i hm; exact zTB _ (hL k (.inr hm)).symm
    ·rename_i hm; exact (zTC _ (fun p hp he=>hm (by rw[← he]; exact hE.l p hp))).symm
   have hHn:(fun id=>if Acc.wX id∈e.acc∨Acc.wA∈e.acc then (putH s.H e.hw).get id else h id)=updH h e.hw:=by
    funext id
    rw[zIM]
    split
    ·rename_i hm
     rcases hm with hm | hm
     ·exact zS9 _ (hH id (.inr hm)).symm
     ·exact zS9 _ (by rw[hA (.inr hm)])
    ·rename_i hm; exact (zTA _ (fun p hp he=>hm (.inl (by rw[← he]; exact hE.x p hp)))).symm
   have fin:next (a.put o.dst rv) w':=by
    refine hnext _ _ φ' σ' ?_ r3.grow r3.fr
    simp only[hTn]
    rw[hLn,hHn]
    exact FR.put ⟨r3.rel,hR.defs,hR.size,hR.grel.mono r3.grow.sg,fun b hb=>hR.tch b (Nat.le_trans r3.fr.size hb)⟩ hlt r3.val
   unfold Oper.wp
   rw[r1]
   rcases r2 with rfl | ⟨rfl,rfl⟩
   ·exact fin
   ·exact fin
end
end Go.PM
end
