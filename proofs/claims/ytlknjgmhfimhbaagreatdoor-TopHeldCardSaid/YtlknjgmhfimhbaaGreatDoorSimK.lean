/-
  One operation, in D and in the model: append, whole; walks over texts.
  One operation, in D and in the model: what is left.
  One operation, in D and in the model: all of them.
-/
import Derived.Test.YtlknjgmhfimhbaaGreatDoorSimH
section
set_option linter.unusedVariables false
set_option linter.unusedSimpArgs false
namespace Go.PM
section
variable {P:Program}{lo:Nat}{Tch:Nat→Prop}{φ:Phi}{σ:Sig}{G:Nat→Option (List IV)}{T:Nat→Option DV}{L:Nat→Option LV}{h:Nat→Option HB}{a:Act}{w:World}{n:Nat}
theorem zIX (hR:Rel lo Tch φ σ T L h a.tmps w) (hT:∀ b,w.heap.size≤b→Tch b) (hf:φ n=none){el:TypeId}{s cap:Nat}{rows ys:List (List DV)}{olds vals:List Value}{rest:Array Value}
  (ho:zBb φ σ s rows olds) (hv:zBb φ σ s ys vals) (hpos:0<s) (hcap:(rows++ys).length≤cap) (hrest:rest.size=(cap - (rows++ys).length)*s){sm:Sem Value}
  (hrun:sm.run P w=.ok (.slice (some ⟨w.heap.size,0,none⟩) (rows++ys).length cap) (w.drew.alloc (.cells (olds.toArray++vals.toArray++rest) el))){acc:List Acc} :
  Does P lo Tch φ σ T L h a w n sm { v:=.sl n 0 (rows++ys).length (rows++ys).length,hw:=[(n,some ⟨s,rows++ys⟩)],n':=n+1,acc }:=by
 refine zMB (t:=el) (c:=olds.toArray++vals.toArray++rest) hR hT hf (w':=w.drew.alloc _) (by simp) (fun b hb=>heap_alloc_old w.drew _ hb) (heap_alloc_new w.drew _) rfl rfl hrun hcap ?_ hpos (fun r hr=>?_) (fun i r hi=>zEI ho hv hi)
 ·simp only[Array.size_append,List.size_toArray,ho.1,hv.1,hrest]
  simp only[List.length_append] at hcap ⊢
  rw[← Nat.add_mul,← Nat.add_mul]
  exact Nat.mul_le_mul_right _ (by omega)
 ·simp only[List.mem_append] at hr
  rcases hr with hr | hr
  ·exact ho.2.2.1 r hr
  ·exact hv.2.2.1 r hr
theorem zIZ (w:World) (need old:Nat) (el:TypeId):need≤grownCap w need old el:=by
 exact Nat.le_add_right _ _
theorem zTp (z:Array Value) (k:Nat):(Builtin.zeroCells z k).size=k*z.size:=by simp[Builtin.zeroCells]
theorem zGb (w:World) (ad:Addr):w.drew.cell? ad=w.cell? ad:=rfl
theorem zRU {v:DV}{src:Option Nat}{s:Nat}{rows:List (List DV)}(hrow:zPV h v=some (src,s,rows)):zRS h v=some (src,s,rows):=by
 cases v with
 | imm x=>cases x <;> first | exact hrow | (simp[zPV] at hrow)
 | _=>exact hrow
theorem zCZ (hR:Rel lo Tch φ σ T L h a.tmps w) (hT:∀ b,w.heap.size≤b→Tch b){ts:Array TypeId}{ty el:TypeId}{s b:Nat}{z:Value}(hok:AppOk P ts el s b z) (hzs:z.cells.size=s)
  {x y:DV}{rx ry:Value}(hx:RepD φ σ x rx) (hy:RepD φ σ y ry){e:Eff}(he:zCK h n lo s b x y=some e) (hF:zAh φ n e.n') :
  Does P lo Tch φ σ T L h a w n (Builtin.append_ ts ty #[rx,ry]) e:=by
 unfold zCK at he
 split at he
 ·cases he
 ·rename_i src sb ys hsrc
  simp only at he
  split at he
  ·-- nothing is appended
   rename_i hnil
   obtain⟨vals,h1,h2,h3⟩:=zRW (P:=P) hR hy hsrc (s:=s) (.inr hnil)
   have hv0:vals=[]:=List.length_eq_zero_iff.1 (by rw[h3.1.1,hnil]; simp)
   have h1':=h1 w (fun _=>rfl)
   rw[hnil] at h2 h1'
   rw[hv0] at h1'
   have key:∀ base sLen sCap,sLen≤sCap→rx=.slice base sLen sCap→Does P lo Tch φ σ T L h a w n (Builtin.append_ ts ty #[rx,ry]) { v:=x,n':=n,acc:=zOS src }:=fun base sLen sCap hle hrx=>by
    refine .pure hR (rv:=rx) ?_ hx
    have:=zPf (P:=P) (ty:=ty) hok (base:=base) (sLen:=sLen) (sCap:=sCap) (n':=0) (x:=ry) (vals:=[]) h2 h1' (by omega) (w':=w) (fun ad _=>by simp[storeCells]) (fun _=>rfl)
    rw[hrx]; simpa using this
   split at he
   ·cases he; cases hx with | imm hi=>cases hi; exact key none 0 0 (Nat.le_refl _) rfl
   ·cases he; cases hx with | imm hi=>cases hi with | lst cv hcap hfull hsz hc hr=>exact key _ _ _ hcap rfl
   ·cases he; cases hx with | sl hb q1 q2 q3=>exact key _ _ _ (by omega) rfl
   ·cases he
  ·rename_i hnil
   split at he
   ·rename_i hs
    obtain⟨hsb,hpos⟩:=hs
    obtain⟨vals,h1,h2,h3,_⟩:=zRW (P:=P) hR hy hsrc (s:=s) (.inl hsb)
    have h1w:=h1 w (fun _=>rfl)
    have h1d:=h1 w.drew (zGb w)
    have hysl:0<ys.length:=List.length_pos_iff.2 hnil
    have grow:∀ (base:Option Addr) (sLen sCap:Nat) (rows:List (List DV)) (olds:List Value) (acc:List Acc),rx=.slice base sLen sCap→rows.length=sLen→zBb φ σ s rows olds→
      (Builtin.firstCells s sLen (.slice base sLen sCap)).run P w.drew=.ok olds.toArray w.drew→sCap<sLen+ys.length→sLen+ys.length≤zCJ→(sLen+ys.length)*b≤zCJ→φ n=none→
      Does P lo Tch φ σ T L h a w n (Builtin.append_ ts ty #[rx,ry]) { v:=.sl n 0 (rows++ys).length (rows++ys).length,hw:=[(n,some ⟨s,rows++ys⟩)],n':=n+1,acc }:=
     fun base sLen sCap rows olds acc hrx hrl ho hold hgt hmx hmxb hfn=>by
      subst hrl
      have hrun:=zPg (P:=P) (ty:=ty) hok (base:=base) (sCap:=sCap) h2 h1d hold hgt hmx hmxb
      rw[hrx]
      have hlen:(rows++ys).length=rows.length+ys.length:=by simp
      refine zIX (el:=el) (cap:=grownCap w (rows.length+ys.length) sCap el) hR hT hfn ho h3 hpos (by rw[hlen]; exact zIZ _ _ _ _) (by rw[zTp,hzs,hlen]) ?_
      rw[hlen]; exact hrun
    split at he
    ·-- onto nil
     split at he
     ·rename_i hmx
      cases he
      cases hx with
      | imm hi=>
       cases hi with
       | nils=>
        have:=grow none 0 0 [] [] (.wX n::zOS src) rfl rfl ⟨by simp,fun v hv=>by simp at hv,fun r hr=>by simp at hr,fun i j r c hi _=>by simp at hi⟩ (by simp[Builtin.firstCells]) (by omega)
         (by rw[Nat.zero_add]; exact hmx.1) (by rw[Nat.zero_add]; exact hmx.2) (hF n (Nat.le_refl _) (Nat.lt_succ_self _))
        simpa using this
     ·cases he
    ·-- onto one that is full
     rename_i sz es
     split at he
     ·rename_i hmx
      obtain⟨rfl,hm1,hm2⟩:=hmx
      cases he
      have hrow:zPV h (.imm (.lst true sz es))=some (none,sz,es.map imms):=rfl
      obtain⟨olds,o1,o2,o3,_⟩:=zRW (P:=P) hR hx (zRU hrow) (s:=sz) (.inl rfl)
      cases hx with
      | imm hi=>
       cases hi with
       | lst cv hcap hfull hsz hc hr=>
        have hcap':=hfull rfl
        subst hcap'
        have hold:=o1 w.drew (zGb w)
        rw[List.length_map] at hold
        have:=grow (some _) es.length es.length (es.map imms) olds (.wX n::zOS src) rfl (by simp) o3 hold (by omega) hm1 hm2 (hF n (Nat.le_refl _) (Nat.lt_succ_self _))
        simpa using this
     ·cases he
    ·rename_i id row len cap
     split at he
     ·rename_i hlo
      obtain⟨hlo,hne⟩:=hlo
      split at he
      ·rename_i hb hid
       split at he
       ·rename_i hbs
        cases hx with
        | sl hbi q1 q2 q3=>
         rename_i rcap bi
         obtain⟨bi',g1,g2,g3⟩:=hR.heap _ _ hid
         rw[hbi] at g1; cases g1
         obtain⟨c,ct,cf,c1,c2,c3,c4,c5⟩:=g2.cells
         have hbz:bi.sz=s:=g2.sz.trans hbs
         have inPlace:∀ k,k=row+len→k≤hb.rows.length→len+ys.length≤rcap→(k+ys.length)*s≤c.size→
           (Builtin.append_ ts ty #[.slice (some ⟨bi.blk,row*bi.sz,none⟩) len rcap,ry]).run P w=.ok (.slice (some ⟨bi.blk,row*bi.sz,none⟩) (len+ys.length) rcap) (setBlock w bi.blk (.cells (zJx c (k*s) vals) ct cf)):=fun k hk hkl hle hsz=>by
          have hvne:vals≠[]:=fun e=>by
           have h30:=h3.1
           rw[e,List.length_nil] at h30
           have:=Nat.mul_pos hysl hpos
           omega
          refine zPf (P:=P) (ty:=ty) hok (x:=ry) h2 h1w hle (fun ad had=>?_) (fun h=>by cases h)
          cases had
          rw[zBz,hbz,← Nat.add_mul,← hk]
          have:=zP7 (P:=P) vals w bi.blk (k*s) 0 c ct cf c1.1 c1.2 (by rw[h3.1,Nat.add_zero,← Nat.add_mul]; exact hsz) h3.2.1
          rw[if_neg hvne,Nat.add_zero] at this
          exact this
         split at he
         ·-- the room is known
          rename_i hroom
          obtain⟨r1,r2⟩:=hroom
          cases he
          have hsz:(row+len+ys.length)*s≤c.size:=by
           have:(row+len+ys.length)*s≤hb.rows.length*s:=Nat.mul_le_mul_right _ r2
           rw[hbs] at c3; omega
          have hrun:=inPlace (row+len) rfl (by omega) (by omega) hsz
          have hlen:=zSC (ys:=ys) (rows:=hb.rows) (k:=row+len) (by omega)
          have hrl:(hb.rows.take (row+len)++ys++hb.rows.drop (row+len+ys.length)).length=hb.rows.length:=by rw[hlen]; omega
          refine⟨_,_,φ,σ,hrun,?_,.refl _ _ _ _ _,Fr.setBlock (g3 hlo),.sl hbi r1 q2 q3,Nat.le_refl _⟩
          simp only[updL,updH]
          refine hR.setH hid hbi (by rw[zJ0 (by rw[h3.1,← Nat.add_mul]; exact hsz)]; exact c1.2) hbs.symm (by rw[zJ0 (by rw[h3.1,← Nat.add_mul]; exact hsz)]; exact c2) (by rw[hrl,← hbs]; exact c3) (fun r hr=>?_) (fun i r hi=>?_)
          ·simp only[List.mem_append] at hr
           rcases hr with (hr | hr) | hr
           ·rw[← hbs]; exact c4 r (List.mem_of_mem_take hr)
           ·exact h3.2.2.1 r hr
           ·rw[← hbs]; exact c4 r (List.mem_of_mem_drop hr)
          ·rw[hbs] at c4 c5
           exact zEJ c4 c5 h3 (by omega) (by rw[← Nat.add_mul]; exact hsz) hi
         ·split at he
          ·-- the room is not known
           rename_i hfullb
           obtain⟨rfl,rfl,m1,m2⟩:=hfullb
           cases he
           have hfn:=hF n (Nat.le_refl _) (Nat.lt_succ_self _)
           have hidn:id≠n:=fun e=>by rw[e,hfn] at hbi; cases hbi
           by_cases hroom:hb.rows.length+ys.length≤rcap
           ·have hsz:(hb.rows.length+ys.length)*s≤c.size:=by
             have:(hb.rows.length+ys.length)*s≤rcap*s:=Nat.mul_le_mul_right _ hroom
             rw[hbz,Nat.zero_add] at q3; omega
            have hrun:=inPlace hb.rows.length (by omega) (Nat.le_refl _) hroom hsz
            have hbig:(hb.rows++ys).length*s≤bi.size:=by rw[List.length_append]; omega
            have hrows':hb.rows++ys=hb.rows.take hb.rows.length++ys++hb.rows.drop (hb.rows.length+ys.length):=by
             rw[List.take_length,List.drop_eq_nil_of_le (by omega),List.append_nil]
            have hm:=hR.moveH (n:=n) (hb':=⟨s,hb.rows++ys⟩) (c':=zJx c (hb.rows.length*s) vals) (t:=ct) hid hbi hfn hlo (by rw[zJ0 (by rw[h3.1,← Nat.add_mul]; exact hsz)]; exact c1.2) hbs.symm (by rw[zJ0 (by rw[h3.1,← Nat.add_mul]; exact hsz)]; exact c2) hbig (fun r hr=>by
              simp only[List.mem_append] at hr
              rcases hr with hr | hr
              ·rw[← hbs]; exact c4 r hr
              ·exact h3.2.2.1 r hr) (fun i r hi=>by
              rw[hbs] at c4 c5
              rw[hrows'] at hi
              exact zEJ c4 c5 h3 (Nat.le_refl _) (by rw[← Nat.add_mul]; exact hsz) hi)
            refine⟨_,_,_,σ,hrun,?_,zNz hfn bi,Fr.setBlock (g3 hlo),?_,Nat.le_succ _⟩
            ·exact hm
            ·have:=RepD.sl (φ:=zNx φ n bi) (σ:=σ) (id:=n) (row:=0) (len:=hb.rows.length+ys.length) (cap:=hb.rows.length+ys.length) (rcap:=rcap) (bi:=bi) (by simp[zNx]) (Nat.le_refl _) hroom q3
             exact this
           ·have hrow:zPV h (.sl id 0 hb.rows.length cap)=some (some id,hb.sz,hb.rows):=by
             simp[zPV,hid]
            obtain⟨olds,o1,o2,o3,_⟩:=zRW (P:=P) hR (.sl hbi q1 q2 q3) (zRU hrow) (s:=s) (.inl hbs)
            have hold:=o1 w.drew (zGb w)
            obtain⟨rv,w',φ',σ',e1,e2⟩:=grow (some ⟨bi.blk,0*bi.sz,none⟩) hb.rows.length rcap hb.rows olds (.wX id::.wX n::zOS src) rfl rfl o3 hold (by omega) m1 m2 hfn
            refine⟨rv,w',φ',σ',e1,?_,e2.grow,e2.fr,?_,e2.le⟩
            ·have:=e2.rel.dropH id
             simp only[updL,updH] at this ⊢
             have heq:upd (upd h n (some ⟨s,hb.rows++ys⟩)) id none=upd (upd h id none) n (some ⟨s,hb.rows++ys⟩):=by
              funext k; unfold upd
              by_cases k1:k=id
              ·by_cases k2:k=n
               ·exact absurd (k1.symm.trans k2) hidn
               ·simp[k1,hidn]
              ·simp[k1]
             rw[heq] at this
             exact this
            ·have:=e2.val
             rw[List.length_append] at this
             exact this
          ·cases he
       ·cases he
      ·cases he
     ·cases he
    ·cases he
   ·cases he
end
end Go.PM
end
section
set_option linter.unusedVariables false
set_option linter.unusedSimpArgs false
namespace Go.PM
section
variable {P:Program}{lo:Nat}{Tch:Nat→Prop}{φ:Phi}{σ:Sig}{G:Nat→Option (List IV)}{T:Nat→Option DV}{L:Nat→Option LV}{h:Nat→Option HB}{a:Act}{w:World}{n:Nat}
variable {el:TypeId} {rv:Value}
theorem zCN (hR:Rel lo Tch φ σ T L h a.tmps w) (hT:∀ b,w.heap.size≤b→Tch b){ts:Array TypeId} {ty t u:TypeId}{s b:Nat}{z:List IV}(ht:ts[0]?=some t) (hu:ts[1]?=some u)
  (htu:P.underlying t=some (.slice el)){ik:IntKind}(huu:P.underlying u=some (.int ik)) (hs:szOk P el s=true) (hb:btOk P el b=true) (hz:zTq P el z=true)
  {d:DV}(hd:RepD φ σ d rv){k:Nat}(hk:zCl d=some k){e:Eff}
  (he:(if 0<k∧0<s∧z.length=s∧k≤zCJ∧k*b≤zCJ then
     some { v:=.sl n 0 k k,hw:=[(n,some ⟨s,List.replicate k (imms z)⟩)],n':=n+1,acc:=[.wX n] }
    else none)=some e) (hF:zAh φ n e.n'):Does P lo Tch φ σ T L h a w n (Builtin.append_ ts ty #[.slice none 0 0,rv]) e:=by
 obtain⟨kk,rfl⟩:=zCm hk hd
 split at he
 ·rename_i hc
  obtain⟨h0,hpos,hzl,hm1,hm2⟩:=hc
  cases he
  obtain⟨i,v,hi,hv,hvs,hg⟩:=zTt hz
  have hn:=zTr hz
  have hbb:i.bytes=b:=by unfold btOk at hb; rw[hi] at hb; simpa using hb
  have hss:i.size=s:=by unfold szOk at hs; rw[hi] at hs; simpa using hs
  have hw:IntKind.i64.wrap (k:Int)=k:=IntWalk.i64_in _ (by unfold zCJ at hm1; omega)
  have hbm:¬((281474976710656:Int)<(k:Int)*(b:Int)):=by
   unfold zCJ at hm2
   have:((k*b:Nat):Int)≤((2 ^ 40:Nat):Int):=by exact_mod_cast hm2
   rw[Int.natCast_mul] at this
   omega
  have hnc:Builtin.nextslicecap k 0*b≤281474976710656:=growslice_fits h0 (by unfold zCJ at hm2; omega)
  have hnc':¬(281474976710656<Builtin.nextslicecap k 0*b):=by omega
  have h63:¬((9223372036854775807:Int)<(k:Int)):=by unfold zCJ at hm1; omega
  have hks:¬(k*s=0):=by have:=Nat.mul_pos h0 hpos; omega
  have hk0:¬k=0:=by omega
  have hneg:¬((k:Int)<0):=by omega
  have hs0:¬s=0:=by omega
  have hrun:(Builtin.append_ ts ty #[.slice none 0 0,.int kk (k:Int)]).run P w=
    .ok (.slice (some ⟨w.heap.size,0,none⟩) k (grownCap w k 0 el)) (w.drew.alloc (.cells (Builtin.zeroCells v.cells k++Builtin.zeroCells v.cells (grownCap w k 0 el - k)) el)):=by
   simp[Builtin.append_,ht,hu,zP9 htu,zP9 huu,sizeOf,typeInfo,zeroValue,hi,hv,hbb,hss,asInt,zPh,hw,hbm,hk0,hneg,h63,hnc',Question.forced,Builtin.firstCells,hs0,newRow,grownCap]
   exact fun hh=>absurd hh hks
  have:=zMB (n:=n) (t:=el) (s:=s) (rows:=List.replicate k (imms z)) (cap:=grownCap w k 0 el) (c:=Builtin.zeroCells v.cells k++Builtin.zeroCells v.cells (grownCap w k 0 el - k)) hR hT (hF n (Nat.le_refl _) (Nat.lt_succ_self _)) (w':=w.drew.alloc _)
   (by simp) (fun b hb=>heap_alloc_old w.drew _ hb) (heap_alloc_new w.drew _) rfl rfl (by rw[List.length_replicate]; exact hrun) (by rw[List.length_replicate]; exact zIZ _ _ _ _)
   (by rw[Array.size_append,zTp,zTp,hvs,hzl,← Nat.add_mul]; exact Nat.mul_le_mul_right _ (by have:=zIZ w k 0 el; omega)) hpos (fun r hr=>by rw[List.eq_of_mem_replicate hr]; simp[imms,hzl])
   (fun i' r hi' j x hj=>by
    have hlt:i'<k:=by have:=(List.getElem?_eq_some_iff.1 hi').1; simpa using this
    have:r=imms z:=List.eq_of_mem_replicate (List.mem_of_getElem? hi')
    subst this
    obtain⟨y,hy,rfl⟩:=zI5 hj
    obtain⟨u',q1,q2,q3⟩:=zTu (σ:=σ) (m:=k) hzl hvs hg hn hlt hy
    refine⟨u',?_,q2,.imm q3⟩
    have hlt2:=(Array.getElem?_eq_some_iff.1 q1).1
    simp only[Array.size_map,Array.size_range] at hlt2
    rw[Array.getElem?_append,if_pos (by rw[zTp,hvs,hzl]; exact hlt2)]
    rw[← q1]
    simp only[Builtin.zeroCells,hvs,hzl]) (acc:=[.wX n])
  rw[List.length_replicate] at this
  exact this
 ·cases he
theorem zFG (hR:Rel lo Tch φ σ T L h a.tmps w) {s d:TypeId}(hs:P.underlying s=some .string) (hd:P.underlying d=some (.slice el)) (hel:P.underlying el=some (.int .u8)){t:List UInt8}(hv:RepI σ (.str t) rv)
  {acc:List Acc}:Does P lo Tch φ σ T L h a w n (convert s d rv) { v:=.imm (.lst false 1 (t.map zPO)),n':=n,acc }:=by
 obtain⟨q,rfl,rfl⟩:=zOo hv
 have hcap:=zIZ w q.size 0 el
 let c:Array Value:=(q.data.map fun b=>.int .u8 b.toNat)++Array.replicate (grownCap w q.size 0 el - q.size) (.int .u8 0)
 let w1:=w.drew.alloc (.cells c el)
 have hnew:w1.heap[w.heap.size]?=some (.cells c el (0,0)):=heap_alloc_new w.drew _
 have hshape:w1.shape? w.heap.size=some (el,c.size):=by simp[World.shape?,hnew]
 have hsz1:w1.heap.size=w.heap.size+1:=by simp[w1]
 have hfreeze:w1.freeze { block:=w.heap.size,off:=c.size } 1=setBlock w1 w.heap.size (.cells c el (c.size,c.size+1)):=by
  unfold World.freeze setBlock
  rw[if_neg (by omega)]
  congr 1
  apply Array.ext_getElem?
  intro i
  rw[Array.getElem?_modify,Array.getElem?_setIfInBounds]
  by_cases hi:w.heap.size=i
  ·subst hi
   have hlt:w.heap.size<w1.heap.size:=by omega
   have hnew':w1.heap[w.heap.size]'hlt=.cells c el (0,0):=by
    rw[Array.getElem?_eq_getElem hlt] at hnew; exact Option.some.inj hnew
   simp[hlt,hnew']
  ·simp[hi]
 have hrun:(convert s d (.string q)).run P w=.ok (.slice (some ⟨w.heap.size,0,none⟩) q.size (grownCap w q.size 0 el)) (setBlock w1 w.heap.size (.cells c el (c.size,c.size+1))):=by
  rw[← hfreeze]
  have hsh:(w.drew.alloc (.cells c el)).shape? w.heap.size=some (el,c.size):=hshape
  simp[convert,zP9 hs,zP9 hd,zP9 hel,Conv.stringToBytes,Question.forced,newRow,markStringish]
  have hcc:(Array.map (fun b:UInt8=>Value.int IntKind.u8 (b.toNat:Int)) q.data++Array.replicate ((Question.appendCap q.size 0 el).cut (w.tape w.drawn (Question.appendCap q.size 0 el)) - q.size) (Value.int IntKind.u8 0))=c:=rfl
  rw[hcc,hsh]
  simp
  exact⟨rfl,rfl⟩
 have hlenq:q.data.toList.length=q.size:=by simp
 have hrl:(q.data.toList.map zPO).length=q.size:=by simp
 have hget:∀ b,b<w.heap.size→(setBlock w1 w.heap.size (.cells c el (c.size,c.size+1))).heap[b]?=w.heap[b]?:=fun b hb=>by
  rw[zQj,if_neg (fun ⟨e,_⟩=>by omega)]
  exact heap_alloc_old w.drew _ hb
 refine zI4 hR (c:=c) (t:=el) (fr:=(c.size,c.size+1)) (w':=setBlock w1 w.heap.size (.cells c el (c.size,c.size+1))) (by rw[zQk]; exact hsz1) hget (by rw[zQj,if_pos ⟨rfl,by omega⟩]) rfl rfl (by rw[hrl]; exact hrun)
  (by rw[hrl]; exact hcap) (fun h=>by cases h) (fun r hr=>by obtain⟨x,_,rfl⟩:=List.mem_map.1 hr; rfl) (fun i j r x hi hj=>?_)
 rw[List.getElem?_map] at hi
 simp only[Option.map_eq_some_iff] at hi
 obtain⟨y,hy,rfl⟩:=hi
 cases j with
 | zero=>
  simp[zPO] at hj; subst hj
  have hiq:i<q.data.size:=by have:=(List.getElem?_eq_some_iff.1 hy).1; simpa using this
  refine⟨.int .u8 y.toNat,?_,rfl,.int⟩
  simp only[c,Nat.mul_one,Nat.add_zero]
  rw[Array.getElem?_append,if_pos (by simpa using hiq),Array.getElem?_map]
  have:q.data[i]?=some y:=by simpa using hy
  rw[this]; rfl
 | succ j=>simp[zPO] at hj
theorem zFE (hR:Rel lo Tch φ σ T L h a.tmps w) {s:TypeId}(hs:P.underlying s=some (.slice el)) (hel:P.underlying el=some (.int .u8)){id row len cap:Nat}(hv:RepD φ σ (.sl id row len cap) rv)
  (hlo:lo≤id){hb:HB}(hid:h id=some hb){acc:List Acc}:Does P lo Tch φ σ T L h a w n (convert s s rv) { v:=.sl id row len cap,hw:=[(id,some hb)],n':=n,acc }:=by
 cases hv with
 | sl hbi q1 q2 q3=>
  rename_i rcap bi
  obtain⟨bi',g1,g2,g3⟩:=hR.heap _ _ hid
  rw[hbi] at g1; cases g1
  obtain⟨c,ct,cf,c1,c2,c3,c4,c5⟩:=g2.cells
  obtain⟨c1,cu⟩:=c1
  have hlt:=hR.rng _ _ hbi
  have hshape:w.shape? bi.blk=some (ct,c.size):=by simp[World.shape?,c1]
  let fr':Nat×Nat:=if cf.1==cf.2 then (c.size,c.size+1) else (min cf.1 c.size,max cf.2 (c.size+1))
  have hfreeze:w.freeze { block:=bi.blk,off:=c.size } 1=setBlock w bi.blk (.cells c ct fr'):=by
   unfold World.freeze setBlock
   rw[if_neg (by omega)]
   congr 1
   apply Array.ext_getElem?
   intro i
   rw[Array.getElem?_modify,Array.getElem?_setIfInBounds]
   by_cases hi:bi.blk=i
   ·subst hi
    have hget:w.heap[bi.blk]'hlt=.cells c ct cf:=by
     rw[Array.getElem?_eq_getElem hlt] at c1; exact Option.some.inj c1
    simp[hlt,hget,fr']
   ·simp[hi]
  have hu':Unfr fr' c.size:=by
   simp only[fr']
   split
   ·exact .inl (Nat.le_refl _)
   ·rename_i hne
    rcases cu with cu | cu
    ·left; simp only; omega
    ·exact absurd (by simpa using cu) hne
  have hrun:(convert s s (.slice (some ⟨bi.blk,row*bi.sz,none⟩) len rcap)).run P w=.ok (.slice (some ⟨bi.blk,row*bi.sz,none⟩) len rcap) (setBlock w bi.blk (.cells c ct fr')):=by
   rw[← hfreeze]
   simp[convert,zP9 hs,zP9 hel,markStringish,hshape]
  refine⟨_,_,φ,σ,hrun,?_,.refl _ _ _ _ _,Fr.setBlock (g3 hlo),.sl hbi q1 q2 q3,Nat.le_refl _⟩
  simp only[updL,updH]
  exact hR.setH hid hbi hu' rfl c2 c3 c4 c5
theorem zO5 (hR:Rel lo Tch φ σ T L h a.tmps w) (hT:∀ b,w.heap.size≤b→Tch b) (hf:φ n=none){t:TypeId}(ht:P.underlying t=some .string){s:List UInt8}(hv:RepI σ (.str s) rv) (dst:Nat) :
  Does P lo Tch φ σ T L h a w n (Instr.range t rv) { v:=.lref dst n 0,lw:=[(dst,.iter n s 0)],n':=n+1,acc:=[.wL dst] }:=by
 obtain⟨q,rfl,rfl⟩:=zOo hv
 have hr:=hR.pushL (h:=h) (L:=L) hT hf (o:=.stringIter q 0) (w':=zOM w _) (zOQ _ _) (zOO _ _) (zOP _ _) dst 0 0 (.iter n q.data.toList 0) rfl
  (fun φ' hp=>.iter (hR.sigNone (Nat.le_refl _)) (zOP _ _))
 refine⟨.pointer (some ⟨w.heap.size,0,none⟩),_,_,σ,by simp[Instr.range,zP9 ht,zOM],hr,zNy hR hf _ _,zON _ _,.lref (bi:=⟨w.heap.size,_,_⟩) (by simp[zNx]; exact⟨rfl,rfl⟩),Nat.le_succ _⟩
theorem zMx (hR:Rel lo Tch φ σ T L h a.tmps w){slot id pos:Nat}{s:List UInt8}(hL:L slot=some (.iter id s pos))(hv:RepD φ σ (.lref slot id 0) rv){ty:TypeId}{e:Eff}
  (he:(if pos<s.length then
     let d:=Utf8.decode ⟨s.toArray⟩ pos
     some { v:=.tup [.imm (.bool true),.imm (.int .i64 pos),.imm (.int .i32 d.1)],lw:=[(slot,.iter id s (pos+d.2))],n':=n,acc:=[.wL slot] }
    else some { v:=.tup [.imm (.bool false)],n':=n,acc:=[.rL slot] })=some e):Does P lo Tch φ σ T L h a w n (Instr.next rv true ty) e:=by
 obtain⟨_,bi,g1,g2,g3⟩:=hR.locs _ _ hL
 simp only[LV.id] at g1
 cases hv with
 | lref hbi=>
  rw[hbi] at g1; cases g1
  cases g2 with
  | iter free hh=>
   rename_i q _
   have hlt:=hR.rng _ _ hbi
   have hlen:q.data.toList.length=q.size:=by simp
   have hq:(⟨q.data.toList.toArray⟩:ByteArray)=q:=by cases q; simp
   rw[hlen,hq] at he
   split at he
   ·rename_i hp
    cases he
    have hrun:(Instr.next (.pointer (some ⟨bi.blk,0,none⟩)) true ty).run P w=.ok (.tuple #[.bool true,goInt pos,.int .i32 (Utf8.decode q pos).1]) (setBlock w bi.blk (.stringIter q (pos+(Utf8.decode q pos).2))):=by
     simp[Instr.next,getObj,setObj,Sem.run,hh,hp,setBlock]
    refine⟨_,_,φ,σ,hrun,?_,.refl _ _ _ _ _,Fr.setBlock g3,?_,Nat.le_refl _⟩
    ·exact hR.setL (lv':=.iter id q.data.toList (pos+(Utf8.decode q pos).2)) hL hbi rfl (.iter free (by rw[zQj,if_pos ⟨rfl,hlt⟩]))
    ·refine .tup (vs:=#[.bool true,goInt pos,.int .i32 (Utf8.decode q pos).1]) rfl (fun i c v hc hv=>?_)
     match i,hc,hv with
     | 0,hc,hv=>simp at hc hv; subst hc hv; exact .imm .bool
     | 1,hc,hv=>simp at hc hv; subst hc hv; exact .imm .int
     | 2,hc,hv=>simp at hc hv; subst hc hv; exact .imm .int
     | i+3,hc,hv=>simp at hc
   ·rename_i hp
    cases he
    have hrun:(Instr.next (.pointer (some ⟨bi.blk,0,none⟩)) true ty).run P w=.ok (.tuple #[.bool false]) w:=by
     simp[Instr.next,getObj,Sem.run,hh,hp]
    refine .pure hR hrun (.tup (vs:=#[.bool false]) rfl (fun i c v hc hv=>?_))
    match i,hc,hv with
    | 0,hc,hv=>simp at hc hv; subst hc hv; exact .imm .bool
    | i+1,hc,hv=>simp at hc
end
end Go.PM
end
section
set_option linter.unusedVariables false
set_option linter.unusedSimpArgs false
namespace Go.PM
section
variable {P:Program}{lo:Nat}{Tch:Nat→Prop}{φ:Phi}{σ:Sig}{G:Nat→Option (List IV)}{T:Nat→Option DV}{L:Nat→Option LV}{h:Nat→Option HB}{a:Act}{w:World}{n:Nat}
def zBE (P:Program) (lo:Nat) (Tch:Nat→Prop) (φ:Phi) (σ:Sig) (T:Nat→Option DV) (L:Nat→Option LV) (h:Nat→Option HB) (a:Act) (w:World) (n:Nat) (o:Oper) (e:Eff):Prop:=
 ∃ nx rv w' φ' σ',(execOp a.eval o).run P w=.ok nx w'∧(nx=.value rv∨(nx=.skip∧rv=undef))∧OpOut lo Tch φ σ T L h a.tmps w n e rv w' φ' σ'
variable {e:Eff} {o:Oper}
theorem zM2{s:Sem Value}(hx:(execOp a.eval o).run P w=(s.run P w).andThen fun v w'=>.ok (.value v) w') (hd:Does P lo Tch φ σ T L h a w n s e):zBE P lo Tch φ σ T L h a w n o e:=by
 obtain⟨rv,w',φ',σ',h1,h2⟩:=hd
 exact⟨.value rv,rv,w',φ',σ',by rw[hx,h1]; rfl,.inl rfl,h2⟩
theorem zM3{s:Sem Value}(hx:execOp a.eval o=(s >>= fun v=>Pure.pure (Next.value v))) (hd:Does P lo Tch φ σ T L h a w n s e):zBE P lo Tch φ σ T L h a w n o e:=
 zM2 (by rw[hx,Sem.run_bind]; rfl) hd
variable {rv:Value} {v:DV}
theorem zM5{s:Sem Value}{acc:List Acc}(hR:Rel lo Tch φ σ T L h a.tmps w) (hx:execOp a.eval o=(s >>= fun v=>Pure.pure (Next.value v))) (hs:s.run P w=.ok rv w)
  (hv:RepD φ σ v rv):zBE P lo Tch φ σ T L h a w n o { v,n':=n,acc }:=zM3 hx (.pure hR hs hv)
theorem zM4{acc:List Acc}(hR:Rel lo Tch φ σ T L h a.tmps w) (hx:(execOp a.eval o).run P w=.ok (.value rv) w) (hv:RepD φ σ v rv) :
  zBE P lo Tch φ σ T L h a w n o { v,n':=n,acc }:=⟨.value rv,rv,w,φ,σ,hx,.inl rfl,OpOut.pure hR hv⟩
theorem zIS {v:Option DV}(h:give n v=some e):∃ x,v=some x∧e={ v:=x,n':=n }:=by
 simp only[give,Option.map_eq_some_iff] at h
 obtain⟨x,h1,h2⟩:=h; exact⟨x,h1,h2.symm⟩
theorem zIR {v:Option IV}(h:giveI n v=some e):∃ x,v=some x∧e={ v:=.imm x,n':=n }:=by
 simp only[giveI,Option.map_eq_some_iff] at h
 obtain⟨x,h1,h2⟩:=h; exact⟨x,h1,h2.symm⟩
theorem zND {x:Operand}{i:IV}(hi:i=.nilp∨i=.nils∨i=.nilf∨i=.nili) (hx:zNA x (.k i)=true):∃ v,x=.const v∧zQI v i=true:=by
 unfold zNA at hx
 split at hx <;> rename_i heq <;> first
  | (cases heq; exact⟨_,rfl,hx⟩)
  | cases heq
  | cases hx
theorem zJS {e:ET}{y:Opd}(h:zJR e y=true):∃ i,y=.k i∧(i=.nilp∨i=.nils∨i=.nilf∨i=.nili):=by
 unfold zJR at h
 split at h <;> first | exact⟨_,rfl,by simp⟩ | cases h
theorem zDR (hR:Rel lo Tch φ σ T L h a.tmps w) (hG:GRel σ G){op:BinOp}{t:TypeId}{e:ET}{x y:Operand}{x' y':Opd}(hx:zNA x x'=true) (hy:zNA y y'=true) (het:etOk P t e=true)
  {vx vy:DV}(hvx:ev G T x'=some vx) (hvy:ev G T y'=some vy){r:IV}(hr:zDN op e x' y' vx vy=some r) :
  ∃ rv,(do eqGuard op t x y (a.eval x) (a.eval y); binOp op t (a.eval x) (a.eval y):Sem Value).run P w=.ok rv w∧RepI σ r rv:=by
 have rx:=zHP hR hG hx hvx
 have ry:=zHP hR hG hy hvy
 have plain:∀ {u v:Value},a.eval x=u→a.eval y=v→¬(u=.nilIface∧v=.nilIface)→(∀ xs ys,¬(u=.agg xs∧v=.agg ys))→(∃ rv,(binOp op t u v).run P w=.ok rv w∧RepI σ r rv)→
   ∃ rv,(do eqGuard op t x y (a.eval x) (a.eval y); binOp op t (a.eval x) (a.eval y):Sem Value).run P w=.ok rv w∧RepI σ r rv:=fun {u v} hu hv h1 h2 ⟨rv,h3,h4⟩=>by
  refine⟨rv,?_,h4⟩
  rw[hu,hv]
  simp only[Sem.run_bind,zPn (P:=P) (w:=w) op t x y u v h1 h2,Result.andThen_ok,h3]
 have nilcase:(∀ ks,e≠.st ks)→e≠.sc→e≠.bl→∃ rv,(do eqGuard op t x y (a.eval x) (a.eval y); binOp op t (a.eval x) (a.eval y):Sem Value).run P w=.ok rv w∧RepI σ r rv:=fun h1 h2 h3=>by
  have hr':(∃ b neq,(neq=true↔op=.neq)∧(op=.eql∨op=.neq)∧r=flip neq b∧((zJR e y'=true∧zJQ e vx=some b)∨(zJR e x'=true∧zJQ e vy=some b))):=by
   have aux:∀ neq,(if zJR e y' then (zJQ e vx).map (flip neq) else if zJR e x' then (zJQ e vy).map (flip neq) else none)=some r→
     ∃ b,r=flip neq b∧((zJR e y'=true∧zJQ e vx=some b)∨(zJR e x'=true∧zJQ e vy=some b)):=fun neq hh=>by
    split at hh
    ·rename_i hy'
     simp only[Option.map_eq_some_iff] at hh
     obtain⟨b,q1,q2⟩:=hh
     exact⟨b,q2.symm,.inl ⟨hy',q1⟩⟩
    ·split at hh
     ·rename_i hx'
      simp only[Option.map_eq_some_iff] at hh
      obtain⟨b,q1,q2⟩:=hh
      exact⟨b,q2.symm,.inr ⟨hx',q1⟩⟩
     ·cases hh
   cases e with
   | sc=>exact absurd rfl h2
   | bl=>exact absurd rfl h3
   | st ks=>exact absurd rfl (h1 ks)
   | _=>
    simp only[zDN] at hr
    cases op <;> simp only at hr
    case eql=>obtain⟨b,q1,q2⟩:=aux false hr; exact⟨b,false,by simp,.inl rfl,q1,q2⟩
    case neq=>obtain⟨b,q1,q2⟩:=aux true hr; exact⟨b,true,by simp,.inr rfl,q1,q2⟩
    all_goals cases hr
  obtain⟨b,neq,hneq,hop,rfl,hcase⟩:=hr'
  have fin:∀ {u v:Value},a.eval x=u→a.eval y=v→(eqGuard op t x y u v).run P w=.ok () w→(op=.eql→(binOp .eql t u v).run P w=.ok (.bool b) w)→(op=.neq→(binOp .neq t u v).run P w=.ok (.bool (!b)) w)→
    ∃ rv,(do eqGuard op t x y (a.eval x) (a.eval y); binOp op t (a.eval x) (a.eval y):Sem Value).run P w=.ok rv w∧RepI σ (flip neq b) rv:=fun {u v} hu hv hg q1 q2=>by
   rw[hu,hv]
   rcases hop with rfl | rfl
   ·have:neq=false:=by cases neq; rfl; exact absurd (hneq.1 rfl) (by simp)
    subst this
    exact⟨.bool b,by simp only[Sem.run_bind,hg,Result.andThen_ok,q1 rfl],.bool⟩
   ·have:neq=true:=hneq.2 rfl
    subst this
    exact⟨.bool (!b),by simp only[Sem.run_bind,hg,Result.andThen_ok,q2 rfl],.bool⟩
  rcases hcase with⟨hk,hnil⟩ | ⟨hk,hnil⟩
  ·obtain⟨i,rfl,hi⟩:=zJS hk
   obtain⟨v,rfl,hv⟩:=zND hi hy
   obtain⟨n1,n2,n3,⟨n4,n5⟩,n6,n7⟩:=zMV (P:=P) (w:=w) h1 h2 h3 het hnil rx hk (zQJ (σ:=σ) hv) 0
   exact fin rfl rfl (n3 op x (.const v) (by simp)).1 (fun _=>n4) (fun _=>n6)
  ·obtain⟨i,rfl,hi⟩:=zJS hk
   obtain⟨v,rfl,hv⟩:=zND hi hx
   obtain⟨n1,n2,n3,⟨n4,n5⟩,n6,n7⟩:=zMV (P:=P) (w:=w) h1 h2 h3 het hnil ry hk (zQJ (σ:=σ) hv) 0
   exact fin rfl rfl (n3 op (.const v) y (by simp)).2 (fun _=>n5) (fun _=>n7)
 cases e with
 | sc=>
  unfold zDN at hr
  simp only at hr
  split at hr
  ·rename_i k m k' m'
   have e1:=zOn (zOl rx)
   have e2:=zOn (zOl ry)
   exact plain e1 e2 (by simp) (by simp) (zDQ (x:=x') (y:=y') (by unfold zDN; exact hr))
  ·rename_i s s'
   obtain⟨b1,e1,rfl⟩:=zOo (zOl rx)
   obtain⟨b2,e2,rfl⟩:=zOo (zOl ry)
   exact plain e1 e2 (by simp) (by simp) (zDT (x:=x') (y:=y') (by unfold zDN; exact hr))
  ·cases hr
 | bl=>
  unfold zDN at hr
  simp only at hr
  split at hr
  ·have e1:=zOm (zOl rx)
   have e2:=zOm (zOl ry)
   have hu:P.underlying t=some .bool:=by
    unfold etOk at het; simp only at het
    split at het
    ·assumption
    ·cases het
   exact plain e1 e2 (by simp) (by simp) (zDP (x:=x') (y:=y') hu (by unfold zDN; exact hr))
  ·cases hr
 | st ks=>
  have:∃ xs ys,vx=.agg xs∧vy=.agg ys:=by
   unfold zDN at hr; simp only at hr
   split at hr
   ·exact⟨_,_,rfl,rfl⟩
   ·cases hr
  obtain⟨xs,ys,rfl,rfl⟩:=this
  generalize a.eval x=ux at rx ⊢
  generalize a.eval y=uy at ry ⊢
  cases rx with
  | agg hl1 hr1=>
   cases ry with
   | agg hl2 hr2=>exact zDS het ⟨hl1,hr1⟩ ⟨hl2,hr2⟩ hr x y
 | _=>exact nilcase (by simp) (by simp) (by simp)
theorem zS7 {op:UnOp}(hv:RepD φ σ v rv){r:IV}(hr:unOf op v=some r):∃ ru,(Op.unary op rv).run P w=.ok ru w∧RepI σ r ru:=by
 unfold unOf at hr
 split at hr
 ·have:=zOm (zOl hv); subst this
  split at hr
  ·cases hr; exact⟨_,rfl,.bool⟩
  ·cases hr
 ·have:=zOn (zOl hv); subst this
  split at hr
  ·cases hr; exact⟨_,rfl,.int⟩
  ·cases hr; exact⟨_,rfl,.int⟩
  ·cases hr
 ·cases hr
end
end Go.PM
end
