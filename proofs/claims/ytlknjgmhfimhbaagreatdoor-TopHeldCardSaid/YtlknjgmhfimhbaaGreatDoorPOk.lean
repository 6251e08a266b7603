/-
  flat.Take, the sums: what D knows by what they compute is the program's.
-/
import Derived.Test.YtlknjgmhfimhbaaGreatDoorTake2
import Derived.Test.YtlknjgmhfimhbaaGreatDoorSum
import Derived.Test.YtlknjgmhfimhbaaGreatDoorWire
import Derived.Test.YtlknjgmhfimhbaaGreatDoorLaw
import Derived.Test.YtlknjgmhfimhbaaGreatDoorChecked
set_option linter.unusedVariables false
set_option linter.unusedSimpArgs false
set_option maxRecDepth 100000
namespace Go.Proofs.YtlknjgmhfimhbaaGreatDoor.D
open Go Go.Proofs Go.PM Go.RowKit
attribute [local go_sem] Oper.semAt_some
theorem zM7:fnOk Tryz.prog 177 D.f177=true:=by kernel_rfl
theorem zNG:fnOk Tryz.prog 155 D.f155=true:=by kernel_rfl
theorem zN4 (G:Nat→Option (List IV)):POk Tryz.prog G 177 zN9:=(zH0 zMW (by kernel_rfl) zM7).refine fun args H n lo r h=>zNN G noK args H n lo r h
theorem zN3 (G:Nat→Option (List IV)):POk Tryz.prog G 155 zOC:=(zH0 (zNJ (zN4 G)) (by kernel_rfl) zNG).refine fun args H n lo r h=>zRu G args H n lo r h
theorem zM6:fnOk Tryz.prog 154 D.f154=true:=by kernel_rfl
theorem zN2 (G:Nat→Option (List IV)):POk Tryz.prog G 154 zOA:=(zH0 zMW (by kernel_rfl) zM6).refineG (fun args H n lo v H' n' h hH=>zMu G noK args H n lo v H' n' h hH) zMt
theorem zNH:fnOk Tryz.prog 126 D.f126=true:=by kernel_rfl
theorem zN0 (G:Nat→Option (List IV)):POk Tryz.prog G 126 zOE:=(zH0 zMW (by kernel_rfl) zNH).refine fun args H n lo r h=>zSH G noK args H n lo r h
set_option maxHeartbeats 4000000 in
theorem zSF (F:Fence) (n:Nat) (hT:F.fn 133) (hro:F.round=none) (a:Option Addr) (len cap:Nat) (h4:len % 4≠0) (hl:len≤100000) (w:World) :
  CallsIn F n Tryz.prog 133 #[.slice a len cap] w fun e W'=>e=.returned (.tuple #[.slice none 0 0,.bool false])∧Below w.heap.size w W':=by
 refine callsIn_of_wp Tryz.func133 rfl hT ?_ hro
 simp only[Tryz.ntmps133,List.size_toArray,List.length_cons,List.length_nil,Nat.reduceAdd,Nat.reduceSub,Array.replicate_succ,Array.replicate_zero,List.push_toArray,List.append_toArray,List.nil_append,List.cons_append]
 have hmod:(len:Int).tmod 4=((len % 4:Nat):Int):=by
  rw[Int.tmod_eq_emod_of_nonneg (by omega)]; omega
 have hne:((len % 4:Nat):Int)≠0:=by omega
 generalize len % 4=r at hmod hne
 have hb:((r:Int) != 0)=true:=by simpa using hne
 have bR:=Boxed.new w 47 (.slice none 0 0)
 have bB:=Boxed.new (w.alloc (.cells #[.slice none 0 0] 47)) 4 (.bool false)
 simp only[World.size_alloc] at bB
 have bR:=bR.alloc (.cells #[.bool false] 4)
 have h1:=bR.cell
 have h2:=bR.frozen
 have h3:=bB.cell
 have h4:=bB.frozen
 gi_wp2
 refine bodyPost_ret (res2 rfl rfl bR.cell bB.cell) rfl ?_
 exact⟨rfl,((Below.refl _ w).alloc (Nat.le_refl _) _).alloc (by simp) _⟩
theorem zTm (a b c d:Int) (r:List Int) (k i:Nat):zAt (a::b::c::d::r) (k+1) i=zAt r k i:=by
 unfold zAt
 rw[show 4*(k+1)+i=(4*k+i)+4 by omega]
 rfl
def zPN (zs:List Int) (k:Nat):List IV:=[.int .i64 (zAt zs k 0),.int .i64 (zAt zs k 1),.int .i64 (zAt zs k 2),.bool (zAt zs k 3==1)]
theorem four:∀ (m:Nat) (zs:List Int),zs.length=4*(m+1)→∃ a b c d r,zs=a::b::c::d::r∧r.length=4*m:=fun m zs h=>by
 match zs,h with
 | a::b::c::d::r,h=>exact⟨a,b,c,d,r,rfl,by simp at h; omega⟩
 | [],h=>simp at h
 | [_],h=>simp at h; omega
 | [_,_],h=>simp at h; omega
 | [_,_,_],h=>simp at h; omega
theorem zR4:∀ (m:Nat) (zs:List Int),zs.length=4*m→(∀ k,k<m→okz zs k)→zR2 zs=some ((List.range m).map (zPN zs))
 | 0,zs,h,_=>by
  obtain rfl:zs=[]:=List.eq_nil_of_length_eq_zero (by omega)
  rfl
 | m+1,zs,h,hok=>by
  obtain⟨a,b,c,d,r,rfl,hr⟩:=four m zs h
  have h0:d=0∨d=1:=hok 0 (by omega)
  have ih:=zR4 m r hr (fun k hk=>by
   have:=hok (k+1) (by omega)
   unfold okz at this ⊢
   rwa [zTm] at this)
  rw[List.range_succ_eq_map,List.map_cons,List.map_map]
  simp only[zR2,if_pos h0,ih,Option.map_some,Option.some.injEq,List.cons.injEq]
  refine⟨rfl,?_⟩
  apply List.map_congr_left
  intro k _
  simp only[zPN,Function.comp,Nat.succ_eq_add_one,zTm]
theorem zR3:∀ (m:Nat) (zs:List Int),zs.length=4*m→(∃ k,k<m∧¬okz zs k)→zR2 zs=none
 | 0,zs,h,⟨k,hk,_⟩=>by omega
 | m+1,zs,h,⟨k,hk,hbad⟩=>by
  obtain⟨a,b,c,d,r,rfl,hr⟩:=four m zs h
  by_cases h0:d=0∨d=1
  ·have ih:=zR3 m r hr (by
    cases k with
    | zero=>exact absurd h0 hbad
    | succ k=>
     refine⟨k,by omega,?_⟩
     unfold okz at hbad ⊢
     rwa [zTm] at hbad)
   simp only[zR2,if_pos h0,ih,Option.map_none]
  ·simp only[zR2,if_neg h0]
theorem zHk (zs:List Int):∀ (m i j:Nat),i<m→j<4→((List.range m).flatMap (rowz zs))[i*4+j]?=(rowz zs i)[j]?:=fun m=>by
 have hlen:∀ m,((List.range m).flatMap (rowz zs)).length=m*4:=fun m=>by
  induction m with
  | zero=>rfl
  | succ m ih=>rw[List.range_succ,List.flatMap_append,List.length_append,ih]; simp[rowz]; omega
 induction m with
 | zero=>intro i j h; omega
 | succ m ih=>
  intro i j hi hj
  rw[List.range_succ,List.flatMap_append]
  by_cases h:i<m
  ·rw[List.getElem?_append_left (by rw[hlen]; omega)]
   exact ih i j h hj
  ·obtain rfl:i=m:=by omega
   rw[List.getElem?_append_right (by rw[hlen]; omega),hlen]
   simp
theorem zOr {σ:Sig}{g cap m:Nat}{zs:List Int}{cur:Array Value}{e:TypeId}(hg:σ g=some (.cells cur e (0,0))) (hm:m≤cap) (hs:cur.size=cap*4) (hx:cur.toList.take (m*4)=(List.range m).flatMap (rowz zs)) :
  RepI σ (.lst false 4 ((List.range m).map (zPN zs))) (.slice (some ⟨g,0,none⟩) m cap):=by
 have hcell:∀ i j,i<m→j<4→σ.cell ((⟨g,0,none⟩:Addr).add (i*4+j))=(rowz zs i)[j]?:=fun i j hi hj=>by
  have e1:σ.cell ((⟨g,0,none⟩:Addr).add (i*4+j))=cur[i*4+j]?:=by
   rw[zBz]
   simp[Sig.cell,hg]
  rw[e1,← zHk zs m i j hi hj,← hx,List.getElem?_take,if_pos (by omega)]
  simp
 have:=RepI.lst (σ:=σ) (full:=false) (sz:=4) (es:=(List.range m).map (zPN zs)) (a:=⟨g,0,none⟩) (cap:=cap) (fun i j=>(rowz zs i)[j]?.getD (.bool false)) (by simpa using hm) (fun h=>by cases h)
  (fun e he=>by obtain⟨k,_,rfl⟩:=List.mem_map.1 he; rfl) (fun i j e c he hc=>?_) (fun i j e c he hc=>?_)
 ·simpa using this
 ·rw[List.getElem?_map] at he
  simp only[Option.map_eq_some_iff] at he
  obtain⟨k,hk,rfl⟩:=he
  have hi:i<m:=by have:=(List.getElem?_eq_some_iff.1 hk).1; simpa using this
  obtain rfl:k=i:=by simp[hi] at hk; exact hk.symm
  have hj:j<4:=(List.getElem?_eq_some_iff.1 hc).1
  rw[hcell _ j hi hj]
  match j,hj with
  | 0,_=>exact⟨rfl,rfl⟩
  | 1,_=>exact⟨rfl,rfl⟩
  | 2,_=>exact⟨rfl,rfl⟩
  | 3,_=>exact⟨rfl,rfl⟩
 ·rw[List.getElem?_map] at he
  simp only[Option.map_eq_some_iff] at he
  obtain⟨k,hk,rfl⟩:=he
  have hi:i<m:=by have:=(List.getElem?_eq_some_iff.1 hk).1; simpa using this
  obtain rfl:k=i:=by simp[hi] at hk; exact hk.symm
  have hj:j<4:=(List.getElem?_eq_some_iff.1 hc).1
  match j,hj,hc with
  | 0,_,hc=>cases hc; exact .int
  | 1,_,hc=>cases hc; exact .int
  | 2,_,hc=>cases hc; exact .int
  | 3,_,hc=>cases hc; exact .bool
theorem zPM {r:List DV}{z:Int}(h:zPL r=some z):r=[.imm (.int .i64 z)]:=by
 unfold zPL at h
 split at h
 ·cases h; rfl
 ·cases h
theorem zN1 (G:Nat→Option (List IV)):POk Tryz.prog G 133 zOD:=by
 refine⟨?_,?_,Tryz.f133,Tryz.func133,rfl,by decide⟩
 ·intro args H n lo v H' n' h hlo hlv Tch φ σ w rargs hG hT hR ha hF
  unfold zOD at h
  split at h
  ·rename_i x
   split at h
   ·rename_i src sz rows hrow
    split at h
    ·rename_i zs hzs
     split at h
     ·rename_i hc
      obtain⟨hsz,hlen⟩:=hc
      simp only[Option.some.injEq,Prod.mk.injEq] at h
      obtain⟨rfl,rfl,rfl⟩:=h
      obtain⟨hl1,hl2⟩:=ha
      obtain⟨rv,rfl⟩:∃ rv,rargs=#[rv]:=by
       obtain⟨l⟩:=rargs
       simp at hl1
       obtain⟨y,rfl⟩:=List.length_eq_one_iff.1 hl1.symm
       exact⟨y,rfl⟩
      have hrv:RepD φ σ x rv:=hl2 0 x rv rfl rfl
      obtain⟨m1,m2⟩:=zLs hzs
      have fin:∀ (v:Value) (ok:Bool) (W':World),Below w.heap.size w W'→RepI (Go.PM.sigAll σ w W') (zR6 zs).1 v→ok=(zR6 zs).2→zAF lo Tch φ σ noT noL H.get #[] w n n (.tup [.imm (zR6 zs).1,.imm (.bool (zR6 zs).2)]) (.returned (.tuple #[v,.bool ok])) W':=fun v ok W' hB hv hok=>by
       have hfr:Fr (fun b=>w.heap.size≤b) w W':=⟨hB.os,hB.output,hB.size,fun b hb hn=>hB.block b (by omega)⟩
       obtain⟨z1,z2,z3⟩:=hR.sigAll (n:=n) hfr
       exact⟨φ,_,z1,z2,z3,hok▸tup2 hv⟩
      have main:∀ (ad:Option Addr) (cap:Nat),rv=.slice ad zs.length cap→zs.length≤cap→(zs≠[]→∃ b off,ad=some ⟨b,off,none⟩∧b<w.heap.size∧∀ j,j<zs.length→w.cell? ⟨b,off+j,none⟩=some (.int .i64 (zs[j]?.getD 0)))→
        Calls Tryz.prog 133 #[rv] w (zAF lo Tch φ σ noT noL H.get #[] w n n (.tup [.imm (zR6 zs).1,.imm (.bool (zR6 zs).2)])):=fun ad cap hrv hcap hcells=>by
       subst hrv
       by_cases h4:zs.length % 4=0
       ·obtain⟨m,hm⟩:∃ m,zs.length=4*m:=⟨zs.length / 4,by omega⟩
        have tv:zR6 zs=zSB (zR2 zs):=by unfold zR6; rw[if_neg (by omega)]
        by_cases hm0:m=0
        ·subst hm0
         obtain rfl:zs=[]:=List.eq_nil_of_length_eq_zero (by omega)
         refine (callsIn_wide (n:=3)).1 ((zSD Fence.wide 3 trivial trivial trivial rfl (Nat.le_refl _) [] 0 0 cap 0 ad (fun h=>absurd rfl h) (Nat.zero_le _) (by omega) w (fun h=>absurd rfl h) (fun j hj=>by omega)).mono ?_)
         rintro e W' ⟨v,ok,rfl,hB,⟨rfl,_,_,h0⟩ | ⟨rfl,rfl,k,hk,_⟩⟩
         ·obtain rfl:=h0 rfl
          exact fin _ true W' hB .nils rfl
         ·omega
        ·have hne:zs≠[]:=fun h=>by subst h; simp at hm; omega
         obtain⟨b,off,rfl,hb,hc⟩:=hcells hne
         rw[hm] at hc ⊢
         refine (callsIn_wide (n:=3)).1 ((zSD Fence.wide 3 trivial trivial trivial rfl (Nat.le_refl _) zs b off cap m _ (fun _=>rfl) (by omega) (by omega) w (fun _=>hb) hc).mono ?_)
         rintro e W' ⟨v,ok,rfl,hB,⟨rfl,hok,hrow,_⟩ | ⟨rfl,rfl,hbad⟩⟩
         ·have hti:=zR4 m zs hm hok
          obtain⟨m',rfl⟩:∃ m',m=m'+1:=⟨m - 1,by omega⟩
          have tv':zR6 zs=(.lst false 4 ((List.range (m'+1)).map (zPN zs)),true):=by
           rw[tv,hti,List.range_succ_eq_map,List.map_cons]; rfl
          refine fin v true W' hB ?_ (by rw[tv'])
          rw[tv']
          rcases hrow.2 with⟨_,h0⟩ | ⟨g,cap,cur,rfl,hg,hgb,h1,h2,h3,h4⟩
          ·omega
          ·refine zOr (by unfold Go.PM.sigAll; rw[if_neg (by omega)]; exact hgb) h1 h3 h4
         ·have tv':zR6 zs=(.nils,false):=by rw[tv,zR3 m zs hm hbad]; rfl
          refine fin _ false W' hB ?_ (by rw[tv'])
          rw[tv']; exact .nils
       ·have tv:zR6 zs=(.nils,false):=by unfold zR6; rw[if_pos h4]
        refine (callsIn_wide (n:=3)).1 ((zSF Fence.wide 3 trivial rfl ad zs.length cap h4 hlen w).mono ?_)
        rintro e W' ⟨rfl,hB⟩
        refine fin _ false W' hB ?_ (by rw[tv])
        rw[tv]; exact .nils
      rcases zPX (a:=⟨#[],[]⟩) hR hrv hrow with⟨rfl,rfl,_⟩ | ⟨ad,cap,rfl,hcap,hrl,hcell⟩
      ·obtain rfl:zs=[]:=List.eq_nil_of_length_eq_zero (by simpa using m1)
       exact main none 0 rfl (Nat.le_refl _) (fun h=>absurd rfl h)
      ·refine main (some ad) cap (by rw[m1]) (by omega) (fun hne=>?_)
       have hs1:sz=1:=hsz.resolve_right hne
       subst hs1
       have each:∀ j,j<zs.length→w.cell? (ad.add j)=some (.int .i64 (zs[j]?.getD 0)):=fun j hj=>by
        have hz:zs[j]?=some zs[j]:=List.getElem?_eq_getElem hj
        obtain⟨r,hr,hri⟩:=m2 j _ hz
        have:=zPM hri
        subst this
        obtain⟨cv,q1,q2,q3⟩:=hcell j 0 _ _ hr rfl
        cases q3 with
        | imm hi=>
         cases hi
         rw[hz]
         simpa using q1
       have h0:=each 0 (List.length_pos_iff.2 hne)
       obtain⟨b,off,spot⟩:=ad
       have hspot:spot=none:=by
        cases spot with
        | none=>rfl
        | some s=>
         exfalso
         rw[zB0] at h0
         unfold World.cell? at h0
         split at h0
         ·simp at h0
         ·cases h0
       subst hspot
       refine⟨b,off,rfl,?_,fun j hj=>by have:=each j hj; rwa [zBz] at this⟩
       rw[zBz] at h0
       unfold World.cell? at h0
       cases hb:w.heap[b]? with
       | none=>simp[hb] at h0
       | some o=>exact (Array.getElem?_eq_some_iff.1 hb).1
     ·cases h
    ·cases h
   ·cases h
  ·cases h
 ·intro args H n lo v H' n' h
  unfold zOD at h
  split at h
  ·split at h
   ·split at h
    ·split at h
     ·simp only[Option.some.injEq,Prod.mk.injEq] at h
      obtain⟨_,rfl,rfl⟩:=h
      exact .refl _ _
     ·cases h
    ·cases h
   ·cases h
  ·cases h
end Go.Proofs.YtlknjgmhfimhbaaGreatDoor.D
