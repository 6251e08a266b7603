/-
  flat.Take: the function.
-/
import Derived.Test.YtlknjgmhfimhbaaGreatDoorTake
import Derived.Test.YtlknjgmhfimhbaaGreatDoorOrd2
set_option linter.unusedVariables false
set_option linter.unusedSimpArgs false
namespace Go.Proofs.YtlknjgmhfimhbaaGreatDoor.D
open Go Go.Proofs Go.RowKit Go.Shelf
attribute [local go_sem] Oper.semAt_some
def zAt (zs:List Int) (k i:Nat):Int:=zs[4*k+i]?.getD 0
def okz (zs:List Int) (k:Nat):Prop:=zAt zs k 3=0∨zAt zs k 3=1
def rowz (zs:List Int) (k:Nat):List Value:=[.int .i64 (zAt zs k 0),.int .i64 (zAt zs k 1),.int .i64 (zAt zs k 2),.bool (zAt zs k 3==1)]
theorem zJE:(Tryz.prog.info? 114).map (fun i=>(i.zero,i.size,i.bytes))=some (some (.agg #[.int .i64 0,.int .i64 0,.int .i64 0,.bool false]),4,32):=by kernel_rfl
theorem zMP (W:World) (cs:Array Value) (t:TypeId){l:List Value}(h:l=cs.toList):∀ (j:Nat) u,l[j]?=some u→(W.alloc (.cells cs t)).cell? ((⟨W.heap.size,0,none⟩:Addr).add j)=some u:=fun j u hu=>by
 subst h
 have:=World.alloc_heap_new W (.cells cs t)
 have e:(⟨W.heap.size,0,none⟩:Addr).add j=⟨W.heap.size,j,none⟩:=by
  unfold Addr.add
  split
  ·rename_i h0; rw[show j=0 by simpa using h0]
  ·simp
 rw[e]
 simp only[World.cell?,this]
 simpa using hu
theorem res2 {tmps:Array Value}{W:World}{p q:Addr}{v:Value}{ok:Bool}(h2:tmps[2]?.getD undef=.pointer (some p)) (h3:tmps[3]?.getD undef=.pointer (some q)) (hv:W.cell? p=some v) (ho:W.cell? q=some (.bool ok)) :
  (results Tryz.f133 tmps).run Tryz.prog W=.ok (.tuple #[v,.bool ok]) W:=by
 have e:Tryz.f133.results=#[.cell 2 47,.cell 3 4]:=rfl
 simp only[results,e]
 simp[go_sem,h2,h3,asAddr,loadVar,isAgg,hv,ho]
theorem zPY (zs:List Int) (m:Nat):(List.finRange m).flatMap (fun x=>rowz zs x.1)=(List.range m).flatMap (rowz zs):=by
 have e:(List.finRange m).map (fun x=>x.1)=List.range m:=by
  apply List.ext_getElem
  ·simp
  ·intro i h1 h2
   simp
 rw[← e,List.flatMap_map]
set_option maxRecDepth 100000 in
set_option maxHeartbeats 16000000 in
theorem zSD (F:Fence) (n:Nat) (hT:F.fn 133) (hC:F.fn 158) (hC1:F.fn 178) (hro:F.round=none) (hn:3≤n) (zs:List Int) (b off cap m:Nat) (a:Option Addr) (ha:m≠0→a=some ⟨b,off,none⟩)
  (hcap:4*m≤cap) (hm:4*m≤100000) (w:World) (hb:m≠0→b<w.heap.size) (hz:∀ j,j<4*m→w.cell? ⟨b,off+j,none⟩=some (.int .i64 (zs[j]?.getD 0))) :
  CallsIn F n Tryz.prog 133 #[.slice a (4*m) cap] w fun e W'=>∃ v ok,e=.returned (.tuple #[v,.bool ok])∧Below w.heap.size w W'∧
   ((ok=true∧(∀ k,k<m→okz zs k)∧W'.ownsRow w.heap.size 114 4 v m ((List.range m).flatMap (rowz zs))∧(m=0→v=.slice none 0 0))∨(ok=false∧v=.slice none 0 0∧∃ k,k<m∧¬okz zs k)):=by
 have h1:1≤n:=by omega
 obtain⟨i0,hi,hz0,hz1,hz2⟩:=info_parts zJE
 refine callsIn_of_wp_marks Tryz.func133 rfl hT ?_ hro
 simp only[Tryz.ntmps133,List.size_toArray,List.length_cons,List.length_nil,Nat.reduceAdd,Nat.reduceSub,Array.replicate_succ,Array.replicate_zero,List.push_toArray,List.append_toArray,List.nil_append,List.cons_append]
 have hmod:((4*m:Nat):Int).tmod 4=0:=by
  rw[Int.tmod_eq_emod_of_nonneg (by omega)]; omega
 gi_wp2_with (gi_at_call 158; refine (zEP F (n - 1) hC hro _ _ _ _).mono ?_; rintro e w' ⟨rfl,rfl⟩)
 have bR:=Boxed.new w 47 (.slice none 0 0)
 have bB:=Boxed.new (w.alloc (.cells #[.slice none 0 0] 47)) 4 (.bool false)
 have bL:=Boxed.new ((w.alloc (.cells #[.slice none 0 0] 47)).alloc (.cells #[.bool false] 4)) 47 (.slice none 0 0)
 have bS:=Boxed.new (((w.alloc (.cells #[.slice none 0 0] 47)).alloc (.cells #[.bool false] 4)).alloc (.cells #[.slice none 0 0] 47)) 37 (.slice a (4*m) cap)
 have bN:=Boxed.new ((((w.alloc (.cells #[.slice none 0 0] 47)).alloc (.cells #[.bool false] 4)).alloc (.cells #[.slice none 0 0] 47)).alloc (.cells #[.slice a (4*m) cap] 37)) 3 (.int .i64 4)
 simp only[World.size_alloc] at bR bB bL bS bN
 have hB0:Below w.heap.size w (((((w.alloc (.cells #[.slice none 0 0] 47)).alloc (.cells #[.bool false] 4)).alloc (.cells #[.slice none 0 0] 47)).alloc (.cells #[.slice a (4*m) cap] 37)).alloc (.cells #[.int .i64 4] 3)):=
  (((((Below.refl _ w).alloc (Nat.le_refl _) _).alloc (by simp) _).alloc (by simp; omega) _).alloc (by simp; omega) _).alloc (by simp; omega) _
 have bR:=(((bR.alloc (.cells #[.bool false] 4)).alloc (.cells #[.slice none 0 0] 47)).alloc (.cells #[.slice a (4*m) cap] 37)).alloc (.cells #[.int .i64 4] 3)
 have bB:=((bB.alloc (.cells #[.slice none 0 0] 47)).alloc (.cells #[.slice a (4*m) cap] 37)).alloc (.cells #[.int .i64 4] 3)
 have bL:=(bL.alloc (.cells #[.slice a (4*m) cap] 37)).alloc (.cells #[.int .i64 4] 3)
 have bS:=bS.alloc (.cells #[.int .i64 4] 3)
 have hsz:(((((w.alloc (.cells #[.slice none 0 0] 47)).alloc (.cells #[.bool false] 4)).alloc (.cells #[.slice none 0 0] 47)).alloc (.cells #[.slice a (4*m) cap] 37)).alloc (.cells #[.int .i64 4] 3)).heap.size=w.heap.size+5:=by simp
 generalize (((((w.alloc (.cells #[.slice none 0 0] 47)).alloc (.cells #[.bool false] 4)).alloc (.cells #[.slice none 0 0] 47)).alloc (.cells #[.slice a (4*m) cap] 37)).alloc (.cells #[.int .i64 4] 3))=W0 at *
 refine wpIn_rangeFunc_ownG hro h1 (gf:=178) (lb:=#[.pointer (some ⟨w.heap.size+1+1+1,0,none⟩),.pointer (some ⟨w.heap.size+1+1+1+1,0,none⟩)]) rfl hC1 (enters_of Tryz.func178 (by kernel_rfl) rfl)
  (zEQ F (n - 1) hC1 hro (by omega) (w.heap.size+1+1+1) (w.heap.size+1+1+1+1) w.heap.size b off cap m a ha hcap hm W0 bS bN) KpC.trans (KpC.put (by omega) (by omega) (by omega)) (Below.refl _ _) (fun _=>rfl)
  (fun pre W=>((((∃ v,Boxed W (w.heap.size+1+1) 47 v∧W.ownsRow w.heap.size 114 4 v pre.length (pre.flatMap fun x=>rowz zs x.1)∧(∀ x∈pre,okz zs x.1)∧(pre=[]→v=.slice none 0 0))∧Boxed W w.heap.size 47 (.slice none 0 0))∧Boxed W (w.heap.size+1) 4 (.bool false))∧
   (Boxed W (w.heap.size+1+1+1) 37 (.slice a (4*m) cap)∧Boxed W (w.heap.size+1+1+1+1) 3 (.int .i64 4)))∧Below w.heap.size w W)
  (fun c pre W=>((Boxed W w.heap.size 47 (.slice none 0 0)∧Boxed W (w.heap.size+1) 4 (.bool false))∧(c=.ret∧∃ k,k<m∧¬okz zs k))∧Below w.heap.size w W)
  ?hI ?hIx
  ⟨⟨⟨⟨⟨_,bL,World.ownsRow_nil _ _ _ _,by simp,fun _=>rfl⟩,bR⟩,bB⟩,bS,bN⟩,hB0⟩
  (fun x=>{ tmps:=#[.slice a (4*m) cap,undef,.pointer (some ⟨w.heap.size,0,none⟩),.pointer (some ⟨w.heap.size+1,0,none⟩),.pointer (some ⟨w.heap.size+1+1,0,none⟩),.slice (some ⟨b,off+4*x.1,none⟩) 4 4,.slice a (4*m) cap,.int .i64 (4*(m:Int)),.int .i64 0,.bool false,.slice a (4*m) cap,
   .func (.func 178) #[] #[.pointer (some ⟨w.heap.size+1+1+1,0,none⟩),.pointer (some ⟨w.heap.size+1+1+1+1,0,none⟩)],.slice (some ⟨b,off+4*x.1,none⟩) 4 4,undef,undef,undef,undef,undef,undef,undef,undef,undef,undef,undef,undef,undef,undef,undef,undef,undef,undef,undef,undef,undef,undef,undef,undef,undef,undef,undef,undef],defers:=[] }) ?assign ?body ?done ?stop
 case hI=>
  refine OwnFrom.and (Own.from ?_ _) (ownFrom_below (Nat.le_refl _) (by omega))
  rintro s X Y row ⟨⟨⟨hv,h1⟩,h2⟩,h3,h4⟩ hg hr
  exact⟨⟨⟨holdsRow_own w.heap.size (w.heap.size+1+1) 47 114 4 (fun pre:List (Fin m)=>pre.length) (fun pre=>pre.flatMap fun x=>rowz zs x.1) (fun pre v=>(∀ x∈pre,okz zs x.1)∧(pre=[]→v=.slice none 0 0)) s X Y row hv hg hr,boxed_own _ _ (fun _:Unit=>Value.slice none 0 0) () X Y row h1 hg hr⟩,
   boxed_own _ _ (fun _:Unit=>Value.bool false) () X Y row h2 hg hr⟩,boxed_own _ _ (fun _:Unit=>Value.slice a (4*m) cap) () X Y row h3 hg hr,boxed_own _ _ (fun _:Unit=>Value.int .i64 4) () X Y row h4 hg hr⟩
 case hIx=>
  intro c
  refine OwnFrom.and (Own.from ?_ _) (ownFrom_below (Nat.le_refl _) (by omega))
  rintro s X Y row ⟨⟨h1,h2⟩,h3⟩ hg hr
  exact⟨⟨boxed_own _ _ (fun _:Unit=>Value.slice none 0 0) () X Y row h1 hg hr,boxed_own _ _ (fun _:Unit=>Value.bool false) () X Y row h2 hg hr⟩,h3⟩
 case assign=>
  intro l x W K hK
  gi_wp2
  exact hK
 case body=>
  rintro l pre x W ⟨⟨⟨⟨⟨v,hv,hrow,hok,hnil⟩,hR⟩,hBo⟩,hS,hN⟩,hB⟩ hlt
  have hx:=x.2
  obtain rfl:=ha (by omega)
  have hcell:∀ i,i<4→W.cell? ⟨b,off+(4*x.1+i),none⟩=some (.int .i64 (zAt zs x.1 i)):=fun i hi=>(hB.cell (p:=⟨b,off+(4*x.1+i),none⟩) (hb (by omega))).trans (hz _ (by omega))
  have hc0:W.cell? ⟨b,off+4*x.1,none⟩=some (.int .i64 (zAt zs x.1 0)):=hcell 0 (by omega)
  have hc1:W.cell? ⟨b,off+4*x.1+1,none⟩=some (.int .i64 (zAt zs x.1 1)):=hcell 1 (by omega)
  have hc2:W.cell? ⟨b,off+4*x.1+2,none⟩=some (.int .i64 (zAt zs x.1 2)):=hcell 2 (by omega)
  have hc3:W.cell? ⟨b,off+4*x.1+3,none⟩=some (.int .i64 (zAt zs x.1 3)):=hcell 3 (by omega)
  have hvc:=hv.cell
  have hrc:=hR.cell
  have hrf:=hR.frozen
  have hbc:=hBo.cell
  have hbf:=hBo.frozen
  by_cases hx0:zAt zs x.1 3=0
  ·have hokx:okz zs x.1:=.inl hx0
   rw[hx0] at hc3
   gi_wp2
   rw[← hx0] at hc3
   refine wpIn_region_any (by kernel_rfl) ?_
   refine Go.PM.take_at (i:=10) (v:=.slice (some ⟨b,off+4*x.1,none⟩) 4 4) [11,12,13,14,15,16,17] rfl (fun _ h=>by cases h) (by kernel_rfl) (by kernel_rfl) (by kernel_rfl) (by kernel_rfl) rfl (fun _ _ _ h=>h) rfl ?_ rfl ?_
   ·go_simp
   simp only[List.setIfInBounds_toArray,List.set_cons_succ,List.set_cons_zero]
   refine Go.PM.take_at (i:=11) (v:=.pointer (some ⟨b,off+4*x.1+3,none⟩)) [12,13,14,15,16,17] rfl (fun _ h=>by cases h) (by kernel_rfl) (by kernel_rfl) (by kernel_rfl) (by kernel_rfl) rfl (fun _ _ _ h=>h) rfl ?_ rfl ?_
   ·go_simp
   simp only[List.setIfInBounds_toArray,List.set_cons_succ,List.set_cons_zero]
   refine Go.PM.take_at (i:=12) (v:=.int .i64 (zAt zs x.1 3)) [13,14,15,16,17] rfl (fun _ h=>by cases h) (by kernel_rfl) (by kernel_rfl) (by kernel_rfl) (by kernel_rfl) rfl (fun _ _ _ h=>h) rfl ?_ rfl ?_
   ·go_simp
   simp only[List.setIfInBounds_toArray,List.set_cons_succ,List.set_cons_zero]
   refine Go.PM.take_at (i:=13) (v:=.bool (zAt zs x.1 3==1)) [14,15,16,17] rfl (fun _ h=>by cases h) (by kernel_rfl) (by kernel_rfl) (by kernel_rfl) (by kernel_rfl) rfl (fun _ _ _ h=>h) rfl ?_ rfl ?_
   ·go_simp
   simp only[List.setIfInBounds_toArray,List.set_cons_succ,List.set_cons_zero]
   refine Go.PM.take_at (i:=7) (v:=.slice (some ⟨b,off+4*x.1,none⟩) 4 4) [8,9,14,15,16,17] rfl (fun _ h=>by cases h) (by kernel_rfl) (by kernel_rfl) (by kernel_rfl) (by kernel_rfl) rfl (fun _ _ _ h=>h) rfl ?_ rfl ?_
   ·go_simp
   simp only[List.setIfInBounds_toArray,List.set_cons_succ,List.set_cons_zero]
   refine Go.PM.take_at (i:=8) (v:=.pointer (some ⟨b,off+4*x.1+2,none⟩)) [9,14,15,16,17] rfl (fun _ h=>by cases h) (by kernel_rfl) (by kernel_rfl) (by kernel_rfl) (by kernel_rfl) rfl (fun _ _ _ h=>h) rfl ?_ rfl ?_
   ·go_simp
   simp only[List.setIfInBounds_toArray,List.set_cons_succ,List.set_cons_zero]
   refine Go.PM.take_at (i:=9) (v:=.int .i64 (zAt zs x.1 2)) [14,15,16,17] rfl (fun _ h=>by cases h) (by kernel_rfl) (by kernel_rfl) (by kernel_rfl) (by kernel_rfl) rfl (fun _ _ _ h=>h) rfl ?_ rfl ?_
   ·go_simp
   simp only[List.setIfInBounds_toArray,List.set_cons_succ,List.set_cons_zero]
   refine Go.PM.take_at (i:=4) (v:=.slice (some ⟨b,off+4*x.1,none⟩) 4 4) [5,6,14,15,16,17] rfl (fun _ h=>by cases h) (by kernel_rfl) (by kernel_rfl) (by kernel_rfl) (by kernel_rfl) rfl (fun _ _ _ h=>h) rfl ?_ rfl ?_
   ·go_simp
   simp only[List.setIfInBounds_toArray,List.set_cons_succ,List.set_cons_zero]
   refine Go.PM.take_at (i:=5) (v:=.pointer (some ⟨b,off+4*x.1+1,none⟩)) [6,14,15,16,17] rfl (fun _ h=>by cases h) (by kernel_rfl) (by kernel_rfl) (by kernel_rfl) (by kernel_rfl) rfl (fun _ _ _ h=>h) rfl ?_ rfl ?_
   ·go_simp
   simp only[List.setIfInBounds_toArray,List.set_cons_succ,List.set_cons_zero]
   refine Go.PM.take_at (i:=6) (v:=.int .i64 (zAt zs x.1 1)) [14,15,16,17] rfl (fun _ h=>by cases h) (by kernel_rfl) (by kernel_rfl) (by kernel_rfl) (by kernel_rfl) rfl (fun _ _ _ h=>h) rfl ?_ rfl ?_
   ·go_simp
   simp only[List.setIfInBounds_toArray,List.set_cons_succ,List.set_cons_zero]
   refine Go.PM.take_at (i:=1) (v:=.slice (some ⟨b,off+4*x.1,none⟩) 4 4) [2,3,14,15,16,17] rfl (fun _ h=>by cases h) (by kernel_rfl) (by kernel_rfl) (by kernel_rfl) (by kernel_rfl) rfl (fun _ _ _ h=>h) rfl ?_ rfl ?_
   ·go_simp
   simp only[List.setIfInBounds_toArray,List.set_cons_succ,List.set_cons_zero]
   refine Go.PM.take_at (i:=2) (v:=.pointer (some ⟨b,off+4*x.1,none⟩)) [3,14,15,16,17] rfl (fun _ h=>by cases h) (by kernel_rfl) (by kernel_rfl) (by kernel_rfl) (by kernel_rfl) rfl (fun _ _ _ h=>h) rfl ?_ rfl ?_
   ·go_simp
   simp only[List.setIfInBounds_toArray,List.set_cons_succ,List.set_cons_zero]
   refine Go.PM.take_at (i:=3) (v:=.int .i64 (zAt zs x.1 0)) [14,15,16,17] rfl (fun _ h=>by cases h) (by kernel_rfl) (by kernel_rfl) (by kernel_rfl) (by kernel_rfl) rfl (fun _ _ _ h=>h) rfl ?_ rfl ?_
   ·go_simp
   simp only[List.setIfInBounds_toArray,List.set_cons_succ,List.set_cons_zero]
   refine Go.PM.take_at (i:=14) (v:=.agg #[.int .i64 (zAt zs x.1 0),.int .i64 (zAt zs x.1 1),.int .i64 (zAt zs x.1 2),.bool (zAt zs x.1 3==1)]) [15,16,17] rfl (fun _ h=>by cases h) (by kernel_rfl) (by kernel_rfl) (by kernel_rfl) (by kernel_rfl) rfl (fun _ _ _ h=>h) rfl ?_ rfl ?_
   ·go_simp
   simp only[List.setIfInBounds_toArray,List.set_cons_succ,List.set_cons_zero]
   change wpAnyIn _ _ _ _ _ _ _ _ _ W.drew
   obtain⟨Wd,hWd⟩:∃ Wd,W.drew=Wd:=⟨_,rfl⟩
   have hvd:Boxed Wd (w.heap.size+1+1) 47 v:=hWd▸hv
   have hrowd:Wd.ownsRow w.heap.size 114 4 v pre.length (pre.flatMap fun x=>rowz zs x.1):=hWd▸hrow
   have hSd:Boxed Wd (w.heap.size+1+1+1) 37 (.slice (some ⟨b,off,none⟩) (4*m) cap):=hWd▸hS
   have hNd:Boxed Wd (w.heap.size+1+1+1+1) 3 (.int .i64 4):=hWd▸hN
   have hRd:Boxed Wd w.heap.size 47 (.slice none 0 0):=hWd▸hR
   have hBd:Boxed Wd (w.heap.size+1) 4 (.bool false):=hWd▸hBo
   have hkd:KeepsOthers W Wd:=hWd▸KeepsOthers.drew W
   have hbd:Below w.heap.size W Wd:=hWd▸(Below.refl _ _).drew
   have hszd:w.heap.size+5≤Wd.heap.size:=by have:=hNd.lt; omega
   have hlp:pre.length≤100000:=by omega
   obtain⟨v',w1,hrun,hown',hgrow,_⟩:=run_append_own (P:=Tryz.prog) (w:=Wd.alloc (.cells #[.int .i64 (zAt zs x.1 0),.int .i64 (zAt zs x.1 1),.int .i64 (zAt zs x.1 2),.bool (zAt zs x.1 3==1)] 114)) w.heap.size 47 47 114 i0 _ 4 32 Tryz.underlying47 hi hz0 hz1 hz2 rfl (by decide)
    v pre.length _ (hrowd.alloc _) ⟨Wd.heap.size,0,none⟩ 1 1 (rowz zs x.1) rfl (zMP _ _ _ rfl) (by simp[rowz,Value.oneCell']) (by simp only[maxLen]; omega) (by omega) (by simp; omega)
   obtain⟨g',cap',rfl⟩:=ownsRow_succ hown'
   obtain⟨hv1,hv2,hr2,hk2,hb2⟩:=hvd.appended (by decide) hrowd (by omega) (by omega) hown' hgrow
   have hvdc:=hvd.cell
   have hvc1:=hv1.cell
   have hvf1:=hv1.frozen
   have kept:∀ {B:Nat}{t:TypeId}{u:Value},Boxed Wd B t u→t≠114→B≠w.heap.size+1+1→Boxed (w1.setCell ⟨w.heap.size+1+1,0,none⟩ (.slice (some ⟨g',0,none⟩) (pre.length+1) cap')) B t u:=fun h ht hne=>((h.alloc _).kept hgrow (h.not_row ht hrowd)).other hne _
   rw[hWd]
   refine Go.PM.next_two (i:=0) (j:=15) (by kernel_rfl) ?_ ?_
   ·refine Go.PM.op_to (v:=v) (w':=Wd) rfl (fun _ h=>by cases h) rfl rfl ?_ rfl ?_
    ·go_simp
    simp only[List.setIfInBounds_toArray,List.set_cons_succ,List.set_cons_zero]
    refine Go.PM.next_op (i:=15) (by kernel_rfl) ?_
    refine Go.PM.op_to (v:=.slice (some ⟨Wd.heap.size,0,none⟩) 1 1) (w':=Wd.alloc (.cells #[.int .i64 (zAt zs x.1 0),.int .i64 (zAt zs x.1 1),.int .i64 (zAt zs x.1 2),.bool (zAt zs x.1 3==1)] 114)) rfl (fun _ h=>by cases h) rfl rfl ?_ rfl ?_
    ·go_simp
    simp only[List.setIfInBounds_toArray,List.set_cons_succ,List.set_cons_zero]
    refine Go.PM.next_op (i:=16) (by kernel_rfl) ?_
    refine Go.PM.op_to (v:=.slice (some ⟨g',0,none⟩) (pre.length+1) cap') (w':=w1) rfl (fun _ h=>by cases h) rfl rfl ?_ rfl ?_
    ·simp[execOp,resolve,invoke,builtin,hrun,Result.andThen,Act.eval]
    simp only[List.setIfInBounds_toArray,List.set_cons_succ,List.set_cons_zero]
    refine Go.PM.next_op (i:=17) (by kernel_rfl) ?_
    refine Go.PM.op_skip (w':=w1.setCell ⟨w.heap.size+1+1,0,none⟩ (.slice (some ⟨g',0,none⟩) (pre.length+1) cap')) rfl (fun _ h=>by cases h) rfl rfl ?_ rfl ?_
    ·go_simp
    exact wpAnyIn_done (by kernel_rfl) ⟨(hkd.trans hk2).from _,⟨hbd.trans hb2,(kept hSd (by decide) (by omega)).trans hS.symm,(kept hNd (by decide) (by omega)).trans hN.symm⟩,⟨⟨⟨⟨_,hv2,by simpa [List.flatMap_append] using hr2,fun y hy=>(List.mem_append.1 hy).elim (hok y) (fun h=>by obtain rfl:=List.mem_singleton.1 h; exact hokx),fun h=>by simp at h⟩,kept hRd (by decide) (by omega)⟩,kept hBd (by decide) (by omega)⟩,kept hSd (by decide) (by omega),kept hNd (by decide) (by omega)⟩,hB.trans (hbd.trans hb2)⟩ _
   ·refine Go.PM.op_to (v:=.slice (some ⟨Wd.heap.size,0,none⟩) 1 1) (w':=Wd.alloc (.cells #[.int .i64 (zAt zs x.1 0),.int .i64 (zAt zs x.1 1),.int .i64 (zAt zs x.1 2),.bool (zAt zs x.1 3==1)] 114)) rfl (fun _ h=>by cases h) rfl rfl ?_ rfl ?_
    ·go_simp
    simp only[List.setIfInBounds_toArray,List.set_cons_succ,List.set_cons_zero]
    refine Go.PM.next_op (i:=0) (by kernel_rfl) ?_
    have hvdc2:∀ o:Obj,(Wd.alloc o).cell? ⟨w.heap.size+1+1,0,none⟩=some v:=fun o=>(hvd.alloc o).cell
    refine Go.PM.op_to (v:=v) (w':=Wd.alloc (.cells #[.int .i64 (zAt zs x.1 0),.int .i64 (zAt zs x.1 1),.int .i64 (zAt zs x.1 2),.bool (zAt zs x.1 3==1)] 114)) rfl (fun _ h=>by cases h) rfl rfl ?_ rfl ?_
    ·go_simp
    simp only[List.setIfInBounds_toArray,List.set_cons_succ,List.set_cons_zero]
    refine Go.PM.next_op (i:=16) (by kernel_rfl) ?_
    refine Go.PM.op_to (v:=.slice (some ⟨g',0,none⟩) (pre.length+1) cap') (w':=w1) rfl (fun _ h=>by cases h) rfl rfl ?_ rfl ?_
    ·simp[execOp,resolve,invoke,builtin,hrun,Result.andThen,Act.eval]
    simp only[List.setIfInBounds_toArray,List.set_cons_succ,List.set_cons_zero]
    refine Go.PM.next_op (i:=17) (by kernel_rfl) ?_
    refine Go.PM.op_skip (w':=w1.setCell ⟨w.heap.size+1+1,0,none⟩ (.slice (some ⟨g',0,none⟩) (pre.length+1) cap')) rfl (fun _ h=>by cases h) rfl rfl ?_ rfl ?_
    ·go_simp
    exact wpAnyIn_done (by kernel_rfl) ⟨(hkd.trans hk2).from _,⟨hbd.trans hb2,(kept hSd (by decide) (by omega)).trans hS.symm,(kept hNd (by decide) (by omega)).trans hN.symm⟩,⟨⟨⟨⟨_,hv2,by simpa [List.flatMap_append] using hr2,fun y hy=>(List.mem_append.1 hy).elim (hok y) (fun h=>by obtain rfl:=List.mem_singleton.1 h; exact hokx),fun h=>by simp at h⟩,kept hRd (by decide) (by omega)⟩,kept hBd (by decide) (by omega)⟩,kept hSd (by decide) (by omega),kept hNd (by decide) (by omega)⟩,hB.trans (hbd.trans hb2)⟩ _
  ·by_cases hx1:zAt zs x.1 3=1
   ·have hokx:okz zs x.1:=.inr hx1
    rw[hx1] at hc3
    gi_wp2
    rw[← hx1] at hc3
    refine wpIn_region_any (by kernel_rfl) ?_
    refine Go.PM.take_at (i:=10) (v:=.slice (some ⟨b,off+4*x.1,none⟩) 4 4) [11,12,13,14,15,16,17] rfl (fun _ h=>by cases h) (by kernel_rfl) (by kernel_rfl) (by kernel_rfl) (by kernel_rfl) rfl (fun _ _ _ h=>h) rfl ?_ rfl ?_
    ·go_simp
    simp only[List.setIfInBounds_toArray,List.set_cons_succ,List.set_cons_zero]
    refine Go.PM.take_at (i:=11) (v:=.pointer (some ⟨b,off+4*x.1+3,none⟩)) [12,13,14,15,16,17] rfl (fun _ h=>by cases h) (by kernel_rfl) (by kernel_rfl) (by kernel_rfl) (by kernel_rfl) rfl (fun _ _ _ h=>h) rfl ?_ rfl ?_
    ·go_simp
    simp only[List.setIfInBounds_toArray,List.set_cons_succ,List.set_cons_zero]
    refine Go.PM.take_at (i:=12) (v:=.int .i64 (zAt zs x.1 3)) [13,14,15,16,17] rfl (fun _ h=>by cases h) (by kernel_rfl) (by kernel_rfl) (by kernel_rfl) (by kernel_rfl) rfl (fun _ _ _ h=>h) rfl ?_ rfl ?_
    ·go_simp
    simp only[List.setIfInBounds_toArray,List.set_cons_succ,List.set_cons_zero]
    refine Go.PM.take_at (i:=13) (v:=.bool (zAt zs x.1 3==1)) [14,15,16,17] rfl (fun _ h=>by cases h) (by kernel_rfl) (by kernel_rfl) (by kernel_rfl) (by kernel_rfl) rfl (fun _ _ _ h=>h) rfl ?_ rfl ?_
    ·go_simp
    simp only[List.setIfInBounds_toArray,List.set_cons_succ,List.set_cons_zero]
    refine Go.PM.take_at (i:=7) (v:=.slice (some ⟨b,off+4*x.1,none⟩) 4 4) [8,9,14,15,16,17] rfl (fun _ h=>by cases h) (by kernel_rfl) (by kernel_rfl) (by kernel_rfl) (by kernel_rfl) rfl (fun _ _ _ h=>h) rfl ?_ rfl ?_
    ·go_simp
    simp only[List.setIfInBounds_toArray,List.set_cons_succ,List.set_cons_zero]
    refine Go.PM.take_at (i:=8) (v:=.pointer (some ⟨b,off+4*x.1+2,none⟩)) [9,14,15,16,17] rfl (fun _ h=>by cases h) (by kernel_rfl) (by kernel_rfl) (by kernel_rfl) (by kernel_rfl) rfl (fun _ _ _ h=>h) rfl ?_ rfl ?_
    ·go_simp
    simp only[List.setIfInBounds_toArray,List.set_cons_succ,List.set_cons_zero]
    refine Go.PM.take_at (i:=9) (v:=.int .i64 (zAt zs x.1 2)) [14,15,16,17] rfl (fun _ h=>by cases h) (by kernel_rfl) (by kernel_rfl) (by kernel_rfl) (by kernel_rfl) rfl (fun _ _ _ h=>h) rfl ?_ rfl ?_
    ·go_simp
    simp only[List.setIfInBounds_toArray,List.set_cons_succ,List.set_cons_zero]
    refine Go.PM.take_at (i:=4) (v:=.slice (some ⟨b,off+4*x.1,none⟩) 4 4) [5,6,14,15,16,17] rfl (fun _ h=>by cases h) (by kernel_rfl) (by kernel_rfl) (by kernel_rfl) (by kernel_rfl) rfl (fun _ _ _ h=>h) rfl ?_ rfl ?_
    ·go_simp
    simp only[List.setIfInBounds_toArray,List.set_cons_succ,List.set_cons_zero]
    refine Go.PM.take_at (i:=5) (v:=.pointer (some ⟨b,off+4*x.1+1,none⟩)) [6,14,15,16,17] rfl (fun _ h=>by cases h) (by kernel_rfl) (by kernel_rfl) (by kernel_rfl) (by kernel_rfl) rfl (fun _ _ _ h=>h) rfl ?_ rfl ?_
    ·go_simp
    simp only[List.setIfInBounds_toArray,List.set_cons_succ,List.set_cons_zero]
    refine Go.PM.take_at (i:=6) (v:=.int .i64 (zAt zs x.1 1)) [14,15,16,17] rfl (fun _ h=>by cases h) (by kernel_rfl) (by kernel_rfl) (by kernel_rfl) (by kernel_rfl) rfl (fun _ _ _ h=>h) rfl ?_ rfl ?_
    ·go_simp
    simp only[List.setIfInBounds_toArray,List.set_cons_succ,List.set_cons_zero]
    refine Go.PM.take_at (i:=1) (v:=.slice (some ⟨b,off+4*x.1,none⟩) 4 4) [2,3,14,15,16,17] rfl (fun _ h=>by cases h) (by kernel_rfl) (by kernel_rfl) (by kernel_rfl) (by kernel_rfl) rfl (fun _ _ _ h=>h) rfl ?_ rfl ?_
    ·go_simp
    simp only[List.setIfInBounds_toArray,List.set_cons_succ,List.set_cons_zero]
    refine Go.PM.take_at (i:=2) (v:=.pointer (some ⟨b,off+4*x.1,none⟩)) [3,14,15,16,17] rfl (fun _ h=>by cases h) (by kernel_rfl) (by kernel_rfl) (by kernel_rfl) (by kernel_rfl) rfl (fun _ _ _ h=>h) rfl ?_ rfl ?_
    ·go_simp
    simp only[List.setIfInBounds_toArray,List.set_cons_succ,List.set_cons_zero]
    refine Go.PM.take_at (i:=3) (v:=.int .i64 (zAt zs x.1 0)) [14,15,16,17] rfl (fun _ h=>by cases h) (by kernel_rfl) (by kernel_rfl) (by kernel_rfl) (by kernel_rfl) rfl (fun _ _ _ h=>h) rfl ?_ rfl ?_
    ·go_simp
    simp only[List.setIfInBounds_toArray,List.set_cons_succ,List.set_cons_zero]
    refine Go.PM.take_at (i:=14) (v:=.agg #[.int .i64 (zAt zs x.1 0),.int .i64 (zAt zs x.1 1),.int .i64 (zAt zs x.1 2),.bool (zAt zs x.1 3==1)]) [15,16,17] rfl (fun _ h=>by cases h) (by kernel_rfl) (by kernel_rfl) (by kernel_rfl) (by kernel_rfl) rfl (fun _ _ _ h=>h) rfl ?_ rfl ?_
    ·go_simp
    simp only[List.setIfInBounds_toArray,List.set_cons_succ,List.set_cons_zero]
    change wpAnyIn _ _ _ _ _ _ _ _ _ W.drew
    obtain⟨Wd,hWd⟩:∃ Wd,W.drew=Wd:=⟨_,rfl⟩
    have hvd:Boxed Wd (w.heap.size+1+1) 47 v:=hWd▸hv
    have hrowd:Wd.ownsRow w.heap.size 114 4 v pre.length (pre.flatMap fun x=>rowz zs x.1):=hWd▸hrow
    have hSd:Boxed Wd (w.heap.size+1+1+1) 37 (.slice (some ⟨b,off,none⟩) (4*m) cap):=hWd▸hS
    have hNd:Boxed Wd (w.heap.size+1+1+1+1) 3 (.int .i64 4):=hWd▸hN
    have hRd:Boxed Wd w.heap.size 47 (.slice none 0 0):=hWd▸hR
    have hBd:Boxed Wd (w.heap.size+1) 4 (.bool false):=hWd▸hBo
    have hkd:KeepsOthers W Wd:=hWd▸KeepsOthers.drew W
    have hbd:Below w.heap.size W Wd:=hWd▸(Below.refl _ _).drew
    have hszd:w.heap.size+5≤Wd.heap.size:=by have:=hNd.lt; omega
    have hlp:pre.length≤100000:=by omega
    obtain⟨v',w1,hrun,hown',hgrow,_⟩:=run_append_own (P:=Tryz.prog) (w:=Wd.alloc (.cells #[.int .i64 (zAt zs x.1 0),.int .i64 (zAt zs x.1 1),.int .i64 (zAt zs x.1 2),.bool (zAt zs x.1 3==1)] 114)) w.heap.size 47 47 114 i0 _ 4 32 Tryz.underlying47 hi hz0 hz1 hz2 rfl (by decide)
     v pre.length _ (hrowd.alloc _) ⟨Wd.heap.size,0,none⟩ 1 1 (rowz zs x.1) rfl (zMP _ _ _ rfl) (by simp[rowz,Value.oneCell']) (by simp only[maxLen]; omega) (by omega) (by simp; omega)
    obtain⟨g',cap',rfl⟩:=ownsRow_succ hown'
    obtain⟨hv1,hv2,hr2,hk2,hb2⟩:=hvd.appended (by decide) hrowd (by omega) (by omega) hown' hgrow
    have hvdc:=hvd.cell
    have hvc1:=hv1.cell
    have hvf1:=hv1.frozen
    have kept:∀ {B:Nat}{t:TypeId}{u:Value},Boxed Wd B t u→t≠114→B≠w.heap.size+1+1→Boxed (w1.setCell ⟨w.heap.size+1+1,0,none⟩ (.slice (some ⟨g',0,none⟩) (pre.length+1) cap')) B t u:=fun h ht hne=>((h.alloc _).kept hgrow (h.not_row ht hrowd)).other hne _
    rw[hWd]
    refine Go.PM.next_two (i:=0) (j:=15) (by kernel_rfl) ?_ ?_
    ·refine Go.PM.op_to (v:=v) (w':=Wd) rfl (fun _ h=>by cases h) rfl rfl ?_ rfl ?_
     ·go_simp
     simp only[List.setIfInBounds_toArray,List.set_cons_succ,List.set_cons_zero]
     refine Go.PM.next_op (i:=15) (by kernel_rfl) ?_
     refine Go.PM.op_to (v:=.slice (some ⟨Wd.heap.size,0,none⟩) 1 1) (w':=Wd.alloc (.cells #[.int .i64 (zAt zs x.1 0),.int .i64 (zAt zs x.1 1),.int .i64 (zAt zs x.1 2),.bool (zAt zs x.1 3==1)] 114)) rfl (fun _ h=>by cases h) rfl rfl ?_ rfl ?_
     ·go_simp
     simp only[List.setIfInBounds_toArray,List.set_cons_succ,List.set_cons_zero]
     refine Go.PM.next_op (i:=16) (by kernel_rfl) ?_
     refine Go.PM.op_to (v:=.slice (some ⟨g',0,none⟩) (pre.length+1) cap') (w':=w1) rfl (fun _ h=>by cases h) rfl rfl ?_ rfl ?_
     ·simp[execOp,resolve,invoke,builtin,hrun,Result.andThen,Act.eval]
     simp only[List.setIfInBounds_toArray,List.set_cons_succ,List.set_cons_zero]
     refine Go.PM.next_op (i:=17) (by kernel_rfl) ?_
     refine Go.PM.op_skip (w':=w1.setCell ⟨w.heap.size+1+1,0,none⟩ (.slice (some ⟨g',0,none⟩) (pre.length+1) cap')) rfl (fun _ h=>by cases h) rfl rfl ?_ rfl ?_
     ·go_simp
     exact wpAnyIn_done (by kernel_rfl) ⟨(hkd.trans hk2).from _,⟨hbd.trans hb2,(kept hSd (by decide) (by omega)).trans hS.symm,(kept hNd (by decide) (by omega)).trans hN.symm⟩,⟨⟨⟨⟨_,hv2,by simpa [List.flatMap_append] using hr2,fun y hy=>(List.mem_append.1 hy).elim (hok y) (fun h=>by obtain rfl:=List.mem_singleton.1 h; exact hokx),fun h=>by simp at h⟩,kept hRd (by decide) (by omega)⟩,kept hBd (by decide) (by omega)⟩,kept hSd (by decide) (by omega),kept hNd (by decide) (by omega)⟩,hB.trans (hbd.trans hb2)⟩ _
    ·refine Go.PM.op_to (v:=.slice (some ⟨Wd.heap.size,0,none⟩) 1 1) (w':=Wd.alloc (.cells #[.int .i64 (zAt zs x.1 0),.int .i64 (zAt zs x.1 1),.int .i64 (zAt zs x.1 2),.bool (zAt zs x.1 3==1)] 114)) rfl (fun _ h=>by cases h) rfl rfl ?_ rfl ?_
     ·go_simp
     simp only[List.setIfInBounds_toArray,List.set_cons_succ,List.set_cons_zero]
     refine Go.PM.next_op (i:=0) (by kernel_rfl) ?_
     have hvdc2:∀ o:Obj,(Wd.alloc o).cell? ⟨w.heap.size+1+1,0,none⟩=some v:=fun o=>(hvd.alloc o).cell
     refine Go.PM.op_to (v:=v) (w':=Wd.alloc (.cells #[.int .i64 (zAt zs x.1 0),.int .i64 (zAt zs x.1 1),.int .i64 (zAt zs x.1 2),.bool (zAt zs x.1 3==1)] 114)) rfl (fun _ h=>by cases h) rfl rfl ?_ rfl ?_
     ·go_simp
     simp only[List.setIfInBounds_toArray,List.set_cons_succ,List.set_cons_zero]
     refine Go.PM.next_op (i:=16) (by kernel_rfl) ?_
     refine Go.PM.op_to (v:=.slice (some ⟨g',0,none⟩) (pre.length+1) cap') (w':=w1) rfl (fun _ h=>by cases h) rfl rfl ?_ rfl ?_
     ·simp[execOp,resolve,invoke,builtin,hrun,Result.andThen,Act.eval]
     simp only[List.setIfInBounds_toArray,List.set_cons_succ,List.set_cons_zero]
     refine Go.PM.next_op (i:=17) (by kernel_rfl) ?_
     refine Go.PM.op_skip (w':=w1.setCell ⟨w.heap.size+1+1,0,none⟩ (.slice (some ⟨g',0,none⟩) (pre.length+1) cap')) rfl (fun _ h=>by cases h) rfl rfl ?_ rfl ?_
     ·go_simp
     exact wpAnyIn_done (by kernel_rfl) ⟨(hkd.trans hk2).from _,⟨hbd.trans hb2,(kept hSd (by decide) (by omega)).trans hS.symm,(kept hNd (by decide) (by omega)).trans hN.symm⟩,⟨⟨⟨⟨_,hv2,by simpa [List.flatMap_append] using hr2,fun y hy=>(List.mem_append.1 hy).elim (hok y) (fun h=>by obtain rfl:=List.mem_singleton.1 h; exact hokx),fun h=>by simp at h⟩,kept hRd (by decide) (by omega)⟩,kept hBd (by decide) (by omega)⟩,kept hSd (by decide) (by omega),kept hNd (by decide) (by omega)⟩,hB.trans (hbd.trans hb2)⟩ _
   ·have hne:(zAt zs x.1 3 != 0&&zAt zs x.1 3 != 1)=true:=by simp[hx0,hx1]
    have hRf:=hR.frozen
    gi_wp2
    exact⟨((KeepsOthers.setCell W _ _).trans (KeepsOthers.setCell _ _ _)).from _,⟨⟨(hR.set _).other (by omega) _,(hBo.other (by omega) _).set _⟩,rfl,x.1,hx,fun h=>h.elim hx0 hx1⟩,(hB.setCell (p:=⟨w.heap.size,0,none⟩) (Nat.le_refl _) _).setCell (p:=⟨w.heap.size+1,0,none⟩) (by simp) _⟩
 case done=>
  rintro D ys W hD rfl ⟨⟨⟨⟨⟨v,hv,hrow,hok,hnil⟩,hR⟩,hBo⟩,hS,hN⟩,hB⟩ hK
  obtain⟨pa,ln,cp,rfl⟩:∃ pa ln cp,v=.slice pa ln cp:=by
   rcases hrow.2 with⟨rfl,_⟩ | ⟨g,cap,cur,rfl,_⟩ <;> exact⟨_,_,_,rfl⟩
  have hvc:=hv.cell
  have hRc:=hR.cell
  have hRf:=hR.frozen
  have hBc:=hBo.cell
  have hBf:=hBo.frozen
  gi_wp2
  have hK2:=((KeepsOthers.setCell W ⟨w.heap.size,0,none⟩ (.slice pa ln cp)).trans (KeepsOthers.setCell _ ⟨w.heap.size+1,0,none⟩ (.bool true))).same D _ hK rfl
  have hR2:=(hR.set (.slice pa ln cp)).other (B':=w.heap.size+1) (by omega) (.bool true)
  have hB2:=(hBo.other (B':=w.heap.size) (by omega) (.slice pa ln cp)).set (.bool true)
  have hW2:Below w.heap.size w ((W.setCell ⟨w.heap.size,0,none⟩ (.slice pa ln cp)).setCell ⟨w.heap.size+1,0,none⟩ (.bool true)):=(hB.setCell (p:=⟨w.heap.size,0,none⟩) (Nat.le_refl _) _).setCell (p:=⟨w.heap.size+1,0,none⟩) (by simp) _
  have hr1:=hrow.kept (grownBy_setCell' W w.heap.size (.slice pa ln cp)) (.inr (hR.not_row (by decide) hrow).symm)
  have hr2:=hr1.kept (grownBy_setCell' _ (w.heap.size+1) (.bool true)) (.inr ((hBo.other (B':=w.heap.size) (by omega) (.slice pa ln cp)).not_row (by decide) hr1).symm)
  refine⟨by simp,.inl ⟨_,_,rfl,run_takeDeferred hK2,?_⟩⟩
  refine⟨_,res2 rfl rfl (hR2.kept (grownBy_putObj' _ D _) (fun e=>by cases e; omega)).cell (hB2.kept (grownBy_putObj' _ D _) (fun e=>by cases e; omega)).cell,_,true,rfl,hW2.trans (belowK_b (w:=w) (Nat.le_refl _) _ D _ _ (by omega) hK2 rfl rfl),.inl ⟨rfl,fun k hk=>hok ⟨k,hk⟩ (List.mem_finRange _),?_⟩⟩
  refine⟨?_,fun h0=>hnil (by subst h0; rfl)⟩
  rw[← zPY]
  have:=ownsRow_putObj hr2 (.deferred none) hK2 rfl
  simpa using this
 case stop=>
  rintro D c pre W hD _ ⟨⟨⟨hR,hBo⟩,rfl,hbad⟩,hB⟩ hK
  have hRc:=hR.cell
  have hBc:=hBo.cell
  gi_wp2
  refine⟨by simp,.inl ⟨_,_,rfl,run_takeDeferred hK,?_⟩⟩
  exact⟨_,res2 rfl rfl (hR.kept (grownBy_putObj' _ D _) (fun e=>by cases e; omega)).cell (hBo.kept (grownBy_putObj' _ D _) (fun e=>by cases e; omega)).cell,_,false,rfl,hB.trans (belowK_b (w:=w) (Nat.le_refl _) _ D _ _ (by omega) hK rfl rfl),.inr ⟨rfl,rfl,hbad⟩⟩
end Go.Proofs.YtlknjgmhfimhbaaGreatDoor.D
