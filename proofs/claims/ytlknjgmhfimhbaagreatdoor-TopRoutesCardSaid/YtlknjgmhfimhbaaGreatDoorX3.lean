/-
  TopRoutes: what its functions compute, and the law (part 3).
-/
import Derived.Test.YtlknjgmhfimhbaaGreatDoorX2
import Derived.Test.YtlknjgmhfimhbaaGreatDoorX0
import Derived.KernelRfl
set_option linter.unusedVariables false
set_option linter.unusedSimpArgs false
set_option maxHeartbeats 16000000
namespace Go.Proofs.YtlknjgmhfimhbaaGreatDoor.D
open Go Go.PM Go.Lib
structure UOk (l:Lo) (t:Int) (u:US):Prop where
 inv:INV l u.rs
 co:CpOk l u
 cc:∀ e c qs,u.cp=some (e,c,qs)→c≤9223372036854775807
 tk:0≤u.tick∧u.tick≤t
 ct:0≤u.count∧u.count≤9223372036854775807
 lf:0≤u.left∧u.left≤10
 lm:u.mode=4→1≤u.left
variable {t:Int}
theorem UOk.new {l:Lo}(ht:0≤t):UOk l t (newU l):=⟨INV.new,nofun,nofun,⟨Int.le_refl _,ht⟩,by simp[newU],by simp[newU],nofun⟩
variable {u:US}
theorem UOk.later {l:Lo} {t':Int}(h:UOk l t u) (ht:t≤t'):UOk l t' u:=⟨h.inv,h.co,h.cc,⟨h.tk.1,by have:=h.tk.2; omega⟩,h.ct,h.lf,h.lm⟩
theorem UOk.crash {l:Lo}(h:UOk l t u):UOk l t (crashF l u):=⟨INV.new,nofun,nofun,h.tk,by simp[crashF],h.lf,nofun⟩
theorem UOk.leaves {l:Lo}(h:UOk l t u):UOk l t (leavesF l u):=⟨INV.new,nofun,nofun,h.tk,h.ct,h.lf,nofun⟩
theorem UOk.start {l:Lo}(h:UOk l t u):UOk l t (startF u):=by
 unfold startF
 split
 ·exact⟨h.inv,h.co,h.cc,⟨Int.le_refl _,by have:=h.tk; show (0:Int)≤t; omega⟩,h.ct,h.lf,nofun⟩
 ·exact h
theorem UOk.tick {l:Lo}(h:UOk l t u) (slow:Bool):UOk l (t+1) (tickF l u slow):=by
 have tt:∀ {w},UOk l (t+1) w→UOk l (t+1) (tickT l w):=fun {w} h=>by
  unfold tickT
  split
  ·exact⟨h.inv,h.co,h.cc,h.tk,h.ct,h.lf,nofun⟩
  ·split
   ·exact h.leaves
   ·exact h
 unfold tickF
 split
 ·exact h.later (by omega)
 ·refine tt ?_
  split
  ·exact h.later (by omega)
  ·exact⟨h.inv,h.co,h.cc,⟨by have:=h.tk; show 0≤u.tick+1; omega,by have:=h.tk; show u.tick+1≤t+1; omega⟩,h.ct,h.lf,h.lm⟩
theorem intsF_mem {ts:List Th}{zs:List Int}(h:intsF ts=some zs){z:Int}(hz:z∈zs):Th.int z∈ts:=by
 induction ts generalizing zs with
 | nil=>simp only[intsF] at h; cases h; simp at hz
 | cons t ts ih=>
  cases t with
  | int y=>
   simp only[intsF,Option.map_eq_some_iff] at h
   obtain⟨q,hq,rfl⟩:=h
   rcases List.mem_cons.1 hz with rfl | hz
   ·simp
   ·exact List.mem_cons_of_mem _ (ih hq hz)
  | text s=>simp only[intsF] at h; cases h
  | bool s=>simp only[intsF] at h; cases h
variable {bs:List UInt8}
theorem heard_c{ts:List Th}(h:unF bs=some ts){e c:Int}{qs:List Rst}(hr:readF ts=some (e,c,qs)):c≤9223372036854775807:=by
 have hc:=(unF_can h).2.1
 unfold readF at hr
 split at hr
 ·cases hr
 ·rename_i zs hz
  split at hr
  ·split at hr
   ·rename_i h3
    split at hr
    ·split at hr
     ·cases hr
      have hm:nth zs 1∈zs:=nth_mem (by omega)
      have:=hc _ (List.mem_of_mem_drop (intsF_mem hz hm))
      exact this.2
     ·cases hr
    ·cases hr
   ·cases hr
  ·cases hr
theorem UOk.hear {l:Lo}(h:UOk l t u) (bs:List UInt8):UOk l t (hearF l u bs):=by
 unfold hearF
 split
 ·exact h
 ·split
  ·exact h
  ·rename_i ts hts
   split
   ·exact h
   ·rename_i e c qs hr
    split
    ·exact h
    ·split
     ·rename_i hi
      refine⟨h.inv,fun e' c' qs' hh=>?_,fun e' c' qs' hh=>?_,h.tk,h.ct,h.lf,h.lm⟩
      ·simp at hh
       obtain⟨_,_,rfl⟩:=hh
       exact hi
      ·simp at hh
       obtain⟨_,rfl,_⟩:=hh
       exact heard_c hts hr
     ·exact h
theorem UOk.granted {l:Lo}(h:UOk l t u) (e:Int):UOk l t (granted u e):=⟨h.inv,h.co,h.cc,h.tk,h.ct,h.lf,h.lm⟩
variable {k:Int}
theorem UOk.grant {l:Lo}(h:UOk l t u) (e:Int)(hk:0≤k∧k≤9223372036854775807):UOk l t (grantF l u e k):=by
 have frc:∀ {w},UOk l t w→UOk l t (noCp ⟨rep0 l,w.ep,w.en,w.gr,w.cp,4,w.tick,k,10⟩):=fun {w} h=>⟨INV.new,nofun,nofun,h.tk,hk,by simp[noCp],by simp[noCp]⟩
 unfold grantF
 split
 ·exact h.granted e
 ·split
  ·have h':=h.granted e
   unfold begF
   split
   ·rename_i e' c qs hc
    split
    ·rename_i hh
     exact⟨h'.co _ _ _ hc,nofun,nofun,h'.tk,⟨by show 0≤c; omega,h'.cc _ _ _ hc⟩,h'.lf,nofun⟩
    ·exact frc h'
   ·exact frc h'
  ·exact h
theorem UOk.cycle {l:Lo}(is:ISL l)(h:UOk l t u) (os:List Bool) (ls:List Int) (conn:Bool) (cs:List (Int×Int)):UOk l t (cycleF l u os ls conn cs).1:=by
 have hc:0≤incC u.count∧incC u.count≤9223372036854775807:=by
  have:=h.ct
  unfold incC
  split <;> omega
 unfold cycleF
 split
 ·split
  ·refine⟨?_,h.co,h.cc,h.tk,hc,h.lf,h.lm⟩
   show INV l (cycF l _ os ls).1
   refine INV.cyc is ?_
   split
   ·exact INV.cmds _ h.inv
   ·exact h.inv
  ·have hl:=h.lf
   rename_i wk h3
   have h4:u.mode=4:=wk.1.resolve_left h3
   have h1:=h.lm h4
   by_cases hz:(setC u (incC u.count)).left - 1≤0
   ·rw[forced_t hz]
    exact⟨h.inv,h.co,h.cc,h.tk,hc,by simp only[setC] at hz ⊢; omega,nofun⟩
   ·rw[forced_f hz]
    exact⟨h.inv,h.co,h.cc,h.tk,hc,by simp only[setC] at hz ⊢; omega,fun _=>by simp only[setC] at hz ⊢; omega⟩
 ·exact h
theorem UOk.len {l:Lo}(is:ISL l)(h:UOk l t u):u.rs.length≤20:=by
 have:=h.inv.ln
 have:=is.r2
 omega
structure ROk (r:RLS):Prop where
 n0:0≤r.now∧r.now≤100000
 a0:0≤r.ask∧r.ask≤r.now
 e0:0≤r.ep∧r.ep≤2*r.now
 l0:0≤r.last∧r.last≤9223372036854775807
variable {r:RLS}
theorem ROk.ok(h:ROk r):RLOk r:=⟨by have:=h.n0; omega,h.a0,by have:=h.n0; have:=h.e0; omega⟩
theorem ROk.go(h:ROk r):ROk (goRL r):=⟨h.n0,h.a0,h.e0,h.l0⟩
theorem ROk.yield(h:ROk r) (u:Int):ROk (yieldRL r u):=by
 unfold yieldRL
 split
 ·exact h
 ·exact⟨h.n0,h.a0,h.e0,h.l0⟩
noncomputable def yldF (A:PLc) (s:PS) (e:EV):PS:=if e.k=9∧Un e.u∧(s.u e.u.toNat).mode=3 then setRl (setU s e.u.toNat (leavesF (A.l e.u.toNat) (s.u e.u.toNat))) (yieldRL s.r e.u) else s
noncomputable def yldsF (A:PLc) (s:PS) (es:List EV):PS:=es.foldl (yldF A) s
variable {A:PLc} {es:List EV} {i:Nat} {s:PS}
theorem yldsF_succ(hi:i<es.length):yldsF A s (es.take (i+1))=yldF A (yldsF A s (es.take i)) (nth es i):=by
 rw[List.take_add_one,List.getElem?_eq_getElem hi]
 unfold yldsF
 rw[List.foldl_append]
 simp[nth,List.getD_eq_getElem?_getD,List.getElem?_eq_getElem hi]
theorem setU_self (s:PS) (i:Nat):setU s i (s.u i)=s:=by
 have:upF s.u i (s.u i)=s.u:=funext fun j=>by
  unfold upF
  split
  ·rename_i h; rw[h]
  ·rfl
 unfold setU
 rw[this]
structure IYl (P:Nat) (A:PLc) (cc:Nat→Nat) (H0:PT HB) (n0:Nat) (s:PS) (v:IV) (es:List EV) (i:Nat) (st:St):Prop where
 c0:st.T.get 0=some (.ptr P 0 0)
 c6:st.T.get 6=some (.imm v)
 c7:st.T.get 7=some (.imm (.int .i64 (es.length:Int)))
 c8:st.T.get 8=some (.imm (.int .i64 (i:Int)))
 pr:PR P A cc H0 n0 (yldsF A s (es.take i)) st.H st.n
 rk:ROk (yldsF A s (es.take i)).r
variable {H0:PT HB} {cc:Nat→Nat} {n0:Nat} {v:IV}
theorem loopYl {d:Nat}(hd:10≤d){P:Nat}(ao:AOk A)(hv:Sl 5 v (es.map ivE)) (hl:es.length≤reachBytes){st:St}(h:IYl P A cc H0 n0 s v es 0 st){ks:List Kf}{Q:Ex→St→Prop}
  (hk:∀ s',IYl P A cc H0 n0 s v es es.length s'→Bk DG (K DG (d+4)) 0 (.exit 0) ks s' Q):Wp DG (K DG (d+4)) 0 D.l51_0 ks st Q:=by
 refine dw_loop (N:=es.length) (small hl) (fun i st=>IYl P A cc H0 n0 s v es i st) (fun e s'=>e=.exit 0∧IYl P A cc H0 n0 s v es es.length s') (fun i st hle hI=>?_) h (fun e s' h=>by
  obtain⟨rfl,h⟩:=h
  exact hk s' h)
 obtain⟨c0,c6,c7,c8,⟨hn,c',hp,hc,hf⟩,rk⟩:=hI
 have vs:=hv.scal
 by_cases hi:i<es.length
 ·have hi1:(i:Int)<es.length:=by omega
  have hi':=ilt_t hi1
  have hw8:IntKind.i64.wrap ((i:Int)+1)=(i:Int)+1:=wr_succ hi hl
  have ix:=fun {h:Nat→Option HB}{n:Nat}=>idx_sl (h:=h) (n:=n) hv (by omega) (k:=.i64) (z:=(i:Int)) (by omega) hi1
  simp only[Int.toNat_natCast] at ix
  have su:=yldsF_succ (A:=A) (s:=s) hi
  generalize yldsF A s (es.take i)=a at *
  generalize nth es i=y at *
  obtain⟨k,u,z,y1,y2⟩:=y
  have hb:=hp.blk
  simp only[rowPr] at hb
  have fin:∀ {T:PT DV}{L:PT LV}{H:PT HB}{n:Nat}{b:PS},yldF A a ⟨k,u,z,y1,y2⟩=b→ROk b.r→T.get 0=some (.ptr P 0 0)→T.get 6=some (.imm v)→T.get 7=some (.imm (.int .i64 (es.length:Int)))→T.get 8=some (.imm (.int .i64 ((i:Int)+1)))→PR P A cc H0 n0 b H n→IYl P A cc H0 n0 s v es (i+1) ⟨T,L,H,n⟩:=fun e r h0 h6 h7 h8 hp=>⟨h0,h6,h7,h8,by rw[su,e]; exact hp,by rw[su,e]; exact r⟩
  have skip:∀ {m},st.n≤m→PR P A cc H0 n0 a st.H m:=fun hm=>PR.comp hn hc hf (PR.refl hp hm)
  simp only[yldF] at fin
  have hp1:=hp.mono (c':=c') (n':=st.n+1) (by omega) (fun _ _=>rfl) (fun _ _ _=>rfl)
  generalize hQ:(fun (e:Ex) (s':St)=>_)=Q'
  simp only[D.l51_0b]
  by_cases k9:k=9
  ·subst k9
   by_cases hu:Un u
   ·obtain⟨i1,hi1⟩:∃ i:Nat,u=i:=⟨u.toNat,by unfold Un at hu; omega⟩
    have hi2:i1<2:=by unfold Un at hu; omega
    subst hi1
    obtain⟨m1,e1,hm1⟩:=at_ro hp hi2 (d:=d+3) (m:=st.n+1) (lo:=0) (by omega)
    have hp2:=hp.mono (c':=c') (n':=m1) (by omega) (fun _ _=>rfl) (fun _ _ _=>rfl)
    obtain⟨H',n',e2,r⟩:=Yield_fn (d:=d) hd (ao.ok i1 hi2) (ao.is i1 hi2) (hp2.ui hi2) (fun j hj=>rc_ge hj)
    obtain⟨hn',c2,p2,q2,f2⟩:=hp2.setu_pr hi2 r
    by_cases h3:(a.u i1).mode=3
    ·rw[if_pos h3] at p2
     simp only[h3,decide_true] at e2
     obtain⟨v3,H3,n3,e3,hn3,g3,f3⟩:=rel_yield (d:=d+2) (n:=n') p2.rl rk.ok (i1:Int)
     have pr:PR P A cc H0 n0 (setRl (setU a i1 (leavesF (A.l i1) (a.u i1))) (yieldRL a.r i1)) H3 n3:=PR.comp hn hc hf (PR.comp (by omega) (fun _ _=>rfl) (fun _ _ _=>rfl) (PR.comp hn' q2 f2 (p2.setr hn3 g3 f3)))
     have hb2:=p2.blk
     simp only[rowPr,setU] at hb2
     simp[c0,c6,c7,c8,vs,hi',hw8,ix,hb,e1,e2,hb2,e3,ivE,imms,B6,B7]
     subst hQ
     exact .inl ⟨rfl,hi,fin (b:=setRl (setU a i1 (leavesF (A.l i1) (a.u i1))) (yieldRL a.r i1)) ((if_pos ⟨rfl,hu,by simpa using h3⟩).trans (by simp)) (rk.yield i1) (by simp[gP,c0]) (by simp[gP,c6]) (by simp[gP,c7]) (by simp[gP]) pr⟩
    ·rw[if_neg h3,setU_self] at p2
     simp only[h3,decide_false] at e2
     have pr:PR P A cc H0 n0 a H' n':=PR.comp hn hc hf (PR.comp (by omega) (fun _ _=>rfl) (fun _ _ _=>rfl) ⟨hn',c2,p2,q2,f2⟩)
     simp[c0,c6,c7,c8,vs,hi',hw8,ix,hb,e1,e2,ivE,imms,B6,B7]
     subst hQ
     exact .inl ⟨rfl,hi,fin (if_neg (fun h=>h3 (by simpa using h.2.2))) rk (by simp[gP,c0]) (by simp[gP,c6]) (by simp[gP,c7]) (by simp[gP]) pr⟩
   ·obtain⟨m1,e1,hm1⟩:=at_nil hp hu (d:=d+3) (m:=st.n+1) (lo:=0)
    obtain⟨v2,H2,n2,e2,rfl,hH,hn2⟩:=yield_nil (d:=d+3) (H:=st.H) (n:=m1)
    rw[hH] at e2
    simp[c0,c6,c7,c8,vs,hi',hw8,ix,hb,e1,e2,ivE,imms,B6,B7]
    subst hQ
    exact .inl ⟨rfl,hi,fin (if_neg (fun h=>hu h.2.1)) rk (by simp[gP,c0]) (by simp[gP,c6]) (by simp[gP,c7]) (by simp[gP]) (skip (by omega))⟩
  ·simp[c0,c6,c7,c8,vs,hi',hw8,ix,k9,ivE,imms,B6,B7]
   subst hQ
   exact .inl ⟨rfl,hi,fin (if_neg (fun h=>k9 h.1)) rk (by simp[gP,c0]) (by simp[gP,c6]) (by simp[gP,c7]) (by simp[gP]) (skip (by omega))⟩
 ·obtain rfl:i=es.length:=by omega
  generalize hQ:(fun (e:Ex) (s':St)=>_)=Q'
  simp only[D.l51_0b]
  simp[c0,c6,c7,c8,vs,ilt_self,B6,B7]
  subst hQ
  exact .inr ⟨nofun,rfl,by simp[gP,c0],by simp[gP,c6],by simp[gP,c7],by simp[gP,c8],⟨hn,c',hp,hc,hf⟩,rk⟩
variable {H:PT HB} {c:Nat→Nat} {n:Nat}
theorem yields_fn {d:Nat}(hd:10≤d) {P:Nat}(ao:AOk A)(h:PAt c H n P A s) (rk:ROk s.r)(hv:Sl 5 v (es.map ivE)) (hel:es.length≤reachBytes) :
  Fe (K DG (d+5) 51 [.ptr P 0 0,.imm v] H n 0) (fun _ H' n'=>PR P A c H n (yldsF A s es) H' n'):=by
 have vs:=hv.scal
 have vl:=hv.len
 simp only[List.length_map] at vl
 rw[kX 51 D.f51 rfl]
 refine fn_dw rfl ?_
 simp[vs,vl,B6,B7]
 refine loopYl (cc:=c) (H0:=H) (n0:=n) (s:=s) hd ao hv hel ⟨by simp[gP],by simp[gP],by simp[gP],by simp[gP],(show PR P A c H n s H n from PR.refl h (Nat.le_refl _)),rk⟩ (fun s1 hI=>?_)
 have fin:=hI.pr
 rw[List.take_length] at fin
 simp[B6,B7]
 exact fin
def As (u:US):Prop:=u.mode=2∨u.mode=3∨u.mode=4
open Classical in
noncomputable def askF (A:PLc) (s:PS) (i:Nat) (deaf:Bool):PS:=
 if deaf=false∧As (s.u i) then
  (if (askRL s.r i (s.u i).count).2.2.2=0 then setU (setRl s (askRL s.r i (s.u i).count).1) i (grantF (A.l i) (s.u i) (askRL s.r i (s.u i).count).2.1 (askRL s.r i (s.u i).count).2.2.1)
   else setRl s (askRL s.r i (s.u i).count).1)
 else s
theorem ask_ep(h:ROk r) (u c:Int):0≤(askRL r u c).2.1∧(askRL r u c).2.1≤2*r.now+1:=by
 have:=h.e0
 have:=h.n0
 unfold askRL
 split
 ·simp only; omega
 ·split <;> simp only <;> omega
theorem asks_fn {d:Nat}(hd:10≤d) {P:Nat}(ao:AOk A)(h:PAt c H n P A s) (rk:ROk s.r)(hi:i<2)(ht:t≤1000000) (uo:UOk (A.l i) t (s.u i)) (deaf:Bool) :
  Fe (K DG (d+5) 52 [.ptr P 0 0,.imm (.int .i64 (i:Int)),.imm (.bool deaf)] H n 0) (fun _ H' n'=>PR P A c H n (askF A s i deaf) H' n'):=by
 have hb:=h.blk
 simp only[rowPr] at hb
 obtain⟨p,q,own,x,hu⟩:=h.u i hi
 obtain⟨m1,e1,hm1⟩:=u_mode hu (d:=d+3) (m:=n) (lo:=0)
 obtain⟨m2,e2,hm2⟩:=u_count hu (d:=d+3) (m:=m1) (lo:=0)
 obtain⟨H3,n3,e3,hn3,g3,f3⟩:=rel_ask (d:=d+3) (n:=m2) h.rl rk.ok (u:=(i:Int)) (by omega) uo.ct.1
 obtain⟨hn3',c3,p3,q3,f3'⟩:=h.setr (H':=H3) (n':=n3) (by omega) g3 f3
 have ep:=ask_ep rk (i:Int) (s.u i).count
 have hr:=rk.n0
 obtain⟨v4,H4,n4,e4,r4⟩:=Granted_fn (d:=d) hd (ao.ok i hi) (ao.is i hi) (p3.ui hi) (fun j hj=>rc_ge hj) uo.co (e:=(askRL s.r i (s.u i).count).2.1) (k:=(askRL s.r i (s.u i).count).2.2.1) (by omega) uo.tk.1 (by have:=uo.tk.2; show (s.u i).tick≤1000000; omega)
 have pr4:=PR.comp hn3' q3 f3' (p3.setu_pr hi r4)
 have pr3:PR P A c H n (setRl s (askRL s.r i (s.u i).count).1) H3 n3:=⟨hn3',c3,p3,q3,f3'⟩
 have skip:∀ {m},n≤m→PR P A c H n s H m:=fun hm=>PR.refl h hm
 unfold askF
 generalize hy:askRL s.r i (s.u i).count=y at *
 obtain⟨r',y1,y2,y3⟩:=y
 simp only at e3 e4 pr3 pr4 ⊢
 generalize hmo:(s.u i).mode=mo at *
 have hAs:As (s.u i)↔mo=2∨mo=3∨mo=4:=by unfold As; rw[hmo]
 rw[kX 52 D.f52 rfl]
 refine fn_dw rfl ?_
 cases deaf with
 | true=>
  rw[if_neg (fun h=>nomatch h.1)]
  obtain rfl | rfl:i=0∨i=1:=by omega
  ·rw[show ((0:Nat):Int)=0 from rfl]
   simp[hb,e1,B6,B7]
   exact skip (by omega)
  ·rw[show ((1:Nat):Int)=1 from rfl]
   simp[hb,e1,B6,B7]
   exact skip (by omega)
 | false=>
  by_cases ha:mo=2∨mo=3∨mo=4
  ·rw[if_pos ⟨rfl,hAs.2 ha⟩]
   have hm:(mo=2)∨(mo≠2∧mo=3)∨(mo≠2∧mo≠3∧mo=4):=by omega
   by_cases hz:y3=0
   ·rw[if_pos hz]
    subst hz
    obtain rfl | rfl:i=0∨i=1:=by omega
    ·rw[show ((0:Nat):Int)=0 from rfl] at e3 ⊢
     rcases hm with hm | ⟨hm1,hm⟩ | ⟨hm1,hm2,hm⟩ <;> subst hm <;>
     ·simp[hb,e1,e2,e3,e4,B6,B7]
      exact pr4
    ·rw[show ((1:Nat):Int)=1 from rfl] at e3 ⊢
     rcases hm with hm | ⟨hm1,hm⟩ | ⟨hm1,hm2,hm⟩ <;> subst hm <;>
     ·simp[hb,e1,e2,e3,e4,B6,B7]
      exact pr4
   ·rw[if_neg hz]
    obtain rfl | rfl:i=0∨i=1:=by omega
    ·rw[show ((0:Nat):Int)=0 from rfl] at e3 ⊢
     rcases hm with hm | ⟨hm1,hm⟩ | ⟨hm1,hm2,hm⟩ <;> subst hm <;>
     ·simp[hb,e1,e2,e3,hz,B6,B7]
      exact pr3
    ·rw[show ((1:Nat):Int)=1 from rfl] at e3 ⊢
     rcases hm with hm | ⟨hm1,hm⟩ | ⟨hm1,hm2,hm⟩ <;> subst hm <;>
     ·simp[hb,e1,e2,e3,hz,B6,B7]
      exact pr3
  ·rw[if_neg (fun h=>ha (hAs.1 h.2))]
   have h2:¬mo=2:=fun h=>ha (.inl h)
   have h3:¬mo=3:=fun h=>ha (.inr (.inl h))
   have h4:¬mo=4:=fun h=>ha (.inr (.inr h))
   obtain rfl | rfl:i=0∨i=1:=by omega
   ·rw[show ((0:Nat):Int)=0 from rfl]
    simp[hb,e1,h2,h3,h4,B6,B7]
    exact skip (by omega)
   ·rw[show ((1:Nat):Int)=1 from rfl]
    simp[hb,e1,h2,h3,h4,B6,B7]
    exact skip (by omega)
def cmStep (a:List (Int×Int)) (e:EV):List (Int×Int):=if e.k=8 then a++[(e.c,e.r)] else a
def cmF (es:List EV):List (Int×Int):=es.foldl cmStep []
theorem cmF_succ(hi:i<es.length):cmF (es.take (i+1))=cmStep (cmF (es.take i)) (nth es i):=by
 rw[List.take_add_one,List.getElem?_eq_getElem hi]
 unfold cmF
 rw[List.foldl_append]
 simp[nth,List.getD_eq_getElem?_getD,List.getElem?_eq_getElem hi]
theorem cmF_len (es:List EV):(cmF es).length≤es.length:=by
 have:∀ (es:List EV) (a:List (Int×Int)),(es.foldl cmStep a).length≤a.length+es.length:=by
  intro es
  induction es with
  | nil=>simp
  | cons e es ih=>
   intro a
   have:=ih (cmStep a e)
   simp only[List.foldl_cons,List.length_cons]
   have h2:(cmStep a e).length≤a.length+1:=by
    unfold cmStep
    split <;> simp
   omega
 simpa [cmF] using this es []
structure IG0 (P:Nat) (H0:PT HB) (n0:Nat) (v:IV) (es:List EV) (i:Nat) (st:St):Prop where
 c0:st.T.get 0=some (.ptr P 0 0)
 b4:BoxD st 4 [.imm .nils,.imm .nils]
 c13:st.T.get 13=some (.imm v)
 c14:st.T.get 14=some (.imm (.int .i64 (es.length:Int)))
 c15:st.T.get 15=some (.imm (.int .i64 (i:Int)))
 c5:∃ x,st.T.get 5=some x∧Rw 2 st.H n0 st.n x ((cmF (es.take i)).map ivC)
 fr:∀ j,j<n0→st.H.get j=H0.get j
 hn:n0≤st.n
theorem loopG0 {d:Nat}{P:Nat}(hv:Sl 5 v (es.map ivE)) (hl:es.length≤1000){st:St}(h:IG0 P H0 n0 v es 0 st){ks:List Kf}{Q:Ex→St→Prop}
  (hk:∀ s',IG0 P H0 n0 v es es.length s'→Bk DG (K DG d) 0 (.exit 0) ks s' Q):Wp DG (K DG d) 0 D.l53_0 ks st Q:=by
 have hlr:es.length≤reachBytes:=by have:=rb3; omega
 refine dw_loop (N:=es.length) (small hlr) (fun i st=>IG0 P H0 n0 v es i st) (fun e s'=>e=.exit 0∧IG0 P H0 n0 v es es.length s') (fun i st hle hI=>?_) h (fun e s' h=>by
  obtain⟨rfl,h⟩:=h
  exact hk s' h)
 obtain⟨c0,⟨i4,b4,L4⟩,c13,c14,c15,⟨x,c5,hx⟩,fr,hn⟩:=hI
 have vs:=hv.scal
 have xs:=hx.scal
 by_cases hi:i<es.length
 ·have hi1:(i:Int)<es.length:=by omega
  have hi':=ilt_t hi1
  have hw8:IntKind.i64.wrap ((i:Int)+1)=(i:Int)+1:=wr_succ hi hlr
  have ix:=fun {h:Nat→Option HB}{n:Nat}=>idx_sl (h:=h) (n:=n) hv (by omega) (k:=.i64) (z:=(i:Int)) (by omega) hi1
  simp only[Int.toNat_natCast] at ix
  have su:=cmF_succ hi
  have hcl:=cmF_len (es.take i)
  rw[List.length_take] at hcl
  generalize cmF (es.take i)=a at *
  generalize nth es i=y at *
  obtain⟨k,u,z,y1,y2⟩:=y
  simp only[cmStep] at su
  by_cases k8:k=8
  ·rw[if_pos k8] at su
   subst k8
   obtain⟨x',hw,acc,ea,hx',fx⟩:=app_rw (lo:=0) (bytes:=16) (Nat.zero_le _) (show n0≤st.n+1 by omega) (show Rw 2 st.H n0 (st.n+1) x (a.map ivC) from by
    rcases hx with h | ⟨id,⟨p1,p2⟩,p3⟩
    ·exact .inl h
    ·exact .inr ⟨id,⟨p1,by omega⟩,p3⟩) (by omega) (by simp; omega) (by omega) (es:=[[.int .i64 y1,.int .i64 y2]]) (by simp) (by simp)
   have xs':=hx'.scal
   have fin:∀ {T:PT DV}{L:PT LV}{H:PT HB}{n:Nat},H=putH st.H hw→n=st.n+1+1→T.get 0=some (.ptr P 0 0)→(∃ id,T.get 4=some (.lref 4 id 0)∧L.get 4=some (.box id [.imm .nils,.imm .nils]))→T.get 13=some (.imm v)→T.get 14=some (.imm (.int .i64 (es.length:Int)))→T.get 15=some (.imm (.int .i64 ((i:Int)+1)))→T.get 5=some x'→IG0 P H0 n0 v es (i+1) ⟨T,L,H,n⟩:=fun e1 e2 h0 h4 h13 h14 h15 h5=>by
    subst e1 e2
    refine⟨h0,h4,h13,h14,h15,⟨x',h5,?_⟩,fun j hj=>(fx j hj).trans (fr j hj),by show n0≤st.n+1+1; omega⟩
    rw[su]
    simpa [ivC] using hx'
   generalize hQ:(fun (e:Ex) (s':St)=>_)=Q'
   simp only[D.l53_0b]
   simp[c0,b4,L4,c13,c14,c15,c5,vs,xs,xs',hi',hw8,ix,ivE,imms,ea,evParts2,lay,unImms,unImm,mapO,rowsN,B6,B7]
   subst hQ
   exact .inl ⟨rfl,hi,fin rfl (by omega) (by simp[gP,c0]) ⟨i4,by simp[gP,b4],by simp[gP,L4]⟩ (by simp[gP,c13]) (by simp[gP,c14]) (by simp[gP]) (by simp[gP])⟩
  ·rw[if_neg k8] at su
   have fin:∀ {T:PT DV}{L:PT LV}{n:Nat},st.n≤n→T.get 0=some (.ptr P 0 0)→(∃ id,T.get 4=some (.lref 4 id 0)∧L.get 4=some (.box id [.imm .nils,.imm .nils]))→T.get 13=some (.imm v)→T.get 14=some (.imm (.int .i64 (es.length:Int)))→T.get 15=some (.imm (.int .i64 ((i:Int)+1)))→T.get 5=some x→IG0 P H0 n0 v es (i+1) ⟨T,L,st.H,n⟩:=fun e2 h0 h4 h13 h14 h15 h5=>by
    refine⟨h0,h4,h13,h14,h15,⟨x,h5,?_⟩,fr,Nat.le_trans hn e2⟩
    rw[su]
    rcases hx with h | ⟨id,⟨p1,p2⟩,p3⟩
    ·exact .inl h
    ·exact .inr ⟨id,⟨p1,Nat.lt_of_lt_of_le p2 e2⟩,p3⟩
   generalize hQ:(fun (e:Ex) (s':St)=>_)=Q'
   simp only[D.l53_0b]
   simp[c0,b4,L4,c13,c14,c15,c5,vs,xs,hi',hw8,ix,k8,ivE,imms,B6,B7]
   subst hQ
   exact .inl ⟨rfl,hi,fin (by omega) (by simp[gP,c0]) ⟨i4,by simp[gP,b4],by simp[gP,L4]⟩ (by simp[gP,c13]) (by simp[gP,c14]) (by simp[gP]) (by simp[gP,c5])⟩
 ·obtain rfl:i=es.length:=by omega
  generalize hQ:(fun (e:Ex) (s':St)=>_)=Q'
  simp only[D.l53_0b]
  simp[c0,b4,L4,c13,c14,c15,c5,vs,xs,ilt_self,B6,B7]
  subst hQ
  exact .inr ⟨nofun,rfl,by simp[gP,c0],⟨i4,by simp[gP,b4],by simp[gP,L4]⟩,by simp[gP,c13],by simp[gP,c14],by simp[gP,c15],⟨x,by simp[gP,c5],hx⟩,fr,hn⟩
variable {H':PT HB} {c':Nat→Nat} {n':Nat}
theorem PAt.setuo {P:Nat}(h:PAt c H n P A s)(hi:i<2) (hn:n≤n')(hu:UI (fun j=>rc c n i j=i∧j<n) (A.l i) H' n' (A.a i) u) (hf:∀ j,j<n→¬rc c n i j=i→H'.get j=H.get j) (hc:∀ j,j<n→c' j=c j):PAt c' H' n' P A (setU s i u):=by
 have hf':∀ j,j<n→c j≠i→H'.get j=H.get j:=fun j hj hc=>hf j hj (fun e=>hc ((rc_lt hj).symm.trans e))
 obtain⟨blk,u0,rl,lk,fd,kk,cP,cr,cl,cf,ck⟩:=h
 refine⟨by rw[hf' P cP.2 (by omega)]; exact blk,fun k hk=>?_,by rw[hf' _ cr.2 (by omega)]; exact rl,?_,fd.mono fun j hj=>hf' j (cf j hj).2 (by have:=(cf j hj).1; omega),?_,?_,?_,?_,fun j hj=>?_,fun j hj=>?_⟩
 ·by_cases e:k=i
  ·subst e
   simp only[setU,upF,if_true]
   exact hu.mono (Nat.le_refl _) (fun j hj h=>(hc j h.2).trans ((rc_lt (c:=c) (k:=k) h.2).symm.trans h.1)) (fun _ _ _=>rfl)
  ·simp only[setU,upF,if_neg e]
   exact (u0 k hk).mono hn (fun j hj h=>by rw[hc j hj]; exact h) (fun j hj h=>hf' j hj (by omega))
 ·exact lk.mono (fun j h=>⟨by rw[hc j h.2]; exact h.1,by omega⟩) (hf' _ cl.2 (by omega)) (fun j h=>hf' j h.2 (by omega))
 ·obtain⟨rs,kk⟩:=kk
  exact⟨rs,kk.mono fun j hj=>hf' j (ck j hj).2 (by have:=(ck j hj).1; omega)⟩
 ·exact⟨by rw[hc _ cP.2]; exact cP.1,by omega⟩
 ·exact⟨by rw[hc _ cr.2]; exact cr.1,by omega⟩
 ·exact⟨by rw[hc _ cl.2]; exact cl.1,by omega⟩
 ·have:=cf j hj
  exact⟨by rw[hc _ this.2]; exact this.1,by omega⟩
 ·have:=ck j hj
  exact⟨by rw[hc _ this.2]; exact this.1,by omega⟩
noncomputable def cyI (A:PLc) (s:PS) (es:List EV) (i:Nat):US×List Int×List Bool:=cycleF (A.l i) (s.u i) s.occ (s.pts.map (·.l)) (decide (s.r.con=(i:Int))) (cmF es)
noncomputable def tellS (A:PLc) (s:PS) (es:List EV) (i:Nat):PS:=if i=0 then s else if i=1 then setU s 0 (cyI A s es 0).1 else setU (setU s 0 (cyI A s es 0).1) 1 (cyI A s es 1).1
noncomputable def outI (A:PLc) (s:PS) (es:List EV) (i:Nat):List Int×List Bool:=
 if s.r.con=0∧1≤i then (cyI A s es 0).2 else if s.r.con=1∧2≤i then (cyI A s es 1).2 else (List.replicate A.ls.pts.length 0,List.replicate A.ls.sigs.length false)
theorem tellS_r (A:PLc) (s:PS) (es:List EV) (i:Nat):(tellS A s es i).r=s.r∧(tellS A s es i).occ=s.occ∧(tellS A s es i).pts=s.pts∧(tellS A s es i).now=s.now∧(tellS A s es i).snt=s.snt∧(tellS A s es i).cam=s.cam:=by
 unfold tellS
 split
 ·exact⟨rfl,rfl,rfl,rfl,rfl,rfl⟩
 ·split <;> exact⟨rfl,rfl,rfl,rfl,rfl,rfl⟩
theorem tellS_u (A:PLc) (s:PS) (es:List EV)(hi:i<2):(tellS A s es i).u i=s.u i:=by
 obtain rfl | rfl:i=0∨i=1:=by omega
 ·rfl
 ·simp[tellS,setU,upF]
theorem tellS_succ (A:PLc) (s:PS) (es:List EV)(hi:i<2):tellS A s es (i+1)=setU (tellS A s es i) i (cyI A s es i).1:=by
 obtain rfl | rfl:i=0∨i=1:=by omega
 ·rfl
 ·rfl
theorem outI_succ (A:PLc) (s:PS) (es:List EV)(hi:i<2):outI A s es (i+1)=if s.r.con=(i:Int) then (cyI A s es i).2 else outI A s es i:=by
 unfold outI
 obtain rfl | rfl:i=0∨i=1:=by omega
 ·by_cases h:s.r.con=0
  ·simp[h]
  ·by_cases h1:s.r.con=1 <;> simp[h,h1]
 ·by_cases h:s.r.con=0
  ·simp[h]
  ·by_cases h1:s.r.con=1 <;> simp[h,h1]
structure IG1 (P:Nat) (A:PLc) (cc:Nat→Nat) (H0:PT HB) (n0:Nat) (s:PS) (es:List EV) (x:DV) (i:Nat) (st:St):Prop where
 c0:st.T.get 0=some (.ptr P 0 0)
 b4:BoxD st 4 [.imm .nils,.imm .nils]
 c5:st.T.get 5=some x
 b8:∃ y z,BoxD st 8 [y,z]∧OutAt st.H.get n0 st.n y ((outI A s es i).1.map ivI)∧OutAt st.H.get n0 st.n z ((outI A s es i).2.map ivB1)
 c36:st.T.get 36=some (.agg [.ptr (A.a 0) 0 0,.ptr (A.a 1) 0 0])
 c37:st.T.get 37=some (.imm (.int .i64 (i:Int)))
 pt:PAt (rc cc n0 7) st.H st.n P A (tellS A s es i)
 fr:∀ j,j<n0→6<cc j→st.H.get j=H0.get j
 hn:n0≤st.n
variable {x:DV}
theorem OutAt.keep {h h':Nat→Option HB}{es:List (List IV)}(o:OutAt h n0 n x es) (hn:n≤n') (hf:∀ j,n0≤j→j<n→h' j=h j):OutAt h' n0 n' x es:=by
 rcases o with o | ⟨id,⟨h1,h2⟩,h3,h4⟩
 ·exact .inl o
 ·exact .inr ⟨id,⟨h1,by omega⟩,h3,by rw[hf id h1 h2]; exact h4⟩
variable {m:Nat}
theorem OutAt.low {h:Nat→Option HB}{es:List (List IV)}(o:OutAt h m n x es) (hn:n0≤m):OutAt h n0 n x es:=by
 rcases o with o | ⟨id,⟨h1,h2⟩,h3⟩
 ·exact .inl o
 ·exact .inr ⟨id,⟨by omega,h2⟩,h3⟩
structure FOk (s:PS):Prop where
 o0:s.occ≠[]
 ol:s.occ.length≤1000
 pl:s.pts.length≤1000
theorem in_io(f:FOk s):InOk (.lst false 1 (s.occ.map ivB)) (liesV s.pts) s.occ (s.pts.map (·.l)):=by
 have:=rb3
 refine⟨.inr ⟨false,rfl⟩,?_,by have:=f.ol; omega,by have:=f.pl; simp; omega⟩
 unfold liesV
 split
 ·rename_i h
  rw[h]
  exact .inl ⟨rfl,rfl⟩
 ·exact .inr ⟨false,rfl⟩
theorem loopG1 {d:Nat}(hd:10≤d){P:Nat}(ao:AOk A)(uo:∀ i,i<2→UOk (A.l i) t (s.u i)) (fo:FOk s) (hel:es.length≤1000)
  (hx:(∃ w,x=.imm w∧Sl 2 w ((cmF es).map ivC))∨∃ id,(id<n0∧cc id=7)∧x=.sl id 0 (cmF es).length (cmF es).length∧H0.get id=some ⟨2,((cmF es).map ivC).map imms⟩)
  {st:St}(h:IG1 P A cc H0 n0 s es x 0 st){ks:List Kf}{Q:Ex→St→Prop}
  (hk:∀ s',IG1 P A cc H0 n0 s es x 2 s'→Bk DG (K DG (d+4)) 0 (.exit 2) ks s' Q):Wp DG (K DG (d+4)) 0 D.l53_1 ks st Q:=by
 refine dw_loop (N:=2) (small (by have:=rb3; omega)) (fun i st=>IG1 P A cc H0 n0 s es x i st) (fun e s'=>e=.exit 2∧IG1 P A cc H0 n0 s es x 2 s') (fun i st hle hI=>?_) h (fun e s' h=>by
  obtain⟨rfl,h⟩:=h
  exact hk s' h)
 obtain⟨c0,⟨i4,b4,L4⟩,c5,⟨y,z,⟨i8,b8,L8⟩,oy,oz⟩,c36,c37,hp,fr,hn⟩:=hI
 have i12:IntKind.i64.wrap 1=1:=rfl
 have i22:IntKind.i64.wrap 2=2:=rfl
 have xs:x.scal=true∧x.out=true:=by
  rcases hx with⟨w,rfl,hw⟩ | ⟨id,_,rfl,_⟩
  ·exact⟨hw.scal,rfl⟩
  ·exact⟨rfl,rfl⟩
 have ys:=oy.scal
 have zs:=oz.scal
 by_cases hi:i<2
 ·have hb:=hp.blk
  simp only[rowPr] at hb
  obtain⟨tr,to,tp,tn,_,_⟩:=tellS_r A s es i
  obtain⟨k1,e1,hk1⟩:=rel_con hp.rl (d:=d+3) (n:=st.n) (lo:=0)
  obtain⟨k2,e2,hk2⟩:=in_eq DG (d+2) hp.fd (by rw[to]; exact fo.o0) (by rw[to]; exact fo.ol) (by rw[tp]; exact fo.pl) (n:=k1) (fun j hj=>by have:=(hp.cf j hj).2; omega) 0
  rw[tr] at e1
  rw[to,tp] at e2
  have hp2:=hp.mono (c':=rc cc n0 7) (n':=k2) (by omega) (fun _ _=>rfl) (fun _ _ _=>rfl)
  have huo:=uo i hi
  rw[← tellS_u A s es hi] at huo
  have cma:CmA (fun j=>rc (rc cc n0 7) k2 i j=i) st.H.get k2 x (cmF es):=by
   rcases hx with h | ⟨id,⟨q1,q2⟩,q3,q4⟩
   ·exact .inl h
   ·refine .inr ⟨id,⟨by omega,fun e=>?_⟩,q3,by rw[fr id q1 (by omega)]; exact q4⟩
    have e:rc (rc cc n0 7) k2 i id=i:=e
    rw[rc_lt (by omega),rc_lt q1] at e
    omega
  obtain⟨v5,H5,n5,e5,⟨hn5,hu5,f5⟩,o5⟩:=Cycle_fnU (d:=d+1) (by omega) (ao.ok i hi) (ao.is i hi) (hp2.ui hi) (fun j hj=>rc_ge hj) huo.inv ⟨by have:=huo.ct; omega,huo.ct.2⟩ (by have:=huo.lf; omega) (in_io fo) cma (by have:=rb3; have:=cmF_len es; omega) (decide (s.r.con=(i:Int)))
  rw[tellS_u A s es hi] at hu5 o5
  have hcy:cycleF (A.l i) (s.u i) s.occ (s.pts.map (·.l)) (decide (s.r.con=(i:Int))) (cmF es)=cyI A s es i:=rfl
  rw[hcy] at hu5 o5
  have hp5:=hp2.setuo hi hn5 hu5 f5 (c':=rc cc n0 7) (fun _ _=>rfl)
  rw[← tellS_succ A s es hi] at hp5
  have g5:∀ j,j<k2→rc cc n0 7 j=7→H5.get j=st.H.get j:=fun j hj e=>f5 j hj (fun e2=>by
   have e2:rc (rc cc n0 7) k2 i j=i:=e2
   rw[rc_lt hj,e] at e2
   omega)
  have fr5:∀ j,j<n0→6<cc j→H5.get j=H0.get j:=fun j hj h6=>(f5 j (by omega) (fun e=>by
   have e:rc (rc cc n0 7) k2 i j=i:=e
   rw[rc_lt (by omega),rc_lt hj] at e
   omega)).trans (fr j hj h6)
  obtain⟨v1,v2,rfl,o1,o2⟩:=o5
  have s1:=o1.scal
  have s2:=o2.scal
  have oy5:OutAt H5.get n0 n5 y ((outI A s es i).1.map ivI):=oy.keep (by omega) (fun j h1 h2=>g5 j (by omega) (rc_ge h1))
  have oz5:OutAt H5.get n0 n5 z ((outI A s es i).2.map ivB1):=oz.keep (by omega) (fun j h1 h2=>g5 j (by omega) (rc_ge h1))
  have su:=outI_succ A s es hi
  have fin:∀ {T:PT DV}{L:PT LV}{y' z':DV},OutAt H5.get n0 n5 y' ((outI A s es (i+1)).1.map ivI)→OutAt H5.get n0 n5 z' ((outI A s es (i+1)).2.map ivB1)→T.get 0=some (.ptr P 0 0)→(∃ id,T.get 4=some (.lref 4 id 0)∧L.get 4=some (.box id [.imm .nils,.imm .nils]))→T.get 5=some x→(∃ id,T.get 8=some (.lref 8 id 0)∧L.get 8=some (.box id [y',z']))→T.get 36=some (.agg [.ptr (A.a 0) 0 0,.ptr (A.a 1) 0 0])→T.get 37=some (.imm (.int .i64 ((i:Int)+1)))→∀ m,n5≤m→IG1 P A cc H0 n0 s es x (i+1) ⟨T,L,H5,m⟩:=fun oa ob h0 h4 h5 h8 h36 h37 m hm=>
   ⟨h0,h4,h5,⟨_,_,h8,oa.keep hm (fun _ _ _=>rfl),ob.keep hm (fun _ _ _=>rfl)⟩,h36,h37,hp5.mono hm (fun _ _=>rfl) (fun _ _ _=>rfl),fr5,by show n0≤m; omega⟩
  generalize hQ:(fun (e:Ex) (s':St)=>_)=Q'
  simp only[D.l53_1b]
  by_cases hc:s.r.con=(i:Int)
  ·rw[if_pos hc] at su
   have oa:OutAt H5.get n0 n5 v1 ((outI A s es (i+1)).1.map ivI):=by rw[su]; exact o1.low (by omega)
   have ob:OutAt H5.get n0 n5 v2 ((outI A s es (i+1)).2.map ivB1):=by rw[su]; exact o2.low (by omega)
   simp only[hc,decide_true] at e5
   rw[hc] at e1
   obtain rfl | rfl:i=0∨i=1:=by omega
   ·rw[show ((0:Nat):Int)=0 from rfl] at c37 e1
    simp[c0,b4,L4,c5,b8,L8,c36,c37,hb,il02,i12,e1,e2,e5,xs.1,xs.2,s1.1,s1.2,s2.1,s2.2,imms,B6,B7]
    subst hQ
    exact .inl ⟨rfl,by omega,fin oa ob (by simp[gP,c0]) ⟨i4,by simp[gP,b4],by simp[gP,L4]⟩ (by simp[gP,c5]) ⟨i8,by simp[gP,b8],by simp[gP,L8]⟩ (by simp[gP,c36]) (by simp[gP]) _ (by omega)⟩
   ·rw[show ((1:Nat):Int)=1 from rfl] at c37 e1
    simp[c0,b4,L4,c5,b8,L8,c36,c37,hb,il12,i22,e1,e2,e5,xs.1,xs.2,s1.1,s1.2,s2.1,s2.2,imms,B6,B7]
    subst hQ
    exact .inl ⟨rfl,by omega,fin oa ob (by simp[gP,c0]) ⟨i4,by simp[gP,b4],by simp[gP,L4]⟩ (by simp[gP,c5]) ⟨i8,by simp[gP,b8],by simp[gP,L8]⟩ (by simp[gP,c36]) (by simp[gP]) _ (by omega)⟩
  ·rw[if_neg hc] at su
   rw[← su] at oy5 oz5
   simp only[hc,decide_false] at e5
   obtain rfl | rfl:i=0∨i=1:=by omega
   ·rw[show ((0:Nat):Int)=0 from rfl] at c37 hc
    simp[c0,b4,L4,c5,b8,L8,c36,c37,hb,il02,i12,e1,e2,e5,hc,xs.1,xs.2,ys.1,zs.1,s1.1,s1.2,s2.1,s2.2,imms,B6,B7]
    subst hQ
    exact .inl ⟨rfl,by omega,fin oy5 oz5 (by simp[gP,c0]) ⟨i4,by simp[gP,b4],by simp[gP,L4]⟩ (by simp[gP,c5]) ⟨i8,by simp[gP,b8],by simp[gP,L8]⟩ (by simp[gP,c36]) (by simp[gP]) _ (by omega)⟩
   ·rw[show ((1:Nat):Int)=1 from rfl] at c37 hc
    simp[c0,b4,L4,c5,b8,L8,c36,c37,hb,il12,i22,e1,e2,e5,hc,xs.1,xs.2,ys.1,zs.1,s1.1,s1.2,s2.1,s2.2,imms,B6,B7]
    subst hQ
    exact .inl ⟨rfl,by omega,fin oy5 oz5 (by simp[gP,c0]) ⟨i4,by simp[gP,b4],by simp[gP,L4]⟩ (by simp[gP,c5]) ⟨i8,by simp[gP,b8],by simp[gP,L8]⟩ (by simp[gP,c36]) (by simp[gP]) _ (by omega)⟩
 ·obtain rfl:i=2:=by omega
  rw[show ((2:Nat):Int)=2 from rfl] at c37
  generalize hQ:(fun (e:Ex) (s':St)=>_)=Q'
  simp only[D.l53_1b]
  simp[c0,b4,L4,c5,b8,L8,c36,c37,ilt_self,ys.1,zs.1,B6,B7]
  subst hQ
  exact .inr ⟨nofun,rfl,by simp[gP,c0],⟨i4,by simp[gP,b4],by simp[gP,L4]⟩,by simp[gP,c5],⟨y,z,⟨i8,by simp[gP,b8],by simp[gP,L8]⟩,oy,oz⟩,by simp[gP,c36],by simp[gP,c37],hp,fr,hn⟩
theorem rc_rc {k:Nat}(h:n≤m) (j:Nat):rc (rc c n k) m k j=rc c n k j:=by
 by_cases h1:j<m
 ·rw[rc_lt h1]
 ·rw[rc_ge (by omega),rc_ge (by omega)]
theorem tells_fn {d:Nat}(hd:10≤d) {P:Nat}(ao:AOk A)(h:PAt c H n P A s)(uo:∀ i,i<2→UOk (A.l i) t (s.u i)) (fo:FOk s)(hv:Sl 5 v (es.map ivE)) (hel:es.length≤1000) :
  Fe (K DG (d+5) 53 [.ptr P 0 0,.imm v] H n 0) (fun v' H' n'=>n≤n'∧PAt (rc c n 7) H' n' P A (tellS A s es 2)∧(∀ j,j<n→6<c j→H'.get j=H.get j)∧OutD H'.get n n' v' (outI A s es 2).1 (outI A s es 2).2):=by
 have vs:=hv.scal
 have vl:=hv.len
 simp only[List.length_map] at vl
 rw[kX 53 D.f53 rfl]
 refine fn_dw rfl ?_
 simp[vs,vl,B6,B7]
 refine loopG0 (P:=P) (H0:=H) (n0:=n) hv hel ⟨by simp[gP],⟨n,by simp[gP],by simp[gP,imms]⟩,by simp[gP],by simp[gP],by simp[gP],⟨.imm .nils,by simp[gP],.inl ⟨rfl,by simp[cmF]⟩⟩,fun _ _=>rfl,by simp⟩ (fun s1 hI=>?_)
 obtain⟨c0,⟨i4,b4,L4⟩,c13,c14,c15,⟨x,c5,hx⟩,fr,hn⟩:=hI
 rw[List.take_length] at hx
 have h1:=h.mono (c':=rc c n 7) (H':=s1.H) (n':=s1.n) hn (fun j hj=>rc_lt hj) (fun j hj _=>fr j hj)
 have hb:=h1.blk
 simp only[rowPr] at hb
 obtain⟨rs,lk⟩:=h1.kk
 have es1:=Safe_ro (d:=d+3) ao.oks ao.iss.p2 ao.iss.g2 lk (n:=s1.n) (lo:=0) (h1.ck _ (by simp)).2
 have xs:=hx.scal
 simp[c0,b4,L4,c5,xs,hb,es1,safeV,imms,B6,B7]
 refine loopG1 (P:=P) (A:=A) (cc:=rc c n 7) (H0:=s1.H) (n0:=s1.n) (s:=s) (es:=es) (x:=x) (t:=t) hd ao uo fo hel ?_ ⟨by simp[gP,c0],⟨i4,by simp[gP,b4],by simp[gP,L4]⟩,by simp[gP,c5],⟨_,_,⟨_,by simp[gP]; rfl,by simp[gP]; exact⟨rfl,rfl⟩⟩,.inl ⟨_,rfl,?_⟩,.inl ⟨_,rfl,?_⟩⟩,by simp[gP],by simp[gP],?_,(by intros; rfl),by simp; omega⟩ (fun s2 hI=>?_)
 ·rcases hx with⟨rfl,hx⟩ | ⟨id,⟨q1,q2⟩,q3,q4⟩
  ·exact .inl ⟨_,rfl,.inl ⟨rfl,hx⟩⟩
  ·exact .inr ⟨id,⟨q2,rc_ge q1⟩,by simpa using q3,q4⟩
 ·exact .inr ⟨false,by simp[outI,ivI]⟩
 ·exact .inr ⟨false,by simp[outI,ivB1]⟩
 ·exact h1.mono (by simp; omega) (fun j hj=>rc_lt hj) (fun _ _ _=>rfl)
 obtain⟨c0,⟨i4,b4,L4⟩,c5,⟨y,z,⟨i8,b8,L8⟩,oy,oz⟩,c36,c37,hp,fr2,hn2⟩:=hI
 have ys:=oy.scal
 have zs:=oz.scal
 simp[c0,b4,L4,b8,L8,ys.1,zs.1,ys.2,zs.2,imms,B6,B7]
 refine⟨by omega,hp.mono (Nat.le_refl _) (fun j _=>(rc_rc hn j).symm) (fun _ _ _=>rfl),fun j hj h6=>(fr2 j (by omega) (by rw[rc_lt hj]; exact h6)).trans (fr j hj),y,z,rfl,oy.low hn,oz.low hn⟩
structure PI (A:PLc) (k:Int) (s:PS):Prop where
 uo:∀ i,i<2→UOk (A.l i) s.now (s.u i)
 fo:FOk s
 rk:ROk s.r
 ek:s.r.ep≤2*s.r.now - k
 rn:s.r.now=s.now
 ml:∀ i,(s.snt i).length≤100000∧(s.cam i).length≤100000
theorem upF_len {f:Nat→List UInt8}(h:∀ i,(f i).length≤100000)(hb:bs.length≤100000) (i j:Nat):(upF f i bs j).length≤100000:=by
 unfold upF
 split
 ·exact hb
 ·exact h j
theorem PI.setu(h:PI A k s)(hu:i<2→UOk (A.l i) s.now u):PI A k (setU s i u):=by
 refine⟨fun j hj=>?_,⟨h.fo.o0,h.fo.ol,h.fo.pl⟩,h.rk,h.ek,h.rn,h.ml⟩
 simp only[setU,upF]
 split
 ·rename_i e
  subst e
  exact hu hj
 ·exact h.uo j hj
theorem trainF_len (occ:List Bool) (k:Int):(trainF occ k).length=occ.length:=by
 unfold trainF flipAt
 split <;> simp
theorem stickF_len (pts:List FPt) (k:Int):(stickF pts k).length=pts.length:=by
 unfold stickF
 split <;> simp
theorem FOk.field(h:FOk s){occ:List Bool}{pts:List FPt}(ho:occ.length=s.occ.length) (hp:pts.length=s.pts.length):FOk (setF s occ pts):=
 ⟨fun e=>h.o0 (by
  have e:occ=[]:=e
  rw[e] at ho
  exact List.length_eq_zero_iff.1 ho.symm),by show occ.length≤1000; rw[ho]; exact h.ol,by show pts.length≤1000; rw[hp]; exact h.pl⟩
theorem PI.hap(h:PI A k s) (e:EV):PI A k (hapF A s e):=by
 unfold hapF
 split
 ·split
  ·exact h.setu fun hi=>(h.uo _ hi).crash
  ·exact h
 ·split
  ·split
   ·exact h.setu fun hi=>(h.uo _ hi).start
   ·exact h
  ·split
   ·exact⟨h.uo,h.fo.field (trainF_len _ _) rfl,h.rk,h.ek,h.rn,h.ml⟩
   ·split
    ·exact⟨h.uo,h.fo.field rfl (stickF_len _ _),h.rk,h.ek,h.rn,h.ml⟩
    ·exact h
theorem yield_ep (r:RLS) (u:Int):(yieldRL r u).ep=r.ep∧(yieldRL r u).now=r.now:=by
 unfold yieldRL
 split <;> exact⟨rfl,rfl⟩
theorem PI.yld(h:PI A k s) (e:EV):PI A k (yldF A s e):=by
 unfold yldF
 split
 ·have h':=h.setu (i:=e.u.toNat) (u:=leavesF (A.l e.u.toNat) (s.u e.u.toNat)) fun hi=>(h.uo _ hi).leaves
  refine⟨h'.uo,⟨h'.fo.o0,h'.fo.ol,h'.fo.pl⟩,h.rk.yield _,?_,?_,h.ml⟩
  ·show (yieldRL s.r e.u).ep≤2*(yieldRL s.r e.u).now - k
   rw[(yield_ep _ _).1,(yield_ep _ _).2]
   exact h.ek
  ·show (yieldRL s.r e.u).now=s.now
   rw[(yield_ep _ _).2]
   exact h.rn
 ·exact h
theorem PI.ylds {A:PLc}{k:Int}:∀ (es:List EV){s:PS},PI A k s→PI A k (yldsF A s es)
 | [],s,h=>h
 | e::es,s,h=>PI.ylds es (s:=yldF A s e) (h.yld e)
theorem ask_ok(h:ROk r)(ek:r.ep≤2*r.now - k) (hk:1≤k) (u:Int){c:Int}(hc:0≤c∧c≤9223372036854775807):ROk (askRL r u c).1∧(askRL r u c).1.ep≤2*(askRL r u c).1.now - (k - 1)∧(askRL r u c).1.now=r.now∧0≤(askRL r u c).2.2.1∧(askRL r u c).2.2.1≤9223372036854775807:=by
 have n0:=h.n0
 have a0:=h.a0
 have e0:=h.e0
 have l0:=h.l0
 unfold askRL
 split
 ·exact⟨⟨n0,by simp only; omega,e0,hc⟩,by simp only; omega,rfl,l0.1,l0.2⟩
 ·split
  ·exact⟨⟨n0,by simp only; omega,by simp only; omega,l0⟩,by simp only; omega,rfl,l0.1,l0.2⟩
  ·exact⟨h,by simp only; omega,rfl,Int.le_refl _,by simp only; omega⟩
theorem PI.ask(h:PI A k s) (hk:1≤k)(hi:i<2) (deaf:Bool):PI A (k - 1) (askF A s i deaf):=by
 obtain⟨h1,h2,h3,h4,h5⟩:=ask_ok h.rk h.ek hk (i:Int) (h.uo i hi).ct
 have hs:PI A (k - 1) (setRl s (askRL s.r i (s.u i).count).1):=⟨h.uo,⟨h.fo.o0,h.fo.ol,h.fo.pl⟩,h1,h2,h3.trans h.rn,h.ml⟩
 unfold askF
 split
 ·split
  ·exact hs.setu fun hi=>(h.uo i hi).grant _ ⟨h4,h5⟩
  ·exact hs
 ·exact⟨h.uo,h.fo,h.rk,by have:=h.ek; omega,h.rn,h.ml⟩
theorem PI.tell(ao:AOk A)(h:PI A k s) (es:List EV):PI A k (tellS A s es i):=by
 have hc:∀ i,i<2→UOk (A.l i) s.now (cyI A s es i).1:=fun i hi=>(h.uo i hi).cycle (ao.is i hi) _ _ _ _
 unfold tellS
 split
 ·exact h
 ·split
  ·exact h.setu fun hi=>hc 0 hi
  ·exact (h.setu (i:=0) fun hi=>hc 0 hi).setu fun hi=>hc 1 hi
theorem PI.sent(h:PI A k s) (i:Nat)(hb:bs.length≤100000):PI A k (sentF s i bs):=by
 unfold sentF
 split
 ·exact h
 ·exact⟨h.uo,⟨h.fo.o0,h.fo.ol,h.fo.pl⟩,h.rk,h.ek,h.rn,fun j=>⟨upF_len (fun i=>(h.ml i).1) hb i j,(h.ml j).2⟩⟩
theorem PI.ends(ao:AOk A)(h:PI A k s) (es:List EV):PI A k (endsF s es):=by
 have h2:PI A k (sendI s 2):=by
  unfold sendI
  rw[if_neg (by omega),if_neg (by omega)]
  refine (h.sent 0 (send_len ((h.uo 0 (by omega)).len (ao.is 0 (by omega))))).sent 1 (send_len ((h.uo 1 (by omega)).len (ao.is 1 (by omega))))
 unfold endsF turnF
 refine⟨h2.uo,⟨h2.fo.o0,h2.fo.ol,h2.fo.pl⟩,h2.rk,h2.ek,h2.rn,fun j=>⟨Nat.zero_le _,?_⟩⟩
 show (cameF _ _ _ j).length≤100000
 unfold cameF
 split
 ·exact Nat.zero_le _
 ·rw[spoilF_len]
  exact (h2.ml _).1
theorem begin_ok(h:ROk r) (ht:r.now+1≤100000):ROk (beginRL r (r.now+1))∧(beginRL r (r.now+1)).ep=r.ep∧(beginRL r (r.now+1)).now=r.now+1:=by
 have n0:=h.n0
 have a0:=h.a0
 have e0:=h.e0
 have l0:=h.l0
 unfold beginRL
 rw[if_neg (by omega)]
 split
 ·exact⟨⟨by simp only[goRL]; omega,by simp only[goRL]; omega,by simp only[goRL]; omega,l0⟩,rfl,rfl⟩
 ·exact⟨⟨by simp only; omega,by simp only; omega,by simp only; omega,l0⟩,rfl,rfl⟩
noncomputable def begS (s:PS):PS:=setRl (setN s (s.now+1)) (beginRL s.r (s.now+1))
structure PI' (A:PLc) (k:Int) (s:PS) (b:Nat):Prop where
 uo:∀ i,i<2→UOk (A.l i) (if i<b then s.now else s.now - 1) (s.u i)
 fo:FOk s
 rk:ROk s.r
 ek:s.r.ep≤2*s.r.now - k
 rn:s.r.now=s.now
 ml:∀ i,(s.snt i).length≤100000∧(s.cam i).length≤100000
theorem PI.beg(h:PI A 0 s) (ht:s.now+1≤100000):PI' A 2 (begS s) 0:=by
 have hn:=h.rn
 obtain⟨h1,h2,h3⟩:=begin_ok h.rk (by omega)
 rw[hn] at h1 h2 h3
 refine⟨fun i hi=>?_,⟨h.fo.o0,h.fo.ol,h.fo.pl⟩,h1,?_,h3,h.ml⟩
 ·rw[if_neg (by omega)]
  show UOk (A.l i) (s.now+1 - 1) (s.u i)
  rw[show s.now+1 - 1=s.now by omega]
  exact h.uo i hi
 ·show (beginRL s.r (s.now+1)).ep≤2*(beginRL s.r (s.now+1)).now - 2
  rw[h2,h3]
  have:=h.ek
  omega
theorem PI'.setu{b:Nat}(h:PI' A k s b)(hu:i<2→UOk (A.l i) (if i<b then s.now else s.now - 1) u):PI' A k (setU s i u) b:=by
 refine⟨fun j hj=>?_,⟨h.fo.o0,h.fo.ol,h.fo.pl⟩,h.rk,h.ek,h.rn,h.ml⟩
 simp only[setU,upF]
 by_cases e:j=i
 ·subst e
  rw[if_pos rfl]
  exact hu hj
 ·rw[if_neg e]
  exact h.uo j hj
theorem PI'.hap{b:Nat}(h:PI' A k s b) (e:EV):PI' A k (hapF A s e) b:=by
 unfold hapF
 split
 ·split
  ·exact h.setu fun hi=>(h.uo _ hi).crash
  ·exact h
 ·split
  ·split
   ·exact h.setu fun hi=>(h.uo _ hi).start
   ·exact h
  ·split
   ·exact⟨h.uo,h.fo.field (trainF_len _ _) rfl,h.rk,h.ek,h.rn,h.ml⟩
   ·split
    ·exact⟨h.uo,h.fo.field rfl (stickF_len _ _),h.rk,h.ek,h.rn,h.ml⟩
    ·exact h
open Classical in
noncomputable def thStep (A:PLc) (es:List EV) (s:PS) (i:Nat):PS:=
 setU (setL (setU s i (tickF (A.l i) (s.u i) (dec (Has es 3 (i:Int))))) s.snt (upF s.cam i [])) i (hearF (A.l i) (tickF (A.l i) (s.u i) (dec (Has es 3 (i:Int)))) (s.cam i))
noncomputable def thS (A:PLc) (es:List EV) (s:PS):Nat→PS
 | 0=>s
 | i+1=>thStep A es (thS A es s i) i
theorem PI'.th(h:PI' A k s i) (es:List EV) (hi:i<2):PI' A k (thStep A es s i) (i+1):=by
 have hu:=h.uo i hi
 rw[if_neg (by omega)] at hu
 have ht:=hu.tick (dec (Has es 3 (i:Int)))
 rw[show s.now - 1+1=s.now by omega] at ht
 refine⟨fun j hj=>?_,⟨h.fo.o0,h.fo.ol,h.fo.pl⟩,h.rk,h.ek,h.rn,fun j=>⟨(h.ml j).1,upF_len (fun i=>(h.ml i).2) (Nat.zero_le _) i j⟩⟩
 simp only[thStep,setU,setL,upF]
 by_cases e:j=i
 ·subst e
  rw[if_pos rfl,if_pos (by omega)]
  exact ht.hear _
 ·rw[if_neg e,if_neg e]
  have:=h.uo j hj
  by_cases h1:j<i
  ·rw[if_pos h1] at this
   rw[if_pos (by omega)]
   exact this
  ·rw[if_neg h1] at this
   rw[if_neg (by omega)]
   exact this
theorem PI'.full(h:PI' A k s 2):PI A k s:=⟨fun i hi=>by
 have:=h.uo i hi
 rw[if_pos hi] at this
 exact this,h.fo,h.rk,h.ek,h.rn,h.ml⟩
noncomputable def hapsF (A:PLc) (s:PS) (es:List EV):PS:=es.foldl (hapF A) s
theorem hapsF_succ(hi:i<es.length):hapsF A s (es.take (i+1))=hapF A (hapsF A s (es.take i)) (nth es i):=by
 rw[List.take_add_one,List.getElem?_eq_getElem hi]
 unfold hapsF
 rw[List.foldl_append]
 simp[nth,List.getD_eq_getElem?_getD,List.getElem?_eq_getElem hi]
structure IH0 (P:Nat) (A:PLc) (k:Int) (cc:Nat→Nat) (H0:PT HB) (n0:Nat) (s:PS) (v:IV) (es:List EV) (i:Nat) (st:St):Prop where
 c0:st.T.get 0=some (.ptr P 0 0)
 c1:st.T.get 1=some (.imm v)
 b4:BoxD st 4 [.imm .nils,.imm .nils]
 c37:st.T.get 37=some (.imm v)
 c38:st.T.get 38=some (.imm (.int .i64 (es.length:Int)))
 c39:st.T.get 39=some (.imm (.int .i64 (i:Int)))
 pr:PR P A cc H0 n0 (hapsF A s (es.take i)) st.H st.n
 pi:PI' A k (hapsF A s (es.take i)) 0
theorem loopH0 {d:Nat}(hd:10≤d){P:Nat}(ao:AOk A)(hv:Sl 5 v (es.map ivE)) (hl:es.length≤1000){st:St}(h:IH0 P A k cc H0 n0 s v es 0 st){ks:List Kf}{Q:Ex→St→Prop}
  (hk:∀ s',IH0 P A k cc H0 n0 s v es es.length s'→Bk DG (K DG (d+12)) 0 (.exit 0) ks s' Q):Wp DG (K DG (d+12)) 0 D.l12_0 ks st Q:=by
 have hlr:es.length≤reachBytes:=by have:=rb3; omega
 refine dw_loop (N:=es.length) (small hlr) (fun i st=>IH0 P A k cc H0 n0 s v es i st) (fun e s'=>e=.exit 0∧IH0 P A k cc H0 n0 s v es es.length s') (fun i st hle hI=>?_) h (fun e s' h=>by
  obtain⟨rfl,h⟩:=h
  exact hk s' h)
 obtain⟨c0,c1,⟨i4,b4,L4⟩,c37,c38,c39,⟨hn,c',hp,hc,hf⟩,pi⟩:=hI
 have vs:=hv.scal
 by_cases hi:i<es.length
 ·have hi1:(i:Int)<es.length:=by omega
  have hi':=ilt_t hi1
  have hw8:IntKind.i64.wrap ((i:Int)+1)=(i:Int)+1:=wr_succ hi hlr
  have ix:=fun {h:Nat→Option HB}{n:Nat}=>idx_sl (h:=h) (n:=n) hv (by omega) (k:=.i64) (z:=(i:Int)) (by omega) hi1
  simp only[Int.toNat_natCast] at ix
  have su:=hapsF_succ (A:=A) (s:=s) hi
  generalize hapsF A s (es.take i)=a at *
  generalize nth es i=y at *
  have hp1:=hp.mono (c':=c') (n':=st.n+1) (by omega) (fun _ _=>rfl) (fun _ _ _=>rfl)
  obtain⟨v2,H2,n2,e2,r2⟩:=happens_fn (d:=d+8) (by omega) hp1 ao pi.fo.o0 y
  have pr2:=PR.comp hn hc hf (PR.comp (show st.n≤st.n+1 by omega) (fun _ _=>rfl) (fun _ _ _=>rfl) r2)
  have pi2:=pi.hap y
  rw[← su] at pr2 pi2
  obtain⟨k1,u,z,y1,y2⟩:=y
  simp only[evD] at e2
  generalize hQ:(fun (e:Ex) (s':St)=>_)=Q'
  simp only[D.l12_0b]
  simp[c0,c1,b4,L4,c37,c38,c39,vs,hi',hw8,ix,ivE,imms,e2,B6,B7]
  subst hQ
  exact .inl ⟨rfl,hi,by simp[gP,c0],by simp[gP,c1],⟨i4,by simp[gP,b4],by simp[gP,L4]⟩,by simp[gP,c37],by simp[gP,c38],by simp[gP],pr2,pi2⟩
 ·obtain rfl:i=es.length:=by omega
  generalize hQ:(fun (e:Ex) (s':St)=>_)=Q'
  simp only[D.l12_0b]
  simp[c0,c1,b4,L4,c37,c38,c39,vs,ilt_self,B6,B7]
  subst hQ
  exact .inr ⟨nofun,rfl,by simp[gP,c0],by simp[gP,c1],⟨i4,by simp[gP,b4],by simp[gP,L4]⟩,by simp[gP,c37],by simp[gP,c38],by simp[gP,c39],⟨hn,c',hp,hc,hf⟩,pi⟩
structure IH1 (P:Nat) (A:PLc) (k:Int) (cc:Nat→Nat) (H0:PT HB) (n0:Nat) (s:PS) (v:IV) (es:List EV) (i:Nat) (st:St):Prop where
 c0:st.T.get 0=some (.ptr P 0 0)
 c1:st.T.get 1=some (.imm v)
 b4:BoxD st 4 [.imm .nils,.imm .nils]
 c50:st.T.get 50=some (.agg [.ptr (A.a 0) 0 0,.ptr (A.a 1) 0 0])
 c51:st.T.get 51=some (.imm (.int .i64 (i:Int)))
 pr:PR P A cc H0 n0 (thS A es s i) st.H st.n
 pi:PI' A k (thS A es s i) i
theorem loopH1 {d:Nat}(hd:10≤d){P:Nat}(ao:AOk A)(hv:Sl 5 v (es.map ivE)) (hl:es.length≤1000){st:St}(h:IH1 P A k cc H0 n0 s v es 0 st){ks:List Kf}{Q:Ex→St→Prop}
  (hk:∀ s',IH1 P A k cc H0 n0 s v es 2 s'→Bk DG (K DG (d+12)) 0 (.exit 2) ks s' Q):Wp DG (K DG (d+12)) 0 D.l12_1 ks st Q:=by
 have hlr:es.length≤reachBytes:=by have:=rb3; omega
 refine dw_loop (N:=2) (small (by have:=rb3; omega)) (fun i st=>IH1 P A k cc H0 n0 s v es i st) (fun e s'=>e=.exit 2∧IH1 P A k cc H0 n0 s v es 2 s') (fun i st hle hI=>?_) h (fun e s' h=>by
  obtain⟨rfl,h⟩:=h
  exact hk s' h)
 obtain⟨c0,c1,⟨i4,b4,L4⟩,c50,c51,⟨hn,c',hp,hc,hf⟩,pi⟩:=hI
 have vs:=hv.scal
 have i12:IntKind.i64.wrap 1=1:=rfl
 have i22:IntKind.i64.wrap 2=2:=rfl
 by_cases hi:i<2
 ·have su:thS A es s (i+1)=thStep A es (thS A es s i) i:=rfl
  have pi2:=pi.th es hi
  generalize thS A es s i=a at *
  have of3:=of_bl (D:=d+12) (by omega) hv hlr 3 (i:Int)
  have uo:=pi.uo i hi
  rw[if_neg (by omega)] at uo
  have tk:=uo.tk
  have rn:=pi.rn
  have n0':=pi.rk.n0
  obtain⟨v2,H2,n2,e2,r2⟩:=Tick_fn (d:=d+8) (by omega) (ao.ok i hi) (ao.is i hi) (hp.ui hi) (fun j hj=>rc_ge hj) tk.1 (by omega) (dec (Has es 3 (i:Int)))
  obtain⟨hn2,c2,p2,q2,f2⟩:=hp.setu_pr hi r2
  obtain⟨w,H3,n3,e3,⟨ws,w',hws,hw⟩,r3⟩:=Take_fn (d:=d+10) p2 hi
  obtain⟨hn3,c3,p3,q3,f3⟩:=r3
  have huo:=uo.tick (dec (Has es 3 (i:Int)))
  have e4u:∀ T:US,(setL (setU a i T) (setU a i T).snt (upF (setU a i T).cam i [])).u i=T:=fun T=>by simp[setL,setU,upF]
  have e4:=e4u (tickF (A.l i) (a.u i) (dec (Has es 3 (i:Int))))
  have hi3:=p3.ui hi
  rw[e4] at hi3
  obtain⟨v4,H4,n4,e4,r4⟩:=Hear_fn (d:=d) (ao.ok i hi) (ao.is i hi) hi3 (fun j hj=>rc_ge hj) huo.inv ws.1 hws hw (pi.ml i).2
  have pr4:PR P A cc H0 n0 (thStep A es a i) H4 n4:=PR.comp hn hc hf (PR.comp hn2 q2 f2 (PR.comp hn3 q3 f3 (p3.setu_pr hi r4)))
  rw[← su] at pr4 pi2
  have hb:=hp.blk
  have hb2:=p2.blk
  simp only[rowPr] at hb hb2
  obtain rfl | rfl:i=0∨i=1:=by omega
  ·rw[show ((0:Nat):Int)=0 from rfl] at c51 of3 e2 e3
   generalize hQ:(fun (e:Ex) (s':St)=>_)=Q'
   simp only[D.l12_1b]
   simp[c0,c1,b4,L4,c50,c51,vs,hb,hb2,il02,i12,of3,e2,e3,e4,ws,B6,B7]
   subst hQ
   exact .inl ⟨rfl,by omega,by simp[gP,c0],by simp[gP,c1],⟨i4,by simp[gP,b4],by simp[gP,L4]⟩,by simp[gP,c50],by simp[gP],pr4,pi2⟩
  ·rw[show ((1:Nat):Int)=1 from rfl] at c51 of3 e2 e3
   generalize hQ:(fun (e:Ex) (s':St)=>_)=Q'
   simp only[D.l12_1b]
   simp[c0,c1,b4,L4,c50,c51,vs,hb,hb2,il12,i22,of3,e2,e3,e4,ws,B6,B7]
   subst hQ
   exact .inl ⟨rfl,by omega,by simp[gP,c0],by simp[gP,c1],⟨i4,by simp[gP,b4],by simp[gP,L4]⟩,by simp[gP,c50],by simp[gP],pr4,pi2⟩
 ·obtain rfl:i=2:=by omega
  rw[show ((2:Nat):Int)=2 from rfl] at c51
  generalize hQ:(fun (e:Ex) (s':St)=>_)=Q'
  simp only[D.l12_1b]
  simp[c0,c1,b4,L4,c50,c51,vs,ilt_self,B6,B7]
  subst hQ
  exact .inr ⟨nofun,rfl,by simp[gP,c0],by simp[gP,c1],⟨i4,by simp[gP,b4],by simp[gP,L4]⟩,by simp[gP,c50],by simp[gP,c51],⟨hn,c',hp,hc,hf⟩,pi⟩
def oIx (f i:Nat):Nat:=if i=0 then f else 1 - f
noncomputable def asksS (A:PLc) (es:List EV) (f:Nat) (s:PS):Nat→PS
 | 0=>s
 | i+1=>askF A (asksS A es f s i) (oIx f i) (dec (Has es 4 (oIx f i:Nat)))
structure IH2 (P:Nat) (A:PLc) (f:Nat) (cc:Nat→Nat) (H0:PT HB) (n0:Nat) (s:PS) (v:IV) (es:List EV) (i:Nat) (st:St):Prop where
 c0:st.T.get 0=some (.ptr P 0 0)
 c1:st.T.get 1=some (.imm v)
 b4:BoxD st 4 [.imm .nils,.imm .nils]
 c81:∃ b,st.T.get 81=some (.imm (.lst b 1 ([(f:Int),((1 - f:Nat):Int)].map ivI)))
 c82:st.T.get 82=some (.imm (.int .i64 2))
 c83:st.T.get 83=some (.imm (.int .i64 (i:Int)))
 pr:PR P A cc H0 n0 (asksS A es f s i) st.H st.n
 pi:PI A (2 - (i:Int)) (asksS A es f s i)
theorem loopH2 {d:Nat}(hd:10≤d){P:Nat}(ao:AOk A){f:Nat}(hf1:f≤1)(hv:Sl 5 v (es.map ivE)) (hl:es.length≤1000){st:St}(h:IH2 P A f cc H0 n0 s v es 0 st){ks:List Kf}{Q:Ex→St→Prop}
  (hk:∀ s',IH2 P A f cc H0 n0 s v es 2 s'→Bk DG (K DG (d+12)) 0 (.exit 4) ks s' Q):Wp DG (K DG (d+12)) 0 D.l12_2 ks st Q:=by
 have hlr:es.length≤reachBytes:=by have:=rb3; omega
 refine dw_loop (N:=2) (small (by have:=rb3; omega)) (fun i st=>IH2 P A f cc H0 n0 s v es i st) (fun e s'=>e=.exit 4∧IH2 P A f cc H0 n0 s v es 2 s') (fun i st hle hI=>?_) h (fun e s' h=>by
  obtain⟨rfl,h⟩:=h
  exact hk s' h)
 obtain⟨c0,c1,⟨i4,b4,L4⟩,⟨b,c81⟩,c82,c83,⟨hn,c',hp,hc,hf⟩,pi⟩:=hI
 have vs:=hv.scal
 have i12:IntKind.i64.wrap 1=1:=rfl
 have i22:IntKind.i64.wrap 2=2:=rfl
 by_cases hi:i<2
 ·have su:asksS A es f s (i+1)=askF A (asksS A es f s i) (oIx f i) (dec (Has es 4 (oIx f i:Nat))):=rfl
  have oi2:oIx f i<2:=by unfold oIx; split <;> omega
  have pi2:=pi.ask (by omega) oi2 (dec (Has es 4 (oIx f i:Nat)))
  generalize asksS A es f s i=a at *
  have of3:=of_bl (D:=d+12) (by omega) hv hlr 4 (oIx f i:Nat)
  have rn:=pi.rn
  have n0':=pi.rk.n0
  obtain⟨v2,H2,n2,e2,r2⟩:=asks_fn (d:=d+7) (by omega) ao hp pi.rk oi2 (by omega) (pi.uo _ oi2) (dec (Has es 4 (oIx f i:Nat)))
  have pr2:PR P A cc H0 n0 _ H2 n2:=PR.comp hn hc hf r2
  rw[← su] at pr2 pi2
  rw[show (2:Int) - (i:Int) - 1=2 - ((i+1:Nat):Int) by omega] at pi2
  have hs:Sl 1 (.lst b 1 ([(f:Int),((1 - f:Nat):Int)].map ivI)) ([(f:Int),((1 - f:Nat):Int)].map ivI):=.inr ⟨b,rfl⟩
  have ix:=fun {h:Nat→Option HB}{n:Nat}=>idx_sl (h:=h) (n:=n) hs (by omega) (k:=.i64) (z:=(i:Int)) (by omega) (by simp; omega)
  have hnt:nth [(f:Int),((1 - f:Nat):Int)] i=((oIx f i:Nat):Int):=by
   obtain rfl | rfl:i=0∨i=1:=by omega
   ·rfl
   ·rfl
  simp only[Int.toNat_natCast,hnt] at ix
  generalize hL:([(f:Int),((1 - f:Nat):Int)].map ivI)=L at *
  generalize hoi:((oIx f i:Nat):Int)=o at *
  obtain rfl | rfl:i=0∨i=1:=by omega
  ·rw[show ((0:Nat):Int)=0 from rfl] at c83 ix
   generalize hQ:(fun (e:Ex) (s':St)=>_)=Q'
   simp only[D.l12_2b]
   simp[c0,c1,b4,L4,c81,c82,c83,vs,il02,i12,ix,of3,e2,ivI,B6,B7]
   subst hQ
   exact .inl ⟨rfl,by omega,by simp[gP,c0],by simp[gP,c1],⟨i4,by simp[gP,b4],by simp[gP,L4]⟩,⟨b,by rw[hL]; simp[gP,c81]⟩,by simp[gP,c82],by simp[gP],pr2,pi2⟩
  ·rw[show ((1:Nat):Int)=1 from rfl] at c83 ix
   generalize hQ:(fun (e:Ex) (s':St)=>_)=Q'
   simp only[D.l12_2b]
   simp[c0,c1,b4,L4,c81,c82,c83,vs,il12,i22,ix,of3,e2,ivI,B6,B7]
   subst hQ
   exact .inl ⟨rfl,by omega,by simp[gP,c0],by simp[gP,c1],⟨i4,by simp[gP,b4],by simp[gP,L4]⟩,⟨b,by rw[hL]; simp[gP,c81]⟩,by simp[gP,c82],by simp[gP],pr2,pi2⟩
 ·obtain rfl:i=2:=by omega
  rw[show ((2:Nat):Int)=2 from rfl] at c83
  generalize hQ:(fun (e:Ex) (s':St)=>_)=Q'
  simp only[D.l12_2b]
  simp[c0,c1,b4,L4,c81,c82,c83,vs,ilt_self,B6,B7]
  subst hQ
  exact .inr ⟨nofun,rfl,by simp[gP,c0],by simp[gP,c1],⟨i4,by simp[gP,b4],by simp[gP,L4]⟩,⟨b,by simp[gP,c81]⟩,by simp[gP,c82],by simp[gP,c83],⟨hn,c',hp,hc,hf⟩,pi⟩
def fstN (t:Int):Nat:=((t+1) % 2).toNat
noncomputable def cy3 (A:PLc) (s:PS) (es:List EV):PS:=thS A es (hapsF A (begS s) es) 2
noncomputable def cy5 (A:PLc) (s:PS) (es:List EV):PS:=asksS A es (fstN (s.now+1)) (yldsF A (cy3 A s es) es) 2
noncomputable def cyO (A:PLc) (s:PS) (es:List EV):List Int×List Bool:=outI A (cy5 A s es) es 2
noncomputable def cy7 (A:PLc) (s:PS) (es:List EV):PS:=setF (tellS A (cy5 A s es) es 2) (cy5 A s es).occ (stp (cy5 A s es).pts (cyO A s es).1 (cy5 A s es).pts.length)
noncomputable def cycS (A:PLc) (s:PS) (es:List EV):PS:=endsF (cy7 A s es) es
theorem hap_now (A:PLc) (s:PS) (e:EV):(hapF A s e).now=s.now:=by
 unfold hapF
 repeat' split
 all_goals rfl
theorem haps_now (A:PLc):∀ (es:List EV) (s:PS),(hapsF A s es).now=s.now
 | [],s=>rfl
 | e::es,s=>(haps_now A es (hapF A s e)).trans (hap_now A s e)
theorem yld_now (A:PLc) (s:PS) (e:EV):(yldF A s e).now=s.now:=by
 unfold yldF
 split <;> rfl
theorem ylds_now (A:PLc):∀ (es:List EV) (s:PS),(yldsF A s es).now=s.now
 | [],s=>rfl
 | e::es,s=>(ylds_now A es (yldF A s e)).trans (yld_now A s e)
theorem cy3_now (A:PLc) (s:PS) (es:List EV):(cy3 A s es).now=s.now+1:=haps_now A es (begS s)
theorem PCycle_fn {d:Nat}(hd:10≤d) {P:Nat}(ao:AOk A)(h:PAt c H n P A s) (pi:PI A 0 s) (ht:s.now+1≤100000)(hv:Sl 5 v (es.map ivE)) (hel:es.length≤reachBytes) :
  Fe (K DG (d+13) 12 [.ptr P 0 0,.imm v] H n 0) (fun v' H' n'=>PR P A c H n (cycS A s (es.take 8)) H' n'∧OutD H'.get n n' v' (cyO A s (es.take 8)).1 (cyO A s (es.take 8)).2∧PI A 0 (cycS A s (es.take 8))):=by
 obtain⟨v1,j,sl,hv1,hmn⟩:∃ (v1:IV) (j:Int),(∀ {h:Nat→Option HB}{n:Nat},sliceOf h n 5 (.imm v) none (some (.imm (.int .i64 j))) none=some { v:=.imm v1,n':=n })∧Sl 5 v1 ((es.take 8).map ivE)∧(if (8:Int)<(es.length:Int) then 8 else (es.length:Int))=j:=by
  by_cases h8:8<es.length
  ·refine⟨takeV v 8,8,fun {h n}=>slc_to (h:=h) (n:=n) hv (i:=8) (by omega),takeV_sl hv 8,if_pos (by omega)⟩
  ·refine⟨takeV v es.length,es.length,fun {h n}=>slc_to (h:=h) (n:=n) hv (i:=es.length) (by omega),?_,if_neg (by omega)⟩
   rw[List.take_of_length_le (show es.length≤8 by omega)]
   have:=takeV_sl hv es.length
   rwa [List.take_length] at this
 have hel8:(es.take 8).length≤1000:=by simp; omega
 have vs:=hv.scal
 have vl:=hv.len
 simp only[List.length_map] at vl
 have vs1:=hv1.scal
 have vl1:=hv1.len
 simp only[List.length_map] at vl1
 generalize es.take 8=fs at *
 have hb:=h.blk
 have hn0:=pi.rk.n0
 have hrn:=pi.rn
 have w1:IntKind.i64.wrap (s.now+1)=s.now+1:=wr_id (by omega) (by omega)
 simp only[rowPr] at hb
 obtain⟨H1,hH1⟩:∃ H1,H1=H.put P (some ⟨7,[[.ptr (A.a 0) 0 0,.ptr (A.a 1) 0 0,.ptr A.rl 0 0,.ptr A.lk 0 0,.ptr A.fd 0 0,.ptr A.kk 0 0,.imm (.int .i64 (s.now+1))]]⟩):=⟨_,rfl⟩
 obtain⟨hn1,c1,p1,q1,f1⟩:=h.setn (H':=H1) (n':=n+1) (t:=s.now+1) (by omega) (by rw[hH1]; simp[gP,rowPr]) (fun j hj=>by rw[hH1]; simp[gP,hj])
 obtain⟨v2,H2,n2,e2,hn2,g2,f2⟩:=rel_begin (d:=d+10) (n:=n+1) p1.rl pi.rk.ok (t:=s.now+1) (by show s.r.now<_; omega) (by omega)
 have pr2:PR P A c H n (begS s) H2 n2:=PR.comp hn1 q1 f1 (p1.setr hn2 g2 f2)
 have pi2:=pi.beg ht
 have hb1:=p1.blk
 simp only[rowPr,setN] at hb1
 rw[kX 12 D.f12 rfl]
 refine fn_dw rfl ?_
 simp[vs,vl,hmn,sl,vs1,hb,w1,← hH1,hb1,e2,vl1,B6,B7]
 refine loopH0 (P:=P) (A:=A) (k:=2) (cc:=c) (H0:=H) (n0:=n) (s:=begS s) (es:=fs) hd ao hv1 hel8 ⟨by simp[gP],by simp[gP],⟨n,by simp[gP],by simp[gP,imms]⟩,by simp[gP],by simp[gP],by simp[gP],(by exact pr2),(by exact pi2)⟩ (fun s3 hI=>?_)
 obtain⟨c0,c1',⟨i4,b4,L4⟩,-,-,-,⟨hn3,c3,p3,q3,f3⟩,pi3⟩:=hI
 rw[List.take_length] at p3 pi3
 have hb3:=p3.blk
 simp only[rowPr] at hb3
 simp[c0,c1',b4,L4,hb3,vs1,B6,B7]
 refine loopH1 (P:=P) (A:=A) (k:=2) (cc:=c) (H0:=H) (n0:=n) (s:=hapsF A (begS s) fs) (es:=fs) hd ao hv1 hel8 ⟨by simp[gP,c0],by simp[gP,c1'],⟨i4,by simp[gP,b4],by simp[gP,L4]⟩,by simp[gP],by simp[gP],(by exact⟨hn3,c3,p3,q3,f3⟩),(by exact pi3)⟩ (fun s4 hI=>?_)
 obtain⟨c0,c1',⟨i4,b4,L4⟩,-,-,⟨hn4,c4,p4,q4,f4⟩,pi4⟩:=hI
 have hc3:thS A fs (hapsF A (begS s) fs) 2=cy3 A s fs:=rfl
 rw[hc3] at p4 pi4
 obtain⟨v5,H5,n5,e5,r5⟩:=yields_fn (d:=d+7) (by omega) ao p4 pi4.rk hv1 (by have:=rb3; omega)
 obtain⟨hn5,c5,p5,q5,f5⟩:=r5
 have pi5:=PI.ylds fs pi4.full
 have nq:(yldsF A (cy3 A s fs) fs).now=s.now+1:=(ylds_now A fs _).trans (cy3_now A s fs)
 have hb5:=p5.blk
 simp only[rowPr] at hb5
 obtain⟨q,hq⟩:∃ q,q=(yldsF A (cy3 A s fs) fs).now:=⟨_,rfl⟩
 rw[← hq] at hb5
 have hq1:q=s.now+1:=hq.trans nq
 obtain⟨f,hf⟩:∃ f,f=fstN (s.now+1):=⟨_,rfl⟩
 have hf1:f≤1:=by rw[hf]; unfold fstN; omega
 have wq:IntKind.i64.wrap (q+1)=q+1:=wr_id (by omega) (by omega)
 have br:∀ a:Int,binInt .rem .i64 a 2=some (.int .i64 (a.tmod 2)):=fun _=>rfl
 have tq:(q+1).tmod 2=(f:Int):=by
  rw[Int.tmod_eq_emod_of_nonneg (by omega),hf]
  unfold fstN
  omega
 have wf:IntKind.i64.wrap (1 - (f:Int))=((1 - f:Nat):Int):=by
  rw[wr_id (by omega) (by omega)]
  omega
 simp[c0,c1',b4,L4,vs1,e5,hb5,wq,br,tq,wf,evParts2,lay,unImms,unImm,mapO,rowsN,B6,B7]
 refine loopH2 (P:=P) (A:=A) (f:=f) (cc:=c) (H0:=H) (n0:=n) (s:=yldsF A (cy3 A s fs) fs) (es:=fs) hd ao hf1 hv1 hel8 ⟨by simp[gP,c0],by simp[gP,c1'],⟨i4,by simp[gP,b4],by simp[gP,L4]⟩,⟨_,by simp[gP,ivI]; rfl⟩,by simp[gP],by simp[gP],(by exact PR.comp hn4 q4 f4 ⟨hn5,c5,p5,q5,f5⟩),(by exact pi5)⟩ (fun s6 hI=>?_)
 obtain⟨c0,c1',⟨i4,b4,L4⟩,-,-,-,⟨hn6,c6,p6,q6,f6⟩,pi6⟩:=hI
 rw[hf] at p6 pi6
 have hc5:asksS A fs (fstN (s.now+1)) (yldsF A (cy3 A s fs) fs) 2=cy5 A s fs:=rfl
 rw[hc5] at p6 pi6
 have pi6:PI A 0 (cy5 A s fs):=pi6
 obtain⟨v7,H7,n7,e7,hn7,p7,f7,o7⟩:=tells_fn (d:=d+7) (by omega) ao p6 pi6.uo pi6.fo hv1 hel8
 have hb7:=p7.blk
 simp only[rowPr] at hb7
 have pi7:=pi6.tell ao fs (i:=2)
 obtain⟨-,to,tp,-,-,-⟩:=tellS_r A (cy5 A s fs) fs 2
 have fd7:=p7.fd
 rw[to,tp] at fd7
 have co:outI A (cy5 A s fs) fs 2=cyO A s fs:=rfl
 rw[co] at o7
 obtain⟨y,z,rfl,oy,oz⟩:=o7
 have ys:=oy.scal
 have zs:=oz.scal
 obtain⟨ids,hd8,hid⟩:∃ ids,Drv H7 y (cyO A s fs).1 ids∧∀ i∈ids,i∉A.fd::A.fo:=by
  rcases oy with⟨w,rfl,hw⟩ | ⟨id,⟨g1,g2⟩,rfl,hh⟩
  ·rcases hw with⟨rfl,hw⟩ | ⟨b,rfl⟩
   ·have:(cyO A s fs).1=[]:=by simpa using hw
    rw[this]
    exact⟨[],.nil,nofun⟩
   ·exact⟨[],.lst b _,nofun⟩
  ·refine⟨[id],?_,fun i hi hm=>?_⟩
   ·have:=Drv.sl (H:=H7) (id:=id) (ds:=(cyO A s fs).1) (by rw[hh,rowI_eq])
    simpa using this
   ·obtain rfl:i=id:=by simpa using hi
    have:=(p7.cf i hm).1
    rw[rc_ge g1] at this
    omega
 obtain⟨H8,n8,e8,fd8,hn8,f8⟩:=step_eq DG (d+10) fd7 hd8 hid (by have:=pi6.fo.pl; exact this) (n7+1)
 obtain⟨hn8',c8,p8,q8,f8'⟩:=p7.setf (n':=n8) (by omega) fd8 f8
 have hc7:setF (tellS A (cy5 A s fs) fs 2) (cy5 A s fs).occ (stp (cy5 A s fs).pts (cyO A s fs).1 (cy5 A s fs).pts.length)=cy7 A s fs:=rfl
 rw[hc7] at p8
 have pi8:PI A 0 (cy7 A s fs):=by
  refine⟨pi7.uo,pi7.fo.field (by rw[to]) (by rw[stp_len,tp]),pi7.rk,pi7.ek,pi7.rn,pi7.ml⟩
 have hb8:=p8.blk
 simp only[rowPr] at hb8
 obtain⟨v9,H9,n9,e9,r9⟩:=ends_fn (d:=d+5) p8 (fun i hi=>(pi8.uo i hi).len (ao.is i hi)) hv1 (by have:=rb3; omega)
 have pi9:=pi8.ends ao fs
 obtain⟨hn9,c9,p9,q9,f9⟩:=r9
 have fin:PR P A c H n (cycS A s fs) H9 n9:=PR.comp hn6 q6 f6 (PR.comp hn7 (fun j hj=>rc_lt hj) f7 (PR.comp hn8' q8 f8' ⟨hn9,c9,p9,q9,f9⟩))
 have keep:∀ j,s6.n≤j→j<n7→H9.get j=H7.get j:=fun j h1 h2=>by
  have e:rc c6 s6.n 7 j=7:=rc_ge h1
  rw[f9 j (by omega) (by rw[q8 j h2,e]; omega),f8' j h2 (by rw[e]; omega)]
 have oy9:=(oy.keep (n':=n9) (h':=H9.get) (by omega) keep).low hn6
 have oz9:=(oz.keep (n':=n9) (h':=H9.get) (by omega) keep).low hn6
 simp[c0,c1',b4,L4,vs1,e7,hb7,ys.1,ys.2,zs.1,zs.2,e8,hb8,e9,imms,B6,B7]
 exact⟨fin,⟨y,z,rfl,oy9,oz9⟩,pi9⟩
theorem link_new {d:Nat}{Z:Nat→Prop}:Fe (K DG (d+1) 40 [] H n 0) (fun v H' n'=>v=.ptr n 0 0∧n'=n+1∧LnAt Z H' n (fun _=>[]) (fun _=>[])∧∀ j,j≠n→H'.get j=H.get j):=by
 rw[kX 40 D.f40 rfl]
 refine fn_dw rfl ?_
 have nl:∀ (H:PT HB),Mg (fun j=>Z j∧j≠n) H (.imm .nils) []:=fun _=>.inl ⟨rfl,rfl⟩
 simp +contextual [evParts,lay,unImms,unImm,mapO,B6,B7]
 exact⟨.imm .nils,.imm .nils,.imm .nils,.imm .nils,by simp[gP,imms],nl _,nl _,nl _,nl _,Dj.nil _⟩
def newP (l:Lo):PS:=⟨fun _=>newU l,newRL,fun _=>[],fun _=>[],List.replicate l.secs.length false,List.replicate l.pts.length ⟨1,0,0⟩,0⟩
def rowPn (A:PLc) (i:Nat):HB:=⟨7,[[if 0<i then .ptr (A.a 0) 0 0 else .imm .nilp,if 1<i then .ptr (A.a 1) 0 0 else .imm .nilp,.ptr A.rl 0 0,.ptr A.lk 0 0,.ptr A.fd 0 0,.ptr A.kk 0 0,.imm (.int .i64 0)]]⟩
structure PNt (l:Lo) (c:Nat→Nat) (H:PT HB) (n P:Nat) (A:PLc) (i:Nat):Prop where
 blk:H.get P=some (rowPn A i)
 u:∀ k,k<i→UI (fun j=>c j=k) (A.l k) H n (A.a k) (newU l)
 ok:∀ k,k<i→LoOk (A.l k)∧LoEq l (A.l k)
 rl:H.get A.rl=some (rowRL newRL)
 lk:LnAt (fun j=>c j=4∧j<n) H A.lk (fun _=>[]) (fun _=>[])
 fd:Fd H A.fd A.fo (List.replicate l.secs.length false) (List.replicate l.pts.length ⟨1,0,0⟩)
 kk:∃ rs,LkAt H A.kk A.ko A.ls rs
 oks:LoOk A.ls∧LoEq l A.ls
 cP:c P=2∧P<n
 cr:c A.rl=3∧A.rl<n
 cl:c A.lk=4∧A.lk<n
 cf:∀ i∈A.fd::A.fo,c i=5∧i<n
 ck:∀ i∈A.kk::A.ko,c i=6∧i<n
theorem PNt.step {l:Lo} {P:Nat}(h:PNt l c H n P A i) (hi:i<2) (hn:n≤n'){a:Nat}{l':Lo}(hu:UI (fun j=>c' j=i) l' H' n' a (newU l)) (ok:LoOk l') (eq:LoEq l l') (hc:∀ j,j<n→c' j=c j) (hb:H'.get P=some (rowPn ⟨upF A.l i l',A.ls,upF A.a i a,A.rl,A.lk,A.fd,A.kk,A.fo,A.ko⟩ (i+1))) (hf:∀ j,j<n→j≠P→H'.get j=H.get j) :
  PNt l c' H' n' P ⟨upF A.l i l',A.ls,upF A.a i a,A.rl,A.lk,A.fd,A.kk,A.fo,A.ko⟩ (i+1):=by
 obtain⟨blk,u0,ok0,rl,lk,fd,kk,oks,cP,cr,cl,cf,ck⟩:=h
 have hf':∀ j,j<n→c j≠2→H'.get j=H.get j:=fun j hj hc=>hf j hj (fun e=>hc (e▸cP.1))
 refine⟨hb,fun k hk=>?_,fun k hk=>?_,by show H'.get A.rl=_; rw[hf' _ cr.2 (by omega)]; exact rl,?_,fd.mono fun j hj=>hf' j (cf j hj).2 (by have:=(cf j hj).1; omega),?_,oks,?_,?_,?_,fun j hj=>?_,fun j hj=>?_⟩
 ·by_cases e:k=i
  ·subst e
   simp only[upF,if_true]
   exact hu
  ·simp only[upF,if_neg e]
   exact (u0 k (by omega)).mono hn (fun j hj h=>by rw[hc j hj]; exact h) (fun j hj h=>hf' j hj (by omega))
 ·by_cases e:k=i
  ·subst e
   simp only[upF,if_true]
   exact⟨ok,eq⟩
  ·simp only[upF,if_neg e]
   exact ok0 k (by omega)
 ·show LnAt _ H' A.lk _ _
  exact lk.mono (fun j h=>⟨by rw[hc j h.2]; exact h.1,by have:=h.2; show j<n'; omega⟩) (hf' _ cl.2 (by omega)) (fun j h=>hf' j h.2 (by omega))
 ·obtain⟨rs,kk⟩:=kk
  exact⟨rs,kk.mono fun j hj=>hf' j (ck j hj).2 (by have:=(ck j hj).1; omega)⟩
 ·exact⟨by rw[hc _ cP.2]; exact cP.1,by omega⟩
 ·exact⟨(hc _ cr.2).trans cr.1,by have:=cr.2; show A.rl<n'; omega⟩
 ·exact⟨(hc _ cl.2).trans cl.1,by have:=cl.2; show A.lk<n'; omega⟩
 ·have:=cf j hj
  exact⟨by rw[hc _ this.2]; exact this.1,by omega⟩
 ·have:=ck j hj
  exact⟨by rw[hc _ this.2]; exact this.1,by omega⟩
structure IPn (l:Lo) (H0:PT HB) (n0 P:Nat) (i:Nat) (st:St):Prop where
 b1:BoxD st 1 [.imm l.sv,.imm l.pv,.imm l.gv,.imm l.rv]
 c8:st.T.get 8=some (.ptr P 0 0)
 c29:st.T.get 29=some (.imm (.int .i64 (i:Int)))
 pn:∃ A c,PNt l c st.H st.n P A i∧∀ j,j<n0→c j=7
 fr:∀ j,j<n0→st.H.get j=H0.get j
 hn:n0≤st.n∧n0≤P
theorem newU_eq {l l':Lo}(e:LoEq l l'):newU l'=newU l:=by
 unfold newU rep0
 rw[e.len]
theorem loopPn {d:Nat}(hd:8≤d){l:Lo}(ok:LoOk l) (is:ISL l) {P:Nat}{st:St}(h:IPn l H0 n0 P 0 st){ks:List Kf}{Q:Ex→St→Prop}
  (hk:∀ s',IPn l H0 n0 P 2 s'→Bk DG (K DG d) 0 (.exit 0) ks s' Q):Wp DG (K DG d) 0 D.l9_0 ks st Q:=by
 refine dw_loop (N:=2) (small (by have:=rb3; omega)) (fun i st=>IPn l H0 n0 P i st) (fun e s'=>e=.exit 0∧IPn l H0 n0 P 2 s') (fun i st hle hI=>?_) h (fun e s' h=>by
  obtain⟨rfl,h⟩:=h
  exact hk s' h)
 obtain⟨⟨i1,b1,L1⟩,c8,c29,⟨A,c,hp,hc⟩,fr,hn⟩:=hI
 have i12:IntKind.i64.wrap 1=1:=rfl
 have i22:IntKind.i64.wrap 2=2:=rfl
 have ss:=ok.s.scal
 have ps:=ok.p.scal
 have gs:=ok.g.scal
 have rs:=ok.r.scal
 by_cases hi:i<2
 ·obtain⟨d,rfl⟩:∃ d',d=d'+2:=⟨d - 2,by omega⟩
  obtain⟨a,l',H2,n2,e2,hn2,ok',eq,hu,ha,f2⟩:=New_fn (d:=d) (by omega) (Z:=fun j=>rc c st.n i j=i) ok is st.H st.n (fun j hj=>rc_ge hj)
  have hb:=hp.blk
  have hb2:H2.get P=some (rowPn A i):=by rw[f2 P hp.cP.2]; exact hb
  rw[newU_eq eq] at hu
  have pa:¬P=a:=fun e=>by have:=hp.cP.2; omega
  simp only[Lo.dv] at e2
  obtain rfl | rfl:i=0∨i=1:=by omega
  ·rw[show ((0:Nat):Int)=0 from rfl] at c29
   simp only[rowPn] at hb2
   have fin:∀ {T:PT DV}{L:PT LV}{H:PT HB}{n:Nat},n2≤n→H=H2.put P (some ⟨7,[[.ptr a 0 0,.imm .nilp,.ptr A.rl 0 0,.ptr A.lk 0 0,.ptr A.fd 0 0,.ptr A.kk 0 0,.imm (.int .i64 0)]]⟩)→(∃ id,T.get 1=some (.lref 1 id 0)∧L.get 1=some (.box id [.imm l.sv,.imm l.pv,.imm l.gv,.imm l.rv]))→T.get 8=some (.ptr P 0 0)→T.get 29=some (.imm (.int .i64 1))→IPn l H0 n0 P (0+1) ⟨T,L,H,n⟩:=fun h1 h2 h3 h4 h5=>by
    subst h2
    have hg:∀ j,j≠P→(H2.put P (some ⟨7,[[.ptr a 0 0,.imm .nilp,.ptr A.rl 0 0,.ptr A.lk 0 0,.ptr A.fd 0 0,.ptr A.kk 0 0,.imm (.int .i64 0)]]⟩)).get j=H2.get j:=fun j hj=>by simp[gP,hj]
    refine⟨h3,h4,h5,⟨_,rc c st.n 0,hp.step (by omega) (Nat.le_trans hn2 h1) (a:=a) (l':=l') (hu.mono h1 (fun _ _ h=>h) (fun j hj hz=>hg j (fun e=>?_))) ok' eq (fun j hj=>rc_lt hj) (by simp[gP,rowPn,upF]) (fun j hj hjP=>(hg j hjP).trans (f2 j hj)),fun j hj=>(rc_lt (by omega)).trans (hc j hj)⟩,fun j hj=>(hg j (by omega)).trans ((f2 j (by omega)).trans (fr j hj)),⟨Nat.le_trans hn.1 (Nat.le_trans hn2 h1),hn.2⟩⟩
    have hz:rc c st.n 0 j=0:=hz
    rw[e,rc_lt hp.cP.2,hp.cP.1] at hz
    omega
   generalize hQ:(fun (e:Ex) (s':St)=>_)=Q'
   simp only[D.l9_0b]
   simp[b1,L1,c8,c29,ss,ps,gs,rs,il02,i12,e2,hb2,imms,B6,B7]
   subst hQ
   exact .inl ⟨rfl,by omega,fin (by omega) (by rfl) ⟨i1,by simp[gP,b1],by simp[gP,L1]⟩ (by simp[gP,c8]) (by simp[gP])⟩
  ·rw[show ((1:Nat):Int)=1 from rfl] at c29
   simp only[rowPn] at hb2
   have fin:∀ {T:PT DV}{L:PT LV}{H:PT HB}{n:Nat},n2≤n→H=H2.put P (some ⟨7,[[.ptr (A.a 0) 0 0,.ptr a 0 0,.ptr A.rl 0 0,.ptr A.lk 0 0,.ptr A.fd 0 0,.ptr A.kk 0 0,.imm (.int .i64 0)]]⟩)→(∃ id,T.get 1=some (.lref 1 id 0)∧L.get 1=some (.box id [.imm l.sv,.imm l.pv,.imm l.gv,.imm l.rv]))→T.get 8=some (.ptr P 0 0)→T.get 29=some (.imm (.int .i64 2))→IPn l H0 n0 P (1+1) ⟨T,L,H,n⟩:=fun h1 h2 h3 h4 h5=>by
    subst h2
    have hg:∀ j,j≠P→(H2.put P (some ⟨7,[[.ptr (A.a 0) 0 0,.ptr a 0 0,.ptr A.rl 0 0,.ptr A.lk 0 0,.ptr A.fd 0 0,.ptr A.kk 0 0,.imm (.int .i64 0)]]⟩)).get j=H2.get j:=fun j hj=>by simp[gP,hj]
    refine⟨h3,h4,h5,⟨_,rc c st.n 1,hp.step (by omega) (Nat.le_trans hn2 h1) (a:=a) (l':=l') (hu.mono h1 (fun _ _ h=>h) (fun j hj hz=>hg j (fun e=>?_))) ok' eq (fun j hj=>rc_lt hj) (by simp[gP,rowPn,upF]) (fun j hj hjP=>(hg j hjP).trans (f2 j hj)),fun j hj=>(rc_lt (by omega)).trans (hc j hj)⟩,fun j hj=>(hg j (by omega)).trans ((f2 j (by omega)).trans (fr j hj)),⟨Nat.le_trans hn.1 (Nat.le_trans hn2 h1),hn.2⟩⟩
    have hz:rc c st.n 1 j=1:=hz
    rw[e,rc_lt hp.cP.2,hp.cP.1] at hz
    omega
   generalize hQ:(fun (e:Ex) (s':St)=>_)=Q'
   simp only[D.l9_0b]
   simp[b1,L1,c8,c29,ss,ps,gs,rs,il12,i22,e2,hb2,imms,B6,B7]
   subst hQ
   exact .inl ⟨rfl,by omega,fin (by omega) (by rfl) ⟨i1,by simp[gP,b1],by simp[gP,L1]⟩ (by simp[gP,c8]) (by simp[gP])⟩
 ·obtain rfl:i=2:=by omega
  rw[show ((2:Nat):Int)=2 from rfl] at c29
  generalize hQ:(fun (e:Ex) (s':St)=>_)=Q'
  simp only[D.l9_0b]
  simp[b1,L1,c8,c29,ss,ps,gs,rs,ilt_self,B6,B7]
  subst hQ
  exact .inr ⟨nofun,rfl,⟨i1,by simp[gP,b1],by simp[gP,L1]⟩,by simp[gP,c8],by simp[gP,c29],⟨A,c,hp,hc⟩,fr,hn⟩
theorem PNew_fn {d:Nat}(hd:8≤d){l:Lo}(ok:LoOk l) (is:ISL l) (H:PT HB) (n:Nat) :
  Fe (K DG (d+1) 9 [l.dv] H n 0) (fun v H' n'=>∃ P A c,v=.tup [.ptr P 0 0,.imm (.int .i64 0)]∧n≤P∧AOk A∧(∀ i,i<2→LoEq l (A.l i))∧LoEq l A.ls∧PAt c H' n' P A (newP l)∧(∀ j,j<n→c j=7)∧∀ j,j<n→H'.get j=H.get j):=by
 obtain⟨d,rfl⟩:∃ d',d=d'+1:=⟨d - 1,by omega⟩
 have ss:=ok.s.scal
 have ps:=ok.p.scal
 have gs:=ok.g.scal
 have rs:=ok.r.scal
 obtain⟨v1,H1,n1,e1,p1,o1,l1,rfl,ok1,eq1,lk1,ho1,f1⟩:=LockNew_run (d:=d) (by omega) ok is H (n+1)
 obtain⟨v2,H2,n2,e2,fd,fo,rfl,fd2,ho2,f2⟩:=New_run (d:=d) (by omega) ok is H1 n1
 obtain⟨H3,n3,e3,rfl,g3,f3⟩:=rel_new (d:=d) (H:=H2) (n:=n2)
 obtain⟨v4,H4,n4,e4,rfl,rfl,g4,f4⟩:=link_new (d:=d) (Z:=fun _=>False) (H:=H3) (n:=n2+1)
 have a1:=ho1 p1 (by simp)
 have a2:=ho2 fd (by simp)
 have rlen:(List.replicate l.rts.length rs0).length=l1.rts.length:=by simp[eq1.len]
 obtain⟨H5,hH5⟩:∃ H5,H5=H4.put (n2+1+1) (some ⟨7,[[.imm .nilp,.imm .nilp,.ptr n2 0 0,.ptr (n2+1) 0 0,.ptr fd 0 0,.ptr p1 0 0,.imm (.int .i64 0)]]⟩):=⟨_,rfl⟩
 have f5:∀ j,j≠n2+1+1→H5.get j=H4.get j:=fun j hj=>by rw[hH5]; simp[gP,hj]
 have k2:∀ j,j<n2→H5.get j=H2.get j:=fun j hj=>by rw[f5 j (by omega),f4 j (by omega),f3 j (by omega)]
 have k1:∀ j,j<n1→H5.get j=H1.get j:=fun j hj=>by rw[k2 j (by omega),f2 j hj]
 have base:PNt l (rc (rc (rc (rc (rc (fun _=>7) n 6) n1 5) n2 3) (n2+1) 4) (n2+1+1) 2) H5 (n2+1+1+1) (n2+1+1) ⟨fun _=>l,l1,fun _=>0,n2,n2+1,fd,p1,fo,o1⟩ 0:=by
  refine⟨by rw[hH5]; simp[gP,rowPn],fun k hk=>by omega,fun k hk=>by omega,by rw[f5 _ (by show n2≠_; omega),f4 _ (by show n2≠_; omega)]; exact g3,?_,fd2.mono fun i hi=>k2 i (ho2 i hi).2,⟨_,lk1.mono fun i hi=>k1 i (ho1 i hi).2⟩,⟨ok1,eq1⟩,?_,?_,?_,fun i hi=>?_,fun i hi=>?_⟩
  ·show LnAt _ H5 (n2+1) _ _
   exact g4.mono (fun j h=>h.elim) (f5 _ (by omega)) (fun j h=>h.elim)
  ·exact⟨rc_ge (by omega),by omega⟩
  ·exact⟨by show rc _ _ _ n2=3; rw[rc_lt (by omega),rc_lt (by omega),rc_ge (by omega)],by show n2<_; omega⟩
  ·exact⟨by show rc _ _ _ (n2+1)=4; rw[rc_lt (by omega),rc_ge (by omega)],by show n2+1<_; omega⟩
  ·have:=ho2 i hi
   exact⟨by rw[rc_lt (by omega),rc_lt (by omega),rc_lt (by omega),rc_ge (by omega)],by omega⟩
  ·have:=ho1 i hi
   exact⟨by rw[rc_lt (by omega),rc_lt (by omega),rc_lt (by omega),rc_lt (by omega),rc_ge (by omega)],by omega⟩
 have bc:∀ j,j<n→(rc (rc (rc (rc (rc (fun _=>7) n 6) n1 5) n2 3) (n2+1) 4) (n2+1+1) 2) j=7:=fun j hj=>by rw[rc_lt (by omega),rc_lt (by omega),rc_lt (by omega),rc_lt (by omega),rc_lt (by omega)]
 simp only[Lo.dv] at e1 e2 ⊢
 generalize hPost:(fun (v:DV) (H':PT HB) (n':Nat)=>Exists _)=Post
 rw[kX 9 D.f9 rfl]
 refine fn_dw rfl ?_
 simp[ss,ps,gs,rs,e1,e2,e3,e4,evParts,lay,unImms,unImm,mapO,imms,B6,B7]
 refine loopPn (H0:=H) (n0:=n) (P:=n2+1+1) (by omega) ok is ⟨⟨n,by simp[gP],by simp[gP]⟩,by simp[gP],by simp[gP],⟨_,_,(by rw[← hH5]; exact base),bc⟩,fun j hj=>?_,by simp; omega⟩ (fun s' hI=>?_)
 ·rw[← hH5]
  show H5.get j=_
  rw[k1 j (by omega),f1 j (by omega)]
 obtain⟨b1,c8,c29,⟨A,c,hp,hc⟩,fr,hn⟩:=hI
 simp[c8,B6,B7]
 subst hPost
 refine⟨_,A,c,rfl,by omega,⟨fun i hi=>(hp.ok i hi).1,fun i hi=>(hp.ok i hi).2.is is,hp.oks.1,hp.oks.2.is is⟩,fun i hi=>(hp.ok i hi).2,hp.oks.2,?_,hc,fr⟩
 exact⟨hp.blk,hp.u,hp.rl,hp.lk,hp.fd,hp.kk,hp.cP,hp.cr,hp.cl,hp.cf,hp.ck⟩
def Cal (es:List EV):Prop:=∀ e∈es,e.k=7∨e.k=8∨e.k=10
noncomputable def fldStep (f:List Bool×List FPt) (e:EV):List Bool×List FPt:=if e.k=7 then (trainF f.1 e.n,f.2) else if e.k=10 then (f.1,stickF f.2 e.n) else f
noncomputable def fldF (f:List Bool×List FPt) (es:List EV):List Bool×List FPt:=es.foldl fldStep f
theorem Cal.haps {A:PLc}:∀ (es:List EV){s:PS},Cal es→hapsF A s es=setF s (fldF (s.occ,s.pts) es).1 (fldF (s.occ,s.pts) es).2
 | [],s,_=>rfl
 | e::es,s,h=>by
  have he:hapF A s e=setF s (fldStep (s.occ,s.pts) e).1 (fldStep (s.occ,s.pts) e).2:=by
   rcases h e (by simp) with k | k | k <;> simp[hapF,fldStep,k,setF]
  show hapsF A (hapF A s e) es=_
  rw[Cal.haps es (s:=hapF A s e) (fun e he=>h e (by simp[he])),he]
  rfl
theorem Cal.ylds {A:PLc}:∀ (es:List EV){s:PS},Cal es→yldsF A s es=s
 | [],s,_=>rfl
 | e::es,s,h=>by
  have he:yldF A s e=s:=by
   unfold yldF
   rw[if_neg]
   rintro⟨k,_⟩
   rcases h e (by simp) with q | q | q <;> omega
  show yldsF A (yldF A s e) es=_
  rw[he]
  exact Cal.ylds es (fun e he=>h e (by simp[he]))
theorem Cal.has(h:Cal es) {i:Int}(hk:k<7∨k=9):dec (Has es k i)=false:=dec_f (by
 rintro⟨e,he,q,_⟩
 rcases h e he with p | p | p <;> omega)
theorem Cal.ls(h:Cal es):lsF es=(false,-1):=by
 have:∀ (es:List EV) (a:Bool×Int),Cal es→es.foldl stL a=a:=by
  intro es
  induction es with
  | nil=>intro a _; rfl
  | cons e es ih=>
   intro a h
   have he:stL a e=a:=by
    unfold stL
    rcases h e (by simp) with k | k | k <;> simp[k]
   rw[List.foldl_cons,he]
   exact ih a (fun e he=>h e (by simp[he]))
 exact this es _ h
theorem Cal.take(h:Cal es) (n:Nat):Cal (es.take n):=fun e he=>h e (List.mem_of_mem_take he)
theorem unF_nil:unF []=none:=by
 unfold unF
 exact if_pos (by simp)
theorem hearF_nil (l:Lo) (u:US):hearF l u []=u:=by
 unfold hearF
 rw[unF_nil]
 split <;> rfl
theorem cy3_cal(h:Cal es):cy3 A s es=⟨fun i=>if i=0∨i=1 then hearF (A.l i) (tickF (A.l i) (s.u i) false) (s.cam i) else s.u i,beginRL s.r (s.now+1),s.snt,fun i=>if i=0∨i=1 then [] else s.cam i,(fldF (s.occ,s.pts) es).1,(fldF (s.occ,s.pts) es).2,s.now+1⟩:=by
 unfold cy3
 rw[Cal.haps es h]
 simp only[thS,thStep,h.has (k:=3) (.inl (by omega)),setF,begS,setRl,setN,setU,setL,upF]
 congr 1
 ·funext i
  by_cases h0:i=0
  ·subst h0; simp[upF]
  ·by_cases h1:i=1
   ·subst h1; simp[upF]
   ·simp[upF,h0,h1]
 ·funext i
  by_cases h0:i=0
  ·subst h0; simp[upF]
  ·by_cases h1:i=1
   ·subst h1; simp[upF]
   ·simp[upF,h0,h1]
theorem ask_other(ho:¬s.r.own=(i:Int)) (h1:¬s.r.own=-1) (deaf:Bool):askF A s i deaf=s:=by
 have e:askRL s.r i (s.u i).count=(s.r,0,0,8):=by
  unfold askRL
  rw[if_neg ho,if_neg (fun h=>h1 h.1)]
 unfold askF
 rw[e]
 split
 ·rw[if_neg (by simp)]
  rfl
 ·rfl
theorem ask_own(ho:s.r.own=(i:Int)) (wk:Wk (s.u i)) (he:(s.u i).ep=s.r.ep):askF A s i false=setU (setRl s ⟨s.r.now,s.r.own,i,s.r.now,s.r.free,s.r.ep,(s.u i).count⟩) i (granted (s.u i) s.r.ep):=by
 have e:askRL s.r i (s.u i).count=(⟨s.r.now,s.r.own,i,s.r.now,s.r.free,s.r.ep,(s.u i).count⟩,s.r.ep,s.r.last,0):=by
  unfold askRL
  rw[if_pos ho]
 unfold askF
 rw[e]
 rw[if_pos ⟨rfl,by unfold As; unfold Wk at wk; omega⟩,if_pos rfl]
 congr 1
 unfold grantF
 rw[if_pos ⟨wk,he⟩]
def u0At (rs:List Rst) (n:Int):US:=⟨rs,1,n+5,true,none,if n<10 then 4 else 3,n,n,if n<10 then 10 - n else 0⟩
theorem u0_wk (rs:List Rst) (n:Int):Wk (u0At rs n):=by
 unfold Wk u0At
 by_cases h:n<10 <;> simp[h]
structure JC (n:Int) (rs:List Rst) (w:US) (s:PS):Prop where
 u0:s.u 0=u0At rs n
 u1:s.u 1=w
 m1:w.mode=2
 r:s.r=⟨n,0,if 1<n then 0 else -1,n,0,1,n - 1⟩
 snt:s.snt=fun _=>[]
 c0:s.cam 0=[]
 c1:s.cam 1=sendF (u0At rs n)
 nw:s.now=n
def tk1 (u:US):US:=⟨u.rs,u.ep,u.en,u.gr,u.cp,u.mode,u.tick+1,u.count,u.left⟩
theorem tick_std {l:Lo}(h:u.mode=2):tickF l u false=tk1 u:=by
 unfold tickF
 rw[if_neg (by omega)]
 show tickT l (tk1 u)=_
 unfold tickT
 rw[if_neg (fun q=>by have:=q.1; simp only[tk1] at this; omega),if_neg (fun q=>by have:=q.1; simp only[Wk,tk1] at this; omega)]
theorem tick_wk {l:Lo}(wk:Wk u) (hg:u.gr=true) (ht:u.tick+1<u.en):tickF l u false=tk1 u:=by
 have h0:u.mode=3∨u.mode=4:=wk
 unfold tickF
 rw[if_neg (by omega)]
 show tickT l (tk1 u)=_
 unfold tickT
 rw[if_neg (fun q=>by have:=q.1; simp only[tk1] at this; omega),if_neg (fun q=>q.2 ⟨hg,ht⟩)]
theorem hear_mode (l:Lo) (u:US) (bs:List UInt8):(hearF l u bs).mode=u.mode∧(hearF l u bs).tick=u.tick∧(hearF l u bs).rs=u.rs∧(hearF l u bs).count=u.count∧(hearF l u bs).ep=u.ep:=by
 unfold hearF
 repeat' split
 all_goals exact⟨rfl,rfl,rfl,rfl,rfl⟩
noncomputable def u1F (A:PLc) (u1:US) (bs:List UInt8):US:=hearF (A.l 1) (tk1 u1) bs
theorem cy5_J{n:Int}{rs:List Rst}{u1:US}(h:JC n rs u1 s) (hn:1≤n∧n≤1000)(hc:Cal es) :
  cy5 A s es=⟨fun i=>if i=0 then ⟨rs,1,n+1+5,true,none,(u0At rs n).mode,n+1,n,(u0At rs n).left⟩ else if i=1 then u1F A u1 (s.cam 1) else s.u i,⟨n+1,0,0,n+1,0,1,n⟩,s.snt,fun i=>if i=0∨i=1 then [] else s.cam i,(fldF (s.occ,s.pts) es).1,(fldF (s.occ,s.pts) es).2,n+1⟩:=by
 have wk:=u0_wk rs n
 have b:beginRL s.r (s.now+1)=⟨n+1,0,-1,n,0,1,n - 1⟩:=by
  rw[h.r,h.nw]
  unfold beginRL
  rw[if_neg (by simp only; omega),if_neg (by simp only; omega)]
 have t0:hearF (A.l 0) (tickF (A.l 0) (s.u 0) false) (s.cam 0)=tk1 (u0At rs n):=by
  rw[h.c0,hearF_nil,h.u0,tick_wk wk rfl (by simp only[u0At]; omega)]
 have t1:hearF (A.l 1) (tickF (A.l 1) (s.u 1) false) (s.cam 1)=u1F A u1 (s.cam 1):=by
  rw[h.u1,tick_std h.m1]
  rfl
 unfold cy5
 rw[Cal.ylds es hc,cy3_cal hc,b]
 generalize hS:(PS.mk _ _ _ _ _ _ _)=S
 have r0:S.r=⟨n+1,0,-1,n,0,1,n - 1⟩:=by rw[← hS]
 have q0:S.u 0=tk1 (u0At rs n):=by rw[← hS]; exact t0
 have q1:S.u 1=u1F A u1 (s.cam 1):=by rw[← hS]; exact t1
 have a0:askF A S 0 false=setU (setRl S ⟨n+1,0,0,n+1,0,1,n⟩) 0 (granted (tk1 (u0At rs n)) 1):=by
  rw[ask_own (by rw[r0]; rfl) (by rw[q0]; exact wk) (by rw[q0,r0]; rfl),q0,r0]
  rfl
 have fin:setU (setRl S ⟨n+1,0,0,n+1,0,1,n⟩) 0 (granted (tk1 (u0At rs n)) 1)=⟨fun i=>if i=0 then ⟨rs,1,n+1+5,true,none,(u0At rs n).mode,n+1,n,(u0At rs n).left⟩ else if i=1 then u1F A u1 (s.cam 1) else s.u i,⟨n+1,0,0,n+1,0,1,n⟩,s.snt,fun i=>if i=0∨i=1 then [] else s.cam i,(fldF (s.occ,s.pts) es).1,(fldF (s.occ,s.pts) es).2,n+1⟩:=by
  rw[← hS]
  simp only[setU,setRl,h.nw]
  congr 1
  funext i
  by_cases h0:i=0
  ·subst h0
   simp[upF,granted,tk1,u0At]
  ·by_cases h1:i=1
   ·subst h1
    simp only[upF,h0,if_false,or_true,if_true]
    exact t1
   ·simp[upF,h0,h1]
 have hf:fstN (s.now+1)=0∨fstN (s.now+1)=1:=by
  unfold fstN
  omega
 simp only[asksS,hc.has (k:=4) (.inl (by omega))]
 rcases hf with hf | hf
 ·rw[hf]
  show askF A (askF A S 0 false) 1 false=_
  rw[a0,ask_other (by show ¬((0:Int)=((1:Nat):Int)); decide) (by show ¬((0:Int)=-1); decide)]
  exact fin
 ·rw[hf]
  show askF A (askF A S 1 false) 0 false=_
  rw[ask_other (s:=S) (i:=1) (by rw[r0]; show ¬((0:Int)=((1:Nat):Int)); decide) (by rw[r0]; show ¬((0:Int)=-1); decide),a0]
  exact fin
theorem sent2(hs:s.snt=fun _=>[]):(sendI s 2).snt 0=sendF (s.u 0)∧(sendI s 2).snt 1=sendF (s.u 1):=by
 unfold sendI
 rw[if_neg (by omega),if_neg (by omega)]
 have e0:(sentF s 0 (sendF (s.u 0))).snt 0=sendF (s.u 0)∧(sentF s 0 (sendF (s.u 0))).snt 1=[]:=by
  unfold sentF
  split
  ·rename_i e; rw[hs,e]; exact⟨rfl,rfl⟩
  ·simp[setL,upF,hs]
 generalize sentF s 0 (sendF (s.u 0))=S at *
 unfold sentF
 split
 ·rename_i e; rw[e]; exact e0
 ·refine⟨?_,by simp[setL,upF]⟩
  simp[setL,upF]
  exact e0.1
noncomputable def stepJ (A:PLc) (n:Int) (rs:List Rst) (f:List Bool×List FPt) (es:List EV):List Rst×List Int×List Bool:=
 if n<10 then (rs,List.replicate (A.l 0).pts.length 0,List.replicate (A.l 0).sigs.length false) else cycF (A.l 0) (cmdsF (A.l 0) f.1 (f.2.map (·.l)) rs (cmF es)) f.1 (f.2.map (·.l))
theorem JC.step{n:Int}{rs:List Rst}{u1:US}(h:JC n rs u1 s) (hn:1≤n∧n≤1000)(hc:Cal es){f:List Bool×List FPt}(hf:f=fldF (s.occ,s.pts) es) :
  JC (n+1) (stepJ A n rs f es).1 (u1F A u1 (s.cam 1)) (cycS A s es)∧cyO A s es=(stepJ A n rs f es).2∧(cycS A s es).occ=f.1∧(cycS A s es).pts=stp f.2 (stepJ A n rs f es).2.1 f.2.length:=by
 have hm:(u1F A u1 (s.cam 1)).mode=2:=(hear_mode _ _ _).1.trans h.m1
 have e5:=cy5_J h hn hc (A:=A)
 rw[← hf] at e5
 have i0:cyI A (cy5 A s es) es 0=(u0At (stepJ A n rs f es).1 (n+1),(stepJ A n rs f es).2):=by
  rw[e5]
  unfold cyI
  simp only[if_true]
  have d0:decide ((0:Int)=((0:Nat):Int))=true:=by decide
  rw[d0]
  unfold cycleF
  rw[if_pos ⟨u0_wk rs n,rfl,by simp only; omega⟩]
  have ic:incC n=n+1:=if_pos (by omega)
  by_cases h10:n<10
  ·have hm4:(u0At rs n).mode=4:=if_pos h10
   have hl4:(u0At rs n).left=10 - n:=if_pos h10
   rw[if_neg (by rw[hm4]; decide)]
   unfold stepJ
   rw[if_pos h10]
   simp only[Prod.mk.injEq,and_true]
   rw[hm4,hl4]
   by_cases h9:n=9
   ·subst h9
    rfl
   ·rw[forced_f (by simp only[setC]; omega)]
    unfold u0At setC
    simp only[ic]
    rw[if_pos (by omega),if_pos (by omega)]
    congr 1
    omega
  ·have hm3:(u0At rs n).mode=3:=if_neg h10
   have hl3:(u0At rs n).left=0:=if_neg h10
   rw[if_pos hm3]
   unfold stepJ cyF
   rw[if_neg h10]
   simp only[setC,setR,if_true,ic]
   rw[hm3,hl3]
   unfold u0At
   rw[if_neg (by omega),if_neg (by omega)]
 have i1:cyI A (cy5 A s es) es 1=(u1F A u1 (s.cam 1),List.replicate (A.l 1).pts.length 0,List.replicate (A.l 1).sigs.length false):=by
  have q1:(cy5 A s es).u 1=u1F A u1 (s.cam 1):=by rw[e5]; rfl
  unfold cyI cycleF
  rw[q1,if_neg (fun h=>by have:=h.1; unfold Wk at this; omega)]
 have co:cyO A s es=(stepJ A n rs f es).2:=by
  unfold cyO outI
  rw[if_pos ⟨by rw[e5],by omega⟩,i0]
 have t2:tellS A (cy5 A s es) es 2=setU (setU (cy5 A s es) 0 (u0At (stepJ A n rs f es).1 (n+1))) 1 (u1F A u1 (s.cam 1)):=by
  unfold tellS
  rw[if_neg (by omega),if_neg (by omega),i0,i1]
 have u70:(cy7 A s es).u 0=u0At (stepJ A n rs f es).1 (n+1):=by
  unfold cy7
  rw[t2]
  rfl
 have u71:(cy7 A s es).u 1=u1F A u1 (s.cam 1):=by
  unfold cy7
  rw[t2]
  rfl
 have s7:(cy7 A s es).snt=fun _=>[]:=by
  unfold cy7
  rw[t2,e5]
  exact h.snt
 have f7:(cy7 A s es).occ=f.1∧(cy7 A s es).pts=stp f.2 (stepJ A n rs f es).2.1 f.2.length∧(cy7 A s es).r=⟨n+1,0,0,n+1,0,1,n⟩∧(cy7 A s es).now=n+1:=by
  unfold cy7
  rw[t2,co,e5]
  exact⟨rfl,rfl,rfl,rfl⟩
 obtain⟨g0,g1⟩:=sent2 s7
 have su:=sendI_u (cy7 A s es) 2
 have so:(sendI (cy7 A s es) 2).occ=(cy7 A s es).occ∧(sendI (cy7 A s es) 2).pts=(cy7 A s es).pts∧(sendI (cy7 A s es) 2).r=(cy7 A s es).r:=by
  have:∀ (s:PS) (i:Nat) (bs:List UInt8),(sentF s i bs).occ=s.occ∧(sentF s i bs).pts=s.pts∧(sentF s i bs).r=s.r:=fun s i bs=>by
   unfold sentF
   split <;> exact⟨rfl,rfl,rfl⟩
  unfold sendI
  rw[if_neg (by omega),if_neg (by omega)]
  exact⟨(this _ _ _).1.trans (this _ _ _).1,(this _ _ _).2.1.trans (this _ _ _).2.1,(this _ _ _).2.2.trans (this _ _ _).2.2⟩
 refine⟨⟨?_,?_,hm,?_,rfl,?_,?_,?_⟩,co,?_,?_⟩
 ·show (sendI (cy7 A s es) 2).u 0=_
  rw[su.1,u70]
 ·show (sendI (cy7 A s es) 2).u 1=_
  rw[su.1,u71]
 ·show (sendI (cy7 A s es) 2).r=_
  rw[so.2.2,f7.2.2.1,if_pos (by omega)]
  congr 1
  omega
 ·show cameF (sendI (cy7 A s es) 2).snt (lsF es).1 (lsF es).2 0=[]
  rw[hc.ls]
  show spoilF (-1) ((sendI (cy7 A s es) 2).snt 1)=[]
  rw[spoilF_neg (by omega)]
  rw[g1,u71]
  unfold sendF
  rw[if_neg (by omega)]
 ·show cameF (sendI (cy7 A s es) 2).snt (lsF es).1 (lsF es).2 1=_
  rw[hc.ls]
  show spoilF (-1) ((sendI (cy7 A s es) 2).snt 0)=_
  rw[spoilF_neg (by omega)]
  rw[g0,u70]
 ·show (sendI (cy7 A s es) 2).now=_
  rw[su.2,f7.2.2.2]
 ·show (sendI (cy7 A s es) 2).occ=_
  rw[so.1,f7.1]
 ·show (sendI (cy7 A s es) 2).pts=_
  rw[so.2.1,f7.2.1]
set_option maxRecDepth 100000
def rtOne:Rt:=⟨[114],0,1,.lst true 1 [[.int .i64 0]],.nils,.nils,[0],[],[]⟩
def loOne:Lo:=⟨.lst true 1 [[.str [97]]],.nils,.lst true 1 [[.str [115]],[.str [116]]],.lst true 6 [[.str [114],.int .i64 0,.int .i64 1,.lst true 1 [[.int .i64 0]],.nils,.nils]],[[97]],[],[[115],[116]],[rtOne]⟩
theorem layOne_bl {d:Nat}:bl (K DG (d+1)) 64 []=some loOne.dv:=by
 have key:Fe (K DG (d+1) 64 [] .lf 0 0) (fun v _ _=>v=loOne.dv):=by
  rw[kX 64 D.f64 rfl]
  refine fn_dw rfl ?_
  simp[loOne,evParts,evParts2,lay,unImms,unImm,mapO,rowsN,imms,B6,B7]
 obtain⟨v,H,n,e,rfl⟩:=key
 exact bl_of e rfl
theorem one_ok:LoOk loOne:=by
 have hrb:=rb3
 refine⟨.inr ⟨true,rfl⟩,.inl ⟨rfl,rfl⟩,.inr ⟨true,rfl⟩,.inr ⟨true,rfl⟩,by simp[loOne]; omega,by simp[loOne],by simp[loOne]; omega,by simp[loOne]; omega,fun x hx=>?_,fun x hx=>?_,fun x hx=>?_,fun x hx=>?_⟩
 ·simp[loOne] at hx; subst hx; simp; omega
 ·simp[loOne] at hx
 ·simp[loOne] at hx; rcases hx with rfl | rfl <;> simp <;> omega
 ·simp[loOne] at hx
  subst hx
  exact⟨.inr ⟨true,rfl⟩,.inl ⟨rfl,rfl⟩,.inl ⟨rfl,rfl⟩,by simp[rtOne]; omega,by simp[rtOne]; omega,by simp[rtOne],by simp[rtOne]⟩
theorem nm_a:nm3 [97]=true:=by kernel_rfl
theorem nm_s:nm3 [115]=true:=by kernel_rfl
theorem nm_t:nm3 [116]=true:=by kernel_rfl
theorem nm_r:nm3 [114]=true:=by kernel_rfl
theorem one_is:ISL loOne:=by
 have ne:∀ path w,NE [] [] path w:=fun _ _ i hi=>absurd hi (by simp)
 have one:∀ s:List UInt8,nm3 s=true→NM [s]:=fun s hs i x hi=>by
  cases i with
  | zero=>simp at hi; subst hi; exact⟨hs,by simp⟩
  | succ i=>simp at hi
 refine⟨by simp[loOne],by simp[loOne],by simp[loOne],by simp[loOne],by simp[loOne],by simp[loOne],fun i hi=>by simp[loOne] at hi,one _ nm_a,fun i x hi=>?_,NM_nil,one _ nm_r,fun i hi=>?_⟩
 ·match i with
  | 0=>simp[loOne] at hi; subst hi; exact⟨nm_s,by simp⟩
  | 1=>simp[loOne] at hi; subst hi; exact⟨nm_t,by simp[loOne]⟩
  | i+2=>simp[loOne] at hi
 ·obtain rfl:i=0:=by simp[loOne] at hi; omega
  exact⟨⟨by simp[loOne,rtOne,nth],by simp[loOne,rtOne,nth]⟩,⟨by simp[loOne,rtOne,nth],by simp[loOne,rtOne,nth]⟩,by simp[loOne,rtOne,nth],fun i z hz=>by
   cases i with
   | zero=>simp[loOne,rtOne,nth] at hz; subst hz; exact⟨⟨by omega,by simp[loOne]⟩,by simp⟩
   | succ i=>simp[loOne,rtOne,nth] at hz,by simp[loOne,rtOne,nth],by simp[loOne,rtOne,nth],ne _ _,ne _ _,rfl⟩
theorem PI.new{l:Lo}(is:ISL l) (eq:∀ i,i<2→LoEq l (A.l i)):PI A 0 (newP l):=by
 have s1:=is.s1
 have s2:=is.s2
 have p2:=is.p2
 refine⟨fun i hi=>?_,⟨fun e=>?_,by simp[newP]; omega,by simp[newP]; omega⟩,⟨by simp[newP,newRL],by simp[newP,newRL],by simp[newP,newRL],by simp[newP,newRL]⟩,by simp[newP,newRL],rfl,fun i=>⟨by simp[newP],by simp[newP]⟩⟩
 ·show UOk (A.l i) 0 (newU l)
  rw[← newU_eq (eq i hi)]
  exact UOk.new (Int.le_refl _)
 ·have:=congrArg List.length e
  simp[newP] at this
  rw[this] at s1
  simp at s1
theorem JC.first{l:Lo}(hc:Cal es){f:List Bool×List FPt}(hf:f=fldF ((newP l).occ,(newP l).pts) es) :
  JC 1 (rep0 (A.l 0)) (tk1 (newU l)) (cycS A (newP l) es)∧cyO A (newP l) es=(List.replicate A.ls.pts.length 0,List.replicate A.ls.sigs.length false)∧(cycS A (newP l) es).occ=f.1∧(cycS A (newP l) es).pts=stp f.2 (List.replicate A.ls.pts.length 0) f.2.length:=by
 have b:beginRL (newP l).r ((newP l).now+1)=⟨1,-1,-1,0,0,0,0⟩:=rfl
 have tk:∀ i,hearF (A.l i) (tickF (A.l i) ((newP l).u i) false) ((newP l).cam i)=tk1 (newU l):=fun i=>by
  show hearF (A.l i) (tickF (A.l i) (newU l) false) []=_
  rw[hearF_nil,tick_std (by rfl)]
 have e5:cy5 A (newP l) es=⟨fun i=>if i=0 then ⟨rep0 (A.l 0),1,6,true,none,4,1,0,10⟩ else if i=1 then tk1 (newU l) else newU l,⟨1,0,-1,1,0,1,0⟩,fun _=>[],fun _=>[],f.1,f.2,1⟩:=by
  unfold cy5
  rw[Cal.ylds es hc,cy3_cal hc,b,← hf]
  generalize hS:(PS.mk _ _ _ _ _ _ _)=S
  have r0:S.r=⟨1,-1,-1,0,0,0,0⟩:=by rw[← hS]
  have q0:S.u 0=tk1 (newU l):=by rw[← hS]; exact tk 0
  have q1:S.u 1=tk1 (newU l):=by rw[← hS]; exact tk 1
  have a0:askF A S 0 false=setU (setRl S ⟨1,0,-1,1,0,1,0⟩) 0 ⟨rep0 (A.l 0),1,6,true,none,4,1,0,10⟩:=by
   have e:askRL S.r ((0:Nat):Int) (S.u 0).count=(⟨1,0,-1,1,0,1,0⟩,1,0,0):=by
    rw[r0]
    rfl
   unfold askF
   rw[e,q0,if_pos ⟨rfl,.inl rfl⟩,if_pos rfl]
   congr 1
   unfold grantF
   have nw:¬Wk (tk1 (newU l)):=by simp[Wk,tk1,newU]
   rw[if_neg (fun h=>nw h.1),if_pos (.inr rfl)]
   rfl
  have hf0:fstN ((newP l).now+1)=0:=rfl
  simp only[asksS,hc.has (k:=4) (.inl (by omega))]
  rw[hf0]
  show askF A (askF A S 0 false) 1 false=_
  rw[a0,ask_other (by show ¬((0:Int)=((1:Nat):Int)); decide) (by show ¬((0:Int)=-1); decide),← hS]
  simp only[setU,setRl]
  congr 1
  ·funext i
   by_cases h0:i=0
   ·subst h0
    simp[upF]
   ·by_cases h1:i=1
    ·subst h1
     simp only[upF,h0,if_false,or_true,if_true]
     exact tk 1
    ·simp[upF,h0,h1,newP]
  ·funext i
   split <;> rfl
 have i0:cyI A (cy5 A (newP l) es) es 0=(u0At (rep0 (A.l 0)) 1,List.replicate (A.l 0).pts.length 0,List.replicate (A.l 0).sigs.length false):=by
  rw[e5]
  unfold cyI cycleF
  simp only[if_true]
  rw[if_pos ⟨.inr rfl,rfl,show (1:Int)<6 by decide⟩,if_neg (show ¬(4:Int)=3 by decide)]
  rfl
 have i1:cyI A (cy5 A (newP l) es) es 1=(tk1 (newU l),List.replicate (A.l 1).pts.length 0,List.replicate (A.l 1).sigs.length false):=by
  have q1:(cy5 A (newP l) es).u 1=tk1 (newU l):=by rw[e5]; rfl
  unfold cyI cycleF
  rw[q1,if_neg (fun h=>by have:=h.1; simp[Wk,tk1,newU] at this)]
 have co:cyO A (newP l) es=(List.replicate A.ls.pts.length 0,List.replicate A.ls.sigs.length false):=by
  unfold cyO outI
  rw[if_neg (by rw[e5]; simp),if_neg (by rw[e5]; simp)]
 have t2:tellS A (cy5 A (newP l) es) es 2=setU (setU (cy5 A (newP l) es) 0 (u0At (rep0 (A.l 0)) 1)) 1 (tk1 (newU l)):=by
  unfold tellS
  rw[if_neg (by omega),if_neg (by omega),i0,i1]
 have u70:(cy7 A (newP l) es).u 0=u0At (rep0 (A.l 0)) 1:=by
  unfold cy7
  rw[t2]
  rfl
 have u71:(cy7 A (newP l) es).u 1=tk1 (newU l):=by
  unfold cy7
  rw[t2]
  rfl
 have s7:(cy7 A (newP l) es).snt=fun _=>[]:=by
  unfold cy7
  rw[t2,e5]
  rfl
 have f7:(cy7 A (newP l) es).occ=f.1∧(cy7 A (newP l) es).pts=stp f.2 (List.replicate A.ls.pts.length 0) f.2.length∧(cy7 A (newP l) es).r=⟨1,0,-1,1,0,1,0⟩∧(cy7 A (newP l) es).now=1:=by
  unfold cy7
  rw[t2,co,e5]
  exact⟨rfl,rfl,rfl,rfl⟩
 obtain⟨g0,g1⟩:=sent2 s7
 have su:=sendI_u (cy7 A (newP l) es) 2
 have so:(sendI (cy7 A (newP l) es) 2).occ=(cy7 A (newP l) es).occ∧(sendI (cy7 A (newP l) es) 2).pts=(cy7 A (newP l) es).pts∧(sendI (cy7 A (newP l) es) 2).r=(cy7 A (newP l) es).r:=by
  have:∀ (s:PS) (i:Nat) (bs:List UInt8),(sentF s i bs).occ=s.occ∧(sentF s i bs).pts=s.pts∧(sentF s i bs).r=s.r:=fun s i bs=>by
   unfold sentF
   split <;> exact⟨rfl,rfl,rfl⟩
  unfold sendI
  rw[if_neg (by omega),if_neg (by omega)]
  exact⟨(this _ _ _).1.trans (this _ _ _).1,(this _ _ _).2.1.trans (this _ _ _).2.1,(this _ _ _).2.2.trans (this _ _ _).2.2⟩
 refine⟨⟨?_,?_,rfl,?_,rfl,?_,?_,?_⟩,co,?_,?_⟩
 ·show (sendI (cy7 A (newP l) es) 2).u 0=_
  rw[su.1,u70]
 ·show (sendI (cy7 A (newP l) es) 2).u 1=_
  rw[su.1,u71]
 ·show (sendI (cy7 A (newP l) es) 2).r=_
  rw[so.2.2,f7.2.2.1]
  rfl
 ·show cameF (sendI (cy7 A (newP l) es) 2).snt (lsF es).1 (lsF es).2 0=[]
  rw[hc.ls]
  show spoilF (-1) ((sendI (cy7 A (newP l) es) 2).snt 1)=[]
  rw[spoilF_neg (by omega)]
  rw[g1,u71]
  rfl
 ·show cameF (sendI (cy7 A (newP l) es) 2).snt (lsF es).1 (lsF es).2 1=_
  rw[hc.ls]
  show spoilF (-1) ((sendI (cy7 A (newP l) es) 2).snt 0)=_
  rw[spoilF_neg (by omega)]
  rw[g0,u70]
 ·show (sendI (cy7 A (newP l) es) 2).now=_
  rw[su.2,f7.2.2.2]
 ·show (sendI (cy7 A (newP l) es) 2).occ=_
  rw[so.1,f7.1]
 ·show (sendI (cy7 A (newP l) es) 2).pts=_
  rw[so.2.1,f7.2.1]
structure AtK (l:Lo) (A:PLc) (c:Nat→Nat) (H:PT HB) (n P:Nat) (t:Nat) (s:PS):Prop where
 ao:AOk A
 eq:(∀ i,i<2→LoEq l (A.l i))∧LoEq l A.ls
 pt:PAt c H n P A s
 pi:PI A 0 s
 jc:(t=0∧s=newP l)∨(1≤t∧∃ rs w,JC (t:Int) rs w s)
theorem AtK.now {l:Lo} {P t:Nat}(h:AtK l A c H n P t s):s.now=(t:Int):=by
 rcases h.jc with⟨rfl,rfl⟩ | ⟨_,_,_,j⟩
 ·rfl
 ·exact j.nw
theorem AtK.new {d:Nat}(hd:8≤d){l:Lo}(ok:LoOk l) (is:ISL l) (H:PT HB) (n:Nat) :
  ∃ P A c H' n',K DG (d+1) 9 [l.dv] H n 0=some (.tup [.ptr P 0 0,.imm (.int .i64 0)],H',n')∧AtK l A c H' n' P 0 (newP l)∧(∀ j,j<n→c j=7)∧(∀ j,j<n→H'.get j=H.get j)∧n≤n':=by
 obtain⟨v,H',n',e,P,A,c,rfl,hP,ao,eq,eqs,pt,hc,hf⟩:=PNew_fn hd ok is H n
 exact⟨P,A,c,H',n',e,⟨ao,⟨eq,eqs⟩,pt,PI.new is eq,.inl ⟨rfl,rfl⟩⟩,hc,hf,by have:=pt.cP.2; omega⟩
theorem AtK.cyc {d:Nat}(hd:10≤d){l:Lo} {P t:Nat}(h:AtK l A c H n P t s) (ht:t≤900)(hv:Sl 5 v (es.map ivE)) (hel:es.length≤reachBytes) (hc:Cal es) :
  ∃ v' H' n' c',K DG (d+13) 12 [.ptr P 0 0,.imm v] H n 0=some (v',H',n')∧n≤n'∧AtK l A c' H' n' P (t+1) (cycS A s (es.take 8))∧OutD H'.get n n' v' (cyO A s (es.take 8)).1 (cyO A s (es.take 8)).2∧(∀ j,j<n→c' j=c j)∧∀ j,j<n→6<c j→H'.get j=H.get j:=by
 have hc8:=hc.take 8
 obtain⟨v',H',n',e,⟨hn,c',pt,q,f⟩,o,pi⟩:=PCycle_fn hd h.ao h.pt h.pi (by rw[h.now]; omega) hv hel
 refine⟨v',H',n',c',e,hn,⟨h.ao,h.eq,pt,pi,.inr ⟨by omega,?_⟩⟩,o,q,f⟩
 rcases h.jc with⟨rfl,rfl⟩ | ⟨h1,rs,w,j⟩
 ·exact⟨_,_,(JC.first hc8 rfl).1⟩
 ·exact⟨_,_,(j.step (by omega) hc8 rfl).1⟩
theorem cal_nil:Cal []:=nofun
theorem AtK.mono {l:Lo} {P t:Nat}(h:AtK l A c H n P t s) (hn:n≤n') (hc:∀ j,j<n→c' j=c j) (hf:∀ j,j<n→c j≤6→H'.get j=H.get j):AtK l A c' H' n' P t s:=⟨h.ao,h.eq,h.pt.mono hn hc hf,h.pi,h.jc⟩
def Grow (st:St) (M:Nat) (P:Prop):Prop:=∃ m:Nat,st.T.get 3=some (.imm (.int .i64 m))∧m≤M∧(m<3000→P)
def IZ (l:Lo) (k M:Nat) (P:Prop) (C:Nat→Prop) (i:Nat) (st:St):Prop:=Box st 1 l.ivs∧st.T.get k=some (.imm (.int .i64 i))∧Grow st M (P∧∀ j,j<i→C j)
def ZE (l:Lo) (M:Nat) (P:Prop) (st:St):Prop:=Box st 1 l.ivs∧Grow st M P
section
variable {d:Nat}{l:Lo}{M:Nat}{P:Prop}{ks:List Kf}{st:St}{Q:Ex→St→Prop}
theorem loopZ0 (ok:LoOk l) (hM:3000+reachBytes≤M) (hM2:M≤2 ^ 60) (h:IZ l 4 M P (fun j=>(nth l.secs j).length≤3000) 0 st)
  (hk:∀ st',ZE l M (P∧∀ x∈l.secs,x.length≤3000) st'→Bk DG (K DG d) 0 (.exit 0) ks st' Q) :
  Wp DG (K DG d) 0 D.l35_0 ks st Q:=by
 have hrb:=rb3
 refine dw_loop (N:=l.secs.length) (small ok.ls) (IZ l 4 M P (fun j=>(nth l.secs j).length≤3000)) (fun e st'=>e=.exit 0∧ZE l M (P∧∀ x∈l.secs,x.length≤3000) st')
  (fun i st hle hI=>?_) h (fun e s' h=>by rw[h.1]; exact hk s' h.2)
 obtain⟨⟨id,h1,hL⟩,h4,m,h3,hm,hP⟩:=hI
 have ls:=ok.ls
 have sl:=ok.s.len
 simp only[List.length_map] at sl
 by_cases hi:i<l.secs.length
 ·have hi':(i:Int)<l.secs.length:=by omega
  have hj':=ilt_t hi'
  by_cases hm3:m<3000
  ·have hj3:ILt (m:Int) 3000=True:=ilt_t (by omega)
   have hw8:IntKind.i64.wrap ((i:Int)+1)=(i:Int)+1:=wr_succ hi ls
   have hlen:=ok.os _ (nth_mem hi)
   have hwm:IntKind.i64.wrap ((m:Int)+((nth l.secs i).length:Int))=((m+(nth l.secs i).length:Nat):Int):=by rw[wr_id (by omega) (by omega)]; omega
   have ix:=fun {h:Nat→Option HB}{n:Nat}=>idx_sl (h:=h) (n:=n) ok.s (by omega) (k:=.i64) (z:=(i:Int)) (by omega) hi'
   have yes:m+(nth l.secs i).length<3000→P∧∀ j,j<i+1→(nth l.secs j).length≤3000:=fun h=>⟨(hP hm3).1,fun j hj=>by
    rcases Nat.lt_or_eq_of_le (Nat.le_of_lt_succ hj) with hj | rfl
    ·exact (hP hm3).2 j hj
    ·omega⟩
   generalize hQ:(fun (e:Ex) (s':St)=>_)=Q'
   simp only[D.l35_0b]
   simp +contextual (maxSteps:=2000000) [h1,h3,h4,hL,hj',hj3,hw8,hwm,ix,sl,ivS,B6,B7]
   subst hQ
   simp
   exact⟨hi,⟨id,by simp[gP],by simp[gP,imms]⟩,by simp[gP],m+(nth l.secs i).length,by simp[gP],by omega,yes⟩
  ·have hj3:ILt (m:Int) 3000=False:=ilt_f (by omega)
   generalize hQ:(fun (e:Ex) (s':St)=>_)=Q'
   simp only[D.l35_0b]
   simp +contextual (maxSteps:=2000000) [h1,h3,h4,hL,hj',hj3,sl,B6,B7]
   subst hQ
   simp
   exact⟨⟨id,by simp[gP,h1],by simp[gP,hL,imms]⟩,m,by simp[gP,h3],hm,fun h=>absurd h hm3⟩
 ·obtain rfl:i=l.secs.length:=by omega
  generalize hQ:(fun (e:Ex) (s':St)=>_)=Q'
  simp only[D.l35_0b]
  simp[h1,h3,h4,hL,sl,B6,B7]
  subst hQ
  simp
  exact⟨⟨id,by simp[gP,h1],by simp[gP,hL,imms]⟩,m,by simp[gP,h3],hm,fun h=>⟨(hP h).1,fun x hx=>by
   obtain⟨j,hj,rfl⟩:=mem_nth hx
   exact (hP h).2 j hj⟩⟩
theorem loopZ1 (ok:LoOk l) (hM:3000+reachBytes≤M) (hM2:M≤2 ^ 60) (h:IZ l 5 M P (fun j=>(nth l.pts j).name.length≤3000) 0 st)
  (hk:∀ st',ZE l M (P∧∀ x∈l.pts,x.name.length≤3000) st'→Bk DG (K DG d) 0 (.exit 2) ks st' Q) :
  Wp DG (K DG d) 0 D.l35_1 ks st Q:=by
 have hrb:=rb3
 refine dw_loop (N:=l.pts.length) (small ok.lp) (IZ l 5 M P (fun j=>(nth l.pts j).name.length≤3000)) (fun e st'=>e=.exit 2∧ZE l M (P∧∀ x∈l.pts,x.name.length≤3000) st')
  (fun i st hle hI=>?_) h (fun e s' h=>by rw[h.1]; exact hk s' h.2)
 obtain⟨⟨id,h1,hL⟩,h4,m,h3,hm,hP⟩:=hI
 have ls:=ok.lp
 have sl:=ok.p.len
 simp only[List.length_map] at sl
 by_cases hi:i<l.pts.length
 ·have hi':(i:Int)<l.pts.length:=by omega
  have hj':=ilt_t hi'
  by_cases hm3:m<3000
  ·have hj3:ILt (m:Int) 3000=True:=ilt_t (by omega)
   have hw8:IntKind.i64.wrap ((i:Int)+1)=(i:Int)+1:=wr_succ hi ls
   have hlen:=ok.op _ (nth_mem hi)
   have hwm:IntKind.i64.wrap ((m:Int)+((nth l.pts i).name.length:Int))=((m+(nth l.pts i).name.length:Nat):Int):=by rw[wr_id (by omega) (by omega)]; omega
   have ix:=fun {h:Nat→Option HB}{n:Nat}=>idx_sl (h:=h) (n:=n) ok.p (by omega) (k:=.i64) (z:=(i:Int)) (by omega) hi'
   have yes:m+(nth l.pts i).name.length<3000→P∧∀ j,j<i+1→(nth l.pts j).name.length≤3000:=fun h=>⟨(hP hm3).1,fun j hj=>by
    rcases Nat.lt_or_eq_of_le (Nat.le_of_lt_succ hj) with hj | rfl
    ·exact (hP hm3).2 j hj
    ·omega⟩
   generalize hQ:(fun (e:Ex) (s':St)=>_)=Q'
   simp only[D.l35_1b]
   simp +contextual (maxSteps:=2000000) [h1,h3,h4,hL,hj',hj3,hw8,hwm,ix,sl,ivP,B6,B7]
   subst hQ
   simp
   exact⟨hi,⟨id,by simp[gP],by simp[gP,imms]⟩,by simp[gP],m+(nth l.pts i).name.length,by simp[gP],by omega,yes⟩
  ·have hj3:ILt (m:Int) 3000=False:=ilt_f (by omega)
   generalize hQ:(fun (e:Ex) (s':St)=>_)=Q'
   simp only[D.l35_1b]
   simp +contextual (maxSteps:=2000000) [h1,h3,h4,hL,hj',hj3,sl,B6,B7]
   subst hQ
   simp
   exact⟨⟨id,by simp[gP,h1],by simp[gP,hL,imms]⟩,m,by simp[gP,h3],hm,fun h=>absurd h hm3⟩
 ·obtain rfl:i=l.pts.length:=by omega
  generalize hQ:(fun (e:Ex) (s':St)=>_)=Q'
  simp only[D.l35_1b]
  simp[h1,h3,h4,hL,sl,B6,B7]
  subst hQ
  simp
  exact⟨⟨id,by simp[gP,h1],by simp[gP,hL,imms]⟩,m,by simp[gP,h3],hm,fun h=>⟨(hP h).1,fun x hx=>by
   obtain⟨j,hj,rfl⟩:=mem_nth hx
   exact (hP h).2 j hj⟩⟩
theorem loopZ2 (ok:LoOk l) (hM:3000+reachBytes≤M) (hM2:M≤2 ^ 60) (h:IZ l 6 M P (fun j=>(nth l.sigs j).length≤3000) 0 st)
  (hk:∀ st',ZE l M (P∧∀ x∈l.sigs,x.length≤3000) st'→Bk DG (K DG d) 0 (.exit 4) ks st' Q) :
  Wp DG (K DG d) 0 D.l35_2 ks st Q:=by
 have hrb:=rb3
 refine dw_loop (N:=l.sigs.length) (small ok.lg) (IZ l 6 M P (fun j=>(nth l.sigs j).length≤3000)) (fun e st'=>e=.exit 4∧ZE l M (P∧∀ x∈l.sigs,x.length≤3000) st')
  (fun i st hle hI=>?_) h (fun e s' h=>by rw[h.1]; exact hk s' h.2)
 obtain⟨⟨id,h1,hL⟩,h4,m,h3,hm,hP⟩:=hI
 have ls:=ok.lg
 have sl:=ok.g.len
 simp only[List.length_map] at sl
 by_cases hi:i<l.sigs.length
 ·have hi':(i:Int)<l.sigs.length:=by omega
  have hj':=ilt_t hi'
  by_cases hm3:m<3000
  ·have hj3:ILt (m:Int) 3000=True:=ilt_t (by omega)
   have hw8:IntKind.i64.wrap ((i:Int)+1)=(i:Int)+1:=wr_succ hi ls
   have hlen:=ok.og _ (nth_mem hi)
   have hwm:IntKind.i64.wrap ((m:Int)+((nth l.sigs i).length:Int))=((m+(nth l.sigs i).length:Nat):Int):=by rw[wr_id (by omega) (by omega)]; omega
   have ix:=fun {h:Nat→Option HB}{n:Nat}=>idx_sl (h:=h) (n:=n) ok.g (by omega) (k:=.i64) (z:=(i:Int)) (by omega) hi'
   have yes:m+(nth l.sigs i).length<3000→P∧∀ j,j<i+1→(nth l.sigs j).length≤3000:=fun h=>⟨(hP hm3).1,fun j hj=>by
    rcases Nat.lt_or_eq_of_le (Nat.le_of_lt_succ hj) with hj | rfl
    ·exact (hP hm3).2 j hj
    ·omega⟩
   generalize hQ:(fun (e:Ex) (s':St)=>_)=Q'
   simp only[D.l35_2b]
   simp +contextual (maxSteps:=2000000) [h1,h3,h4,hL,hj',hj3,hw8,hwm,ix,sl,ivS,B6,B7]
   subst hQ
   simp
   exact⟨hi,⟨id,by simp[gP],by simp[gP,imms]⟩,by simp[gP],m+(nth l.sigs i).length,by simp[gP],by omega,yes⟩
  ·have hj3:ILt (m:Int) 3000=False:=ilt_f (by omega)
   generalize hQ:(fun (e:Ex) (s':St)=>_)=Q'
   simp only[D.l35_2b]
   simp +contextual (maxSteps:=2000000) [h1,h3,h4,hL,hj',hj3,sl,B6,B7]
   subst hQ
   simp
   exact⟨⟨id,by simp[gP,h1],by simp[gP,hL,imms]⟩,m,by simp[gP,h3],hm,fun h=>absurd h hm3⟩
 ·obtain rfl:i=l.sigs.length:=by omega
  generalize hQ:(fun (e:Ex) (s':St)=>_)=Q'
  simp only[D.l35_2b]
  simp[h1,h3,h4,hL,sl,B6,B7]
  subst hQ
  simp
  exact⟨⟨id,by simp[gP,h1],by simp[gP,hL,imms]⟩,m,by simp[gP,h3],hm,fun h=>⟨(hP h).1,fun x hx=>by
   obtain⟨j,hj,rfl⟩:=mem_nth hx
   exact (hP h).2 j hj⟩⟩
theorem loopZ3 (ok:LoOk l) (hM:3000+4*reachBytes≤M) (hM2:M≤2 ^ 60) (h:IZ l 7 M P (fun j=>(nth l.rts j).name.length≤3000) 0 st)
  (hk:∀ st',ZE l M (P∧∀ x∈l.rts,x.name.length≤3000) st'→Bk DG (K DG d) 0 (.exit 6) ks st' Q) :
  Wp DG (K DG d) 0 D.l35_3 ks st Q:=by
 have hrb:=rb3
 refine dw_loop (N:=l.rts.length) (small ok.lr) (IZ l 7 M P (fun j=>(nth l.rts j).name.length≤3000)) (fun e st'=>e=.exit 6∧ZE l M (P∧∀ x∈l.rts,x.name.length≤3000) st')
  (fun i st hle hI=>?_) h (fun e s' h=>by rw[h.1]; exact hk s' h.2)
 obtain⟨⟨id,h1,hL⟩,h4,m,h3,hm,hP⟩:=hI
 have ls:=ok.lr
 have sl:=ok.r.len
 simp only[List.length_map] at sl
 by_cases hi:i<l.rts.length
 ·have hi':(i:Int)<l.rts.length:=by omega
  have hj':=ilt_t hi'
  by_cases hm3:m<3000
  ·have hj3:ILt (m:Int) 3000=True:=ilt_t (by omega)
   have hw8:IntKind.i64.wrap ((i:Int)+1)=(i:Int)+1:=wr_succ hi ls
   have rk:=ok.or _ (nth_mem hi)
   have r1:=rk.ln
   have r2:=rk.lp
   have r3:=rk.lq
   have r4:=rk.lf
   have v2:=rk.p.len
   have v3:=rk.q.len
   have v4:=rk.f.len
   simp only[List.length_map] at v2 v3 v4
   have hwm1:IntKind.i64.wrap ((m:Int)+((nth l.rts i).name.length:Int))=((m+(nth l.rts i).name.length:Nat):Int):=by rw[wr_id (by omega) (by omega)]; omega
   have hwm2:IntKind.i64.wrap (((m+(nth l.rts i).name.length:Nat):Int)+((nth l.rts i).path.length:Int))=((m+(nth l.rts i).name.length+(nth l.rts i).path.length:Nat):Int):=by rw[wr_id (by omega) (by omega)]; omega
   have hwm3:IntKind.i64.wrap (((m+(nth l.rts i).name.length+(nth l.rts i).path.length:Nat):Int)+((nth l.rts i).pts.length:Int))=((m+(nth l.rts i).name.length+(nth l.rts i).path.length+(nth l.rts i).pts.length:Nat):Int):=by rw[wr_id (by omega) (by omega)]; omega
   have hwm4:IntKind.i64.wrap (((m+(nth l.rts i).name.length+(nth l.rts i).path.length+(nth l.rts i).pts.length:Nat):Int)+((nth l.rts i).flk.length:Int))=((m+(nth l.rts i).name.length+(nth l.rts i).path.length+(nth l.rts i).pts.length+(nth l.rts i).flk.length:Nat):Int):=by rw[wr_id (by omega) (by omega)]; omega
   have ix:=fun {h:Nat→Option HB}{n:Nat}=>idx_sl (h:=h) (n:=n) ok.r (by omega) (k:=.i64) (z:=(i:Int)) (by omega) hi'
   generalize hm2:m+(nth l.rts i).name.length=m2 at hwm1 hwm2 hwm3 hwm4
   generalize hm3':m2+(nth l.rts i).path.length=m3 at hwm2 hwm3 hwm4
   generalize hm4:m3+(nth l.rts i).pts.length=m4 at hwm3 hwm4
   generalize hm5:m4+(nth l.rts i).flk.length=m5 at hwm4
   have yes:m5<3000→P∧∀ j,j<i+1→(nth l.rts j).name.length≤3000:=fun h=>⟨(hP hm3).1,fun j hj=>by
    rcases Nat.lt_or_eq_of_le (Nat.le_of_lt_succ hj) with hj | rfl
    ·exact (hP hm3).2 j hj
    ·omega⟩
   generalize hQ:(fun (e:Ex) (s':St)=>_)=Q'
   simp only[D.l35_3b]
   simp +contextual (maxSteps:=2000000) [h1,h3,h4,hL,hj',hj3,hw8,hwm1,hwm2,hwm3,hwm4,v2,v3,v4,rk.p.scal,rk.q.scal,rk.f.scal,ix,sl,ivRt,B6,B7]
   subst hQ
   simp
   exact⟨hi,⟨id,by simp[gP],by simp[gP,imms]⟩,by simp[gP],m5,by simp[gP],by omega,yes⟩
  ·have hj3:ILt (m:Int) 3000=False:=ilt_f (by omega)
   generalize hQ:(fun (e:Ex) (s':St)=>_)=Q'
   simp only[D.l35_3b]
   simp +contextual (maxSteps:=2000000) [h1,h3,h4,hL,hj',hj3,sl,B6,B7]
   subst hQ
   simp
   exact⟨⟨id,by simp[gP,h1],by simp[gP,hL,imms]⟩,m,by simp[gP,h3],hm,fun h=>absurd h hm3⟩
 ·obtain rfl:i=l.rts.length:=by omega
  generalize hQ:(fun (e:Ex) (s':St)=>_)=Q'
  simp only[D.l35_3b]
  simp[h1,h3,h4,hL,sl,B6,B7]
  subst hQ
  simp
  exact⟨⟨id,by simp[gP,h1],by simp[gP,hL,imms]⟩,m,by simp[gP,h3],hm,fun h=>⟨(hP h).1,fun x hx=>by
   obtain⟨j,hj,rfl⟩:=mem_nth hx
   exact (hP h).2 j hj⟩⟩
end
structure LoSz (l:Lo):Prop where
 ls:l.secs.length<3000
 lp:l.pts.length<3000
 lg:l.sigs.length<3000
 lr:l.rts.length<3000
 s:∀ x∈l.secs,x.length≤3000
 p:∀ x∈l.pts,x.name.length≤3000
 g:∀ x∈l.sigs,x.length≤3000
 r:∀ x∈l.rts,x.name.length≤3000
theorem LoSz.sm {l:Lo}(h:LoSz l):LoSm l:=⟨fun x hx=>by have:=h.s x hx; omega,fun x hx=>by have:=h.p x hx; omega,fun x hx=>by have:=h.g x hx; omega,fun x hx=>by have:=h.r x hx; omega⟩
theorem size_bl {D:Nat}(hD:1≤D){l:Lo}(ok:LoOk l) :
  ∃ m:Nat,bl (K DG D) 35 [l.dv]=some (.imm (.int .i64 m))∧(m<3000→LoSz l):=by
 have hrb:=rb3
 obtain⟨d,rfl⟩:∃ d,D=d+1:=⟨D - 1,by omega⟩
 have key:Fe (K DG (d+1) 35 [l.dv] .lf 0 0) (fun v _ _=>∃ m:Nat,v=.imm (.int .i64 m)∧(m<3000→LoSz l)):=by
  rw[kX 35 D.f35 rfl]
  refine fn_dw rfl ?_
  have sl:=ok.s.len
  have gl:=ok.g.len
  have pl:=ok.p.len
  have rl:=ok.r.len
  simp only[List.length_map] at sl gl pl rl
  have ls:=ok.ls
  have lp:=ok.lp
  have lg:=ok.lg
  have lr:=ok.lr
  have w1:IntKind.i64.wrap ((l.secs.length:Int)+(l.pts.length:Int))=((l.secs.length+l.pts.length:Nat):Int):=by rw[wr_id (by omega) (by omega)]; omega
  have w2:IntKind.i64.wrap (((l.secs.length+l.pts.length:Nat):Int)+(l.sigs.length:Int))=((l.secs.length+l.pts.length+l.sigs.length:Nat):Int):=by rw[wr_id (by omega) (by omega)]; omega
  have w3:IntKind.i64.wrap (((l.secs.length+l.pts.length+l.sigs.length:Nat):Int)+(l.rts.length:Int))=((l.secs.length+l.pts.length+l.sigs.length+l.rts.length:Nat):Int):=by rw[wr_id (by omega) (by omega)]; omega
  generalize h2:l.secs.length+l.pts.length=m2 at w1 w2 w3
  generalize h3:m2+l.sigs.length=m3 at w2 w3
  generalize h4:m3+l.rts.length=m4 at w3
  simp (config:={maxSteps:=2000000}) [ok.s.scal,ok.p.scal,ok.g.scal,ok.r.scal,sl,gl,pl,rl,w1,w2,w3,B6,B7]
  refine loopZ0 (l:=l) (M:=8*reachBytes) (P:=l.secs.length<3000∧l.pts.length<3000∧l.sigs.length<3000∧l.rts.length<3000) ok (by omega) (by omega) ⟨⟨0,by simp[gP],by simp[gP,imms]⟩,by simp[gP],m4,by simp[gP],by omega,fun h=>⟨by omega,fun j hj=>by omega⟩⟩ ?_
  rintro st1 ⟨⟨i1,b1,b2⟩,m1,b3,b4,b5⟩
  simp[b1,b2,b3,B6,B7]
  refine loopZ1 (l:=l) (M:=8*reachBytes) ok (by omega) (by omega) ⟨⟨i1,by simp[gP,b1],by simp[gP,b2,imms]⟩,by simp[gP],m1,by simp[gP,b3],b4,fun h=>⟨b5 h,fun j hj=>by omega⟩⟩ ?_
  rintro st2 ⟨⟨i2,c1,c2⟩,m5,c3,c4,c5⟩
  simp[c1,c2,c3,B6,B7]
  refine loopZ2 (l:=l) (M:=8*reachBytes) ok (by omega) (by omega) ⟨⟨i2,by simp[gP,c1],by simp[gP,c2,imms]⟩,by simp[gP],m5,by simp[gP,c3],c4,fun h=>⟨c5 h,fun j hj=>by omega⟩⟩ ?_
  rintro st3 ⟨⟨i3,e1,e2⟩,m6,e3,e4,e5⟩
  simp[e1,e2,e3,B6,B7]
  refine loopZ3 (l:=l) (M:=8*reachBytes) ok (by omega) (by omega) ⟨⟨i3,by simp[gP,e1],by simp[gP,e2,imms]⟩,by simp[gP],m6,by simp[gP,e3],e4,fun h=>⟨e5 h,fun j hj=>by omega⟩⟩ ?_
  rintro st4 ⟨⟨i4,f1,f2⟩,m7,f3,f4,f5⟩
  simp[f1,f2,f3,B6,B7]
  refine⟨m7,rfl,fun h=>?_⟩
  obtain⟨⟨⟨⟨g0,g1⟩,g2⟩,g3⟩,g4⟩:=f5 h
  exact⟨g0.1,g0.2.1,g0.2.2.1,g0.2.2.2,g1,g2,g3,g4⟩
 obtain⟨v,H,n,e,m,rfl,hm⟩:=key
 exact⟨m,bl_imm e,hm⟩
abbrev kdEv:List Kd:=[.i .i64,.i .i64,.i .i64,.i .i64,.i .i64]
theorem ev_of {iv:IV}(h:FitK (.sl kdEv) iv):∃ xs:List EV,Sl 5 iv (xs.map ivE)∧xs.length≤reachBytes∧∀ x∈xs,True:=
 rows_of h ivE _ fun e hl hk=>by
  match e,hl with
  | [c0,c1,c2,c3,c4],_=>
   have f0:=hk 0 _ _ rfl rfl
   have f1:=hk 1 _ _ rfl rfl
   have f2:=hk 2 _ _ rfl rfl
   have f3:=hk 3 _ _ rfl rfl
   have f4:=hk 4 _ _ rfl rfl
   cases f0; cases f1; cases f2; cases f3; cases f4
   exact⟨⟨_,_,_,_,_⟩,rfl,trivial⟩
structure EvOk (x:IV×List EV):Prop where
 ev:Sl 5 x.1 (x.2.map ivE)
 ln:x.2.length≤reachBytes
def ivV (x:IV×List EV):List IV:=[x.1]
theorem evs_of {iv:IV}(h:FitK (.sl [.sl kdEv]) iv):∃ xs:List (IV×List EV),Sl 1 iv (xs.map ivV)∧xs.length≤reachBytes∧∀ x∈xs,EvOk x:=
 rows_of h ivV _ fun e hl hk=>by
  match e,hl with
  | [c0],_=>
   have f0:=hk 0 _ _ rfl rfl
   obtain⟨es,h1,h2,_⟩:=ev_of f0
   exact⟨(c0,es),rfl,h1,h2⟩
theorem events_bl {D:Nat}(hD:1≤D){xs:List (IV×List EV)}(hv:Sl 1 v (xs.map ivV)) (hl:xs.length≤reachBytes) (hx:∀ x∈xs,EvOk x):∃ b:Bool,bl (K DG D) 36 [.imm v]=some (.imm (.bool b)):=by
 obtain⟨d,rfl⟩:∃ d,D=d+1:=⟨D - 1,by omega⟩
 have vs:=hv.scal
 have vl:=hv.len
 simp only[List.length_map] at vl
 have key:Fe (K DG (d+1) 36 [.imm v] .lf 0 0) (fun v' _ _=>∃ b:Bool,v'=.imm (.bool b)):=by
  rw[kX 36 D.f36 rfl]
  refine fn_dw rfl ?_
  simp[B6,B7]
  refine dw_loop (N:=xs.length) (small hl) (fun i st=>st.T.get 0=some (.imm v)∧(∃ z:Int,st.T.get 3=some (.imm (.int .i64 z)))∧st.T.get 4=some (.imm (.int .i64 (i:Int)))) (fun e st'=>(e=.exit 0)∨(e=.ret∧∃ b:Bool,st'.T.get 2=some (.imm (.bool b)))) (fun i st hle hI=>?_) ⟨by simp[gP],⟨0,by simp[gP]⟩,by simp[gP]⟩ ?_
  ·obtain⟨c0,⟨z,c3⟩,c4⟩:=hI
   by_cases hi:i<xs.length
   ·have hi1:(i:Int)<xs.length:=by omega
    have hi':=ilt_t hi1
    have hw8:IntKind.i64.wrap ((i:Int)+1)=(i:Int)+1:=wr_succ hi hl
    have ix:=fun {h:Nat→Option HB}{n:Nat}=>idx_sl (h:=h) (n:=n) hv (by omega) (k:=.i64) (z:=(i:Int)) (by omega) hi1
    simp only[Int.toNat_natCast] at ix
    have ex:=hx _ (nth_mem hi)
    have es:=ex.ev.scal
    have el:=ex.ev.len
    simp only[List.length_map] at el
    generalize nth xs i=x at *
    by_cases h90:(i:Int)<90
    ·have i90:=ilt_t h90
     rcases Classical.em (ILt 2000 (IntKind.i64.wrap (z+(x.2.length:Int)))) with g | g
     ·have g:=eq_true g
      generalize hQ:(fun (e:Ex) (s':St)=>_)=Q'
      simp only[D.l36_0b]
      simp[c0,c3,c4,vl,hi',i90,hw8,ix,es,el,g,ivV,B6,B7]
      subst hQ
      simp[gP]
     ·have g:=eq_false g
      generalize hQ:(fun (e:Ex) (s':St)=>_)=Q'
      simp only[D.l36_0b]
      simp[c0,c3,c4,vl,hi',i90,hw8,ix,es,el,g,ivV,B6,B7]
      subst hQ
      exact .inl ⟨rfl,hi,by simp[gP,c0],⟨_,by simp[gP]; rfl⟩,by simp[gP]⟩
    ·have i90:=ilt_f (Int.not_lt.1 h90)
     generalize hQ:(fun (e:Ex) (s':St)=>_)=Q'
     simp only[D.l36_0b]
     simp[c0,c3,c4,vl,hi',i90,B6,B7]
     subst hQ
     simp
   ·obtain rfl:i=xs.length:=by omega
    generalize hQ:(fun (e:Ex) (s':St)=>_)=Q'
    simp only[D.l36_0b]
    simp[c0,c3,c4,vl,ilt_self,B6,B7]
    subst hQ
    simp
  ·rintro e s2 (rfl | ⟨rfl,b,h⟩)
   ·simp[B6,B7]
   ·simp[h,B6,B7]
 obtain⟨x,H,n,e,b,rfl⟩:=key
 exact⟨b,bl_of e rfl⟩
theorem fine_bl {D:Nat}(hD:12≤D){l:Lo}(ok:LoOk l){xs:List (IV×List EV)}(hv:Sl 1 v (xs.map ivV)) (hl:xs.length≤reachBytes) (hx:∀ x∈xs,EvOk x):∃ b:Bool,bl (K DG D) 8 [l.dv,.imm v]=some (.imm (.bool b))∧(b=true→ISL l):=by
 obtain⟨d,rfl⟩:∃ d,D=d+1:=⟨D - 1,by omega⟩
 have hrb:=rb3
 obtain⟨m,hm,hs⟩:=size_bl (D:=d) (by omega) ok
 obtain⟨be,e3⟩:=events_bl (D:=d) (by omega) hv hl hx
 have vs:=hv.scal
 have key:Fe (K DG (d+1) 8 [l.dv,.imm v] .lf 0 0) (fun v' _ _=>∃ b:Bool,v'=.imm (.bool b)∧(b=true→ISL l)):=by
  have ss:=ok.s.scal
  have ps:=ok.p.scal
  have gs:=ok.g.scal
  have rs:=ok.r.scal
  rw[kX 8 D.f8 rfl]
  refine fn_dw rfl ?_
  by_cases hm3:m<3000
  ·have hj3:ILt (m:Int) 3000=True:=ilt_t (by omega)
   have ei:=Is4_bl (D:=d) (by omega) ok (hs hm3).sm
   simp only[Lo.dv] at hm ei ⊢
   by_cases is:ISL l
   ·rw[dec_t is] at ei
    simp[ss,ps,gs,rs,vs,hm,hj3,ei,e3,is,evParts,lay,imms,B6,B7]
   ·rw[dec_f is] at ei
    simp[ss,ps,gs,rs,vs,hm,hj3,ei,evParts,lay,imms,B6,B7]
  ·have hj3:ILt (m:Int) 3000=False:=ilt_f (by omega)
   simp only[Lo.dv] at hm ⊢
   simp[ss,ps,gs,rs,vs,hm,hj3,B6,B7]
 obtain⟨x,H,n,e,b,rfl,h⟩:=key
 exact⟨b,bl_of e rfl,h⟩
theorem ask_now (A:PLc) (s:PS) (i:Nat) (b:Bool):(askF A s i b).now=s.now:=by
 unfold askF
 repeat' split
 all_goals rfl
theorem cycS_now (A:PLc) (s:PS) (es:List EV):(cycS A s es).now=s.now+1:=by
 show (sendI (cy7 A s es) 2).now=_
 rw[(sendI_u _ _).2]
 show (tellS A (cy5 A s es) es 2).now=_
 rw[(tellS_r A (cy5 A s es) es 2).2.2.2.1]
 show (askF A (askF A _ _ _) _ _).now=_
 rw[ask_now]
 show (askF A (yldsF A (cy3 A s es) es) _ _).now=_
 rw[ask_now,ylds_now,cy3_now]
structure Any (l:Lo) (A:PLc) (c:Nat→Nat) (H:PT HB) (n P:Nat) (t:Nat) (s:PS):Prop where
 ao:AOk A
 eq:(∀ i,i<2→LoEq l (A.l i))∧LoEq l A.ls
 pt:PAt c H n P A s
 pi:PI A 0 s
 nw:s.now=(t:Int)
theorem Any.new {d:Nat}(hd:8≤d){l:Lo}(ok:LoOk l) (is:ISL l) (H:PT HB) (n:Nat) :
  ∃ P A c H' n',K DG (d+1) 9 [l.dv] H n 0=some (.tup [.ptr P 0 0,.imm (.int .i64 0)],H',n')∧Any l A c H' n' P 0 (newP l)∧(∀ j,j<n→c j=7)∧(∀ j,j<n→H'.get j=H.get j)∧n≤n':=by
 obtain⟨v,H',n',e,P,A,c,rfl,hP,ao,eq,eqs,pt,hc,hf⟩:=PNew_fn hd ok is H n
 exact⟨P,A,c,H',n',e,⟨ao,⟨eq,eqs⟩,pt,PI.new is eq,rfl⟩,hc,hf,by have:=pt.cP.2; omega⟩
theorem Any.mono {l:Lo} {P t:Nat}(h:Any l A c H n P t s) (hn:n≤n') (hc:∀ j,j<n→c' j=c j) (hf:∀ j,j<n→c j≤6→H'.get j=H.get j):Any l A c' H' n' P t s:=⟨h.ao,h.eq,h.pt.mono hn hc hf,h.pi,h.nw⟩
theorem Any.cyc {d:Nat}(hd:10≤d){l:Lo} {P t:Nat}(h:Any l A c H n P t s) (ht:t≤900)(hv:Sl 5 v (es.map ivE)) (hel:es.length≤reachBytes) :
  ∃ v' H' n' c',K DG (d+13) 12 [.ptr P 0 0,.imm v] H n 0=some (v',H',n')∧n≤n'∧Any l A c' H' n' P (t+1) (cycS A s (es.take 8))∧OutD H'.get n n' v' (cyO A s (es.take 8)).1 (cyO A s (es.take 8)).2∧(∀ j,j<n→c' j=c j)∧∀ j,j<n→6<c j→H'.get j=H.get j:=by
 obtain⟨v',H',n',e,⟨hn,c',pt,q,f⟩,o,pi⟩:=PCycle_fn hd h.ao h.pt h.pi (by rw[h.nw]; omega) hv hel
 exact⟨v',H',n',c',e,hn,⟨h.ao,h.eq,pt,pi,by rw[cycS_now,h.nw]; omega⟩,o,q,f⟩
theorem nil_ev:Sl 5 .nils (([]:List EV).map ivE):=.inl ⟨rfl,rfl⟩
theorem knownT_bl:bl (K DG 29) 19 []=some (.imm (.bool true)):=by
 have key:Fe (K DG 29 19 [] .lf 0 0) (fun v _ _=>v=.imm (.bool true)):=by
  have o1:=layOne_bl (d:=27)
  obtain⟨P,A,c,H1,n1,e1,h1,-,-,-⟩:=AtK.new (d:=27) (by omega) one_ok one_is .lf 0
  obtain⟨v2,H2,n2,c2,e2,hn2,h2,-,-,-⟩:=h1.cyc (d:=15) (by omega) (by omega) nil_ev (by simp) cal_nil
  have nw:=h2.now
  obtain⟨k3,g3,hk3⟩:=PCon_ro h2.pt (d:=26) (m:=n2) (lo:=0)
  obtain⟨k4,g4,hk4⟩:=PNow_ro h2.pt (d:=27) (m:=k3) (lo:=0)
  have hc:(cycS A (newP loOne) (List.take 8 [])).r.con=-1:=by
   rcases h2.jc with⟨h,_⟩ | ⟨_,rs,w,j⟩
   ·omega
   ·rw[j.r]; rfl
  rw[hc] at g3
  rw[nw] at g4
  rw[kX 19 D.f19 rfl]
  refine fn_dw rfl ?_
  simp[o1,e1,e2,g3,g4,B6,B7]
 obtain⟨v,H,n,e,rfl⟩:=key
 exact bl_of e rfl
def ss_TopRoutes:List (Bool×List Kd):=[(true,kdL),(false,[.sl [.sl kdEv]])]
structure ITR (l:Lo) (P:Nat) (v:IV) (k:Nat) (st:St):Prop where
 c1:st.T.get 1=some (.imm v)
 b2:Box st 2 l.ivs
 c5:st.T.get 5=some (.ptr P 0 0)
 c7:st.T.get 7=some (.imm (.int .i64 (k:Int)))
 at':∃ A c s,Any l A c st.H st.n P k s
theorem may_u {l:Lo}(ok:LoOk l) (is:ISL l) {P t:Nat}(h:Any l A c H n P t s)(hi:i<2) {lo:Nat}(hm:n≤m) :
  ∃ w k,callM (K DG 29) .ro 15 [.ptr P 0 0,.imm (.int .i64 (i:Int))] H m lo=some ⟨.imm w,H,k,[.rA]⟩∧m≤k∧(DV.imm w).scal=true∧bl (K DG 29) 16 [l.dv,.imm w]=some (.imm (.bool true)):=by
 have uo:=h.pi.uo i hi
 obtain⟨w,k,e,hk,hw⟩:=PRoutes_ro h.pt hi (by have:=uo.len (h.ao.is i hi); omega) (d:=27) (m:=m) (lo:=lo) (by omega) hm
 have inv:INV l (s.u i).rs:=(h.eq.1 i hi).inv uo.inv
 exact⟨w,k,e,hk,hw.scal,May_bl (by omega) ok is inv.ro inv.nc inv.ln hw⟩
theorem loopTR {l:Lo}(ok:LoOk l) (is:ISL l){P:Nat}{xs:List (IV×List EV)}(hv:Sl 1 v (xs.map ivV)) (hl:xs.length≤reachBytes) (hx:∀ x∈xs,EvOk x){st:St}(h:ITR l P v 0 st){ks:List Kf}{Q:Ex→St→Prop}
  (hk:∀ s',Bk DG (K DG 29) 0 (.exit 0) ks s' Q):Wp DG (K DG 29) 0 D.l4_0 ks st Q:=by
 have hrb:=rb3
 refine dw_loop (N:=xs.length) (small hl) (fun k st=>ITR l P v k st) (fun e s'=>e=.exit 0) (fun k st hle hI=>?_) h (fun e s' h=>by
  rw[h]
  exact hk s')
 obtain⟨c1,⟨i2,b2,L2⟩,c5,c7,A,c,s,hat⟩:=hI
 have vs:=hv.scal
 have vl:=hv.len
 simp only[List.length_map] at vl
 by_cases hi:k<xs.length
 ·have hi1:(k:Int)<xs.length:=by omega
  have hi':=ilt_t hi1
  by_cases h90:(k:Int)<90
  ·have i90:=ilt_t h90
   have hw8:IntKind.i64.wrap ((k:Int)+1)=(k:Int)+1:=wr_succ hi hl
   have ix:=fun {h:Nat→Option HB}{n:Nat}=>idx_sl (h:=h) (n:=n) hv (by omega) (k:=.i64) (z:=(k:Int)) (by omega) hi1
   simp only[Int.toNat_natCast] at ix
   have ex:=hx _ (nth_mem hi)
   have es:=ex.ev.scal
   generalize nth xs k=x at *
   obtain⟨v2,H2,n2,c2,e2,hn2,h2,-,-,-⟩:=hat.cyc (d:=16) (by omega) (by omega) ex.ev ex.ln
   obtain⟨w3,k3,e3,hk3,ws3,m3⟩:=may_u ok is h2 (i:=0) (by omega) (m:=n2) (lo:=0) (Nat.le_refl _)
   obtain⟨w4,k4,e4,hk4,ws4,m4⟩:=may_u ok is h2 (i:=1) (by omega) (m:=k3) (lo:=0) hk3
   rw[show ((0:Nat):Int)=0 from rfl] at e3
   rw[show ((1:Nat):Int)=1 from rfl] at e4
   have fin:∀ {T:PT DV}{L:PT LV}{n:Nat},n2≤n→T.get 1=some (.imm v)→(∃ id,T.get 2=some (.lref 2 id 0)∧L.get 2=some (.box id (imms l.ivs)))→T.get 5=some (.ptr P 0 0)→T.get 7=some (.imm (.int .i64 ((k:Int)+1)))→ITR l P v (k+1) ⟨T,L,H2,n⟩:=fun hn t1 t2 t5 t7=>⟨t1,t2,t5,t7,A,c2,_,h2.mono hn (fun _ _=>rfl) (fun _ _ _=>rfl)⟩
   simp only[Lo.dv] at m3 m4
   generalize hQ:(fun (e:Ex) (s':St)=>_)=Q'
   simp only[D.l4_0b]
   simp[c1,b2,L2,c5,c7,vs,vl,hi',i90,hw8,ix,es,e2,e3,ws3,m3,e4,ws4,m4,ivV,Lo.ivs,imms,ok.s.scal,ok.p.scal,ok.g.scal,ok.r.scal,B6,B7]
   subst hQ
   exact .inl ⟨rfl,hi,fin (by omega) (by simp[gP,c1]) ⟨i2,by simp[gP,b2],by simp[gP,L2,Lo.ivs,imms]⟩ (by simp[gP,c5]) (by simp[gP])⟩
  ·have i90:=ilt_f (Int.not_lt.1 h90)
   generalize hQ:(fun (e:Ex) (s':St)=>_)=Q'
   simp only[D.l4_0b]
   simp[c1,b2,L2,c5,c7,vl,hi',i90,B6,B7]
   subst hQ
   simp
 ·obtain rfl:k=xs.length:=by omega
  generalize hQ:(fun (e:Ex) (s':St)=>_)=Q'
  simp only[D.l4_0b]
  simp[c1,b2,L2,c5,c7,vl,ilt_self,B6,B7]
  subst hQ
  simp
theorem run_TopRoutes {l:Lo}(ok:LoOk l){xs:List (IV×List EV)}(hv:Sl 1 v (xs.map ivV)) (hl:xs.length≤reachBytes) (hx:∀ x∈xs,EvOk x):Fe (K DG 30 4 [l.dv,.imm v] .lf 0 0) (fun v _ _=>v=.imm (.bool true)):=by
 have ss:=ok.s.scal
 have ps:=ok.p.scal
 have gs:=ok.g.scal
 have rs:=ok.r.scal
 have vs:=hv.scal
 obtain⟨b,ef,hb⟩:=fine_bl (D:=29) (by omega) ok hv hl hx
 rw[kX 4 D.f4 rfl]
 refine fn_dw rfl ?_
 simp only[Lo.dv] at ef ⊢
 cases b with
 | false=>simp[ss,ps,gs,rs,vs,ef,evParts,lay,imms,B6,B7]
 | true=>
  have is:=hb rfl
  obtain⟨P,A,c,H1,n1,e1,h1,-,-,-⟩:=Any.new (d:=28) (by omega) ok is .lf 1
  simp only[Lo.dv] at e1
  have kn:=knownT_bl
  simp[ss,ps,gs,rs,vs,ef,e1,evParts,lay,imms,B6,B7]
  refine loopTR ok is (P:=P) hv hl hx ⟨by simp[gP],⟨0,by simp[gP],by simp[gP,Lo.ivs,imms]⟩,by simp[gP],by simp[gP],A,c,_,h1⟩ (fun s2=>?_)
  simp[kn,B6,B7]
theorem pure_TopRoutes:∀ cs,ArgsFit ss_TopRoutes cs→∃ H' n',K (doorG 0 1) 30 4 cs .lf 0 0=some (.imm (.bool true),H',n'):=fun cs h=>by
 obtain⟨d,ds,rfl,h1,h2⟩:=fit_cons h
 obtain⟨l,rfl,ok⟩:=lay_of h1
 obtain⟨d1,r1,rfl,g1,h3⟩:=fit_cons h2
 obtain⟨iv,rfl,hf⟩:=fit_s g1
 obtain⟨xs,hv,hl,hx⟩:=evs_of hf
 cases fit0 (r:=[]) h3
 obtain⟨v,H,n,e,rfl⟩:=run_TopRoutes ok hv hl hx
 exact⟨H,n,e⟩
end Go.Proofs.YtlknjgmhfimhbaaGreatDoor.D
