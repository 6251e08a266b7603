/-
  Code: what D runs, the model runs.
  Functions: what D's table of functions computes, the model's calls compute.
-/
import Derived.Test.YtlknjgmhfimhbaaGreatDoorSimQ
import Derived.Scope
section
set_option linter.unusedVariables false
set_option linter.unusedSimpArgs false
namespace Go.PM
def exOf:Ex→Exit
 | .norm=>.normal
 | .exit id=>.exit id
 | .ret=>.ret
theorem zJk {α:Type}(t:PT α):∀ (ks:List Nat) (k:Nat),(keep t ks).get k=if k∈ks then t.get k else none
 | [],k=>by simp[keep,PT.get]
 | x::ks,k=>by
  simp only[keep,PT.get_put,zJk t ks,List.mem_cons]
  by_cases h:k=x
  ·subst h; simp
  ·simp[h]
section
variable {P:Program}{lo:Nat}{Tch:Nat→Prop}{φ:Phi}{σ:Sig}{G:Nat→Option (List IV)}{a:Act}{w:World}{nt N:Nat}{K:Callee}
theorem Rel.sub {T T':Nat→Option DV}{L L':Nat→Option LV}{h:Nat→Option HB}{tmps:Array Value}(hR:Rel lo Tch φ σ T L h tmps w) (hT:∀ k v,T' k=some v→T k=some v)
  (hL:∀ k v,L' k=some v→L k=some v):Rel lo Tch φ σ T' L' h tmps w:=by
 have hl:∀ i,Liv L' h i→Liv L h i:=fun i hi=>by
  rcases hi with h1 | ⟨k,v,h1,h2⟩
  ·exact .inl h1
  ·exact .inr ⟨k,v,hL _ _ h1,h2⟩
 exact⟨hR.sig,fun i j bi bj li lj=>hR.inj i j bi bj (hl i li) (hl j lj),hR.rng,hR.heap,fun k v hk=>hR.locs k v (hL _ _ hk),fun k k' v v' h1 h2=>hR.apart k k' v v' (hL _ _ h1) (hL _ _ h2),fun k v hk=>hR.tmp k v (hT _ _ hk)⟩
theorem SR.keep {s:St}(hS:SR lo Tch φ σ G nt N s a w) (live own:List Nat):SR lo Tch φ σ G nt N { s with T:=keep s.T live,L:=keep s.L own } a w:=by
 refine⟨⟨hS.fr.rel.sub (fun k v hk=>?_) (fun k v hk=>?_),hS.fr.defs,hS.fr.size,hS.fr.grel,hS.fr.tch⟩,hS.fresh,hS.live,hS.le⟩
 ·simp only[zJk] at hk; split at hk
  ·exact hk
  ·cases hk
 ·simp only[zJk] at hk; split at hk
  ·exact hk
  ·cases hk
abbrev Post (lo:Nat) (Tch:Nat→Prop) (φ:Phi) (σ:Sig) (G:Nat→Option (List IV)) (nt N:Nat) (n:Nat) (w:World) (s':St) (R:Act→World→Prop):Prop:=
 ∀ a' w' φ' σ',SR lo Tch φ' σ' G nt N s' a' w'→Grow φ φ' σ σ' n s'.n w→Fr Tch w w'→R a' w'
theorem zGl (hK:KOk P G K) (hm:P.follows .mixedOrders=true){id:Nat}{ops:Array Oper}{ds:List DO}{bef:List (List Nat)}(hok:okOs P nt ops ops.toList ds=true) (hah:ahOk ops.toList=true)
  (h1:zC9 (zB4 ops.toList) bef=true) (h2:zNq (zB4 ops.toList) ds=true){s s':St}{accs:List (List Acc)}(hr:zNV G K lo ds s=some (s',accs)) (h3:calm bef accs=true)
  (hS:SR lo Tch φ σ G nt N s a w) (hN:s'.n≤N){Q:Exit→Act→World→Prop}(hQ:Post lo Tch φ σ G nt N s.n w s' (Q .normal)):(Code.region id ops true).wp P Q a w:=by
 obtain⟨st,q1,q2,q3,q4⟩:=zNX hr
 obtain⟨hlen,hpt⟩:=zNF hok
 have hsz:ops.size=ds.length:=by simpa using hlen
 have run:Run G K lo ds accs st:=by
  have:∀ (i:Nat) d,ds[i]?=some d→zNP G K lo d (st i)=some (st (i+1),accs.getD i []):=fun i d hd=>by
   obtain⟨acc,p1,p2⟩:=q4 i d hd
   rw[List.getD_eq_getElem?_getD,p1]; exact p2
  exact⟨this,fun i d hd=>zNR hK.kmon (this i d hd)⟩
 have hmon:=zNW hK.kmon hr
 have hall:∀ j,(Array.replicate ops.size false).getD j false=false:=fun j=>by
  rw[Array.getD_eq_getD_getElem?,Array.getElem?_replicate]
  split <;> rfl
 refine wp_region_any hm ?_
 refine zCI (Tch:=Tch) (φ0:=φ) (σ0:=σ) (w0:={ w with drawn:=w.drawn+1 }) (N:=N) hK hok hah (zGa h1 h2 h3) q3 run (by rw[q1]; exact hS.le) (by rw[q1]; exact hS.live) (by rw[q2]; exact hN) ?_ ops.size
  (Array.replicate ops.size false) a _ φ σ (by simp) (by simp) ?_ ?_ ?_ (.refl _ _ _ _ _) (.refl _ _)
 ·intro a' w' φ' σ' hF hg hf
  rw[q2] at hF hg
  rw[q1] at hg
  exact hQ a' w' φ' σ' ⟨hF,Grow.fresh hg hmon.le hS.fresh,hmon.live hS.live,Nat.le_trans hS.le hmon.le⟩ ⟨hg.ext,hg.new,hg.sg,hg.sgn⟩ ⟨hf.os,hf.out,hf.size,hf.same⟩
 ·intro i j _ hj
  have hj':(Array.replicate ops.size false).getD j false=true:=hj
  rw[hall j] at hj'; cases hj'
 ·have e:∀ {ι V:Type}(val:Nat→ι→V) (wr:Nat→ι→Prop) [∀ i x,Decidable (wr i x)] (k:Nat),zL3 val wr (fun i=>(Array.replicate ops.size false).getD i false) k=val 0:=fun val wr _ k=>by
   funext x
   exact zL7 (i:=0) (Nat.zero_le k) (fun j _ _ hj=>by
    have hj':(Array.replicate ops.size false).getD j false=true:=hj
    rw[hall j] at hj'; cases hj')
  rw[e,e,e,q1]
  exact⟨hS.fr.rel.drew _,hS.fr.defs,hS.fr.size,hS.fr.grel,hS.fr.tch⟩
 ·intro id bi hid
  rw[q1]
  by_cases h0:id<s.n
  ·exact .inl h0
  ·by_cases h4:N≤id
   ·exact .inr (.inl h4)
   ·have:=hS.fresh id (by omega) (by omega)
    rw[hid] at this; cases this
theorem zL9 {p:Nat→Prop}(h:∃ k,p k):∃ k,p k∧∀ j,p j→k≤j:=by
 obtain⟨k,hk⟩:=h
 induction k using Nat.strongRecOn with
 | _ k ih=>
  by_cases h:∃ j,j<k∧p j
  ·obtain⟨j,h1,h2⟩:=h; exact ih j h1 h2
  ·exact⟨k,hk,fun j hj=>Nat.le_of_not_lt fun hl=>h ⟨j,hl,hj⟩⟩
open Classical in
theorem zEk (hK:KOk P G K) (hm:P.follows .mixedOrders=true):∀ {c:Code}{d:DC},okC P nt c d=true→∀ {s:St}{e:Ex}{s':St},d.run G K lo s=some (e,s')→
  ∀ {φ:Phi}{σ:Sig}{a:Act}{w:World}{Q:Exit→Act→World→Prop},SR lo Tch φ σ G nt N s a w→s'.n≤N→Post lo Tch φ σ G nt N s.n w s' (Q (exOf e))→c.wp P Q a w:=by
 intro c
 induction c with
 | skip=>
  intro d hok s e s' hr φ σ a w Q hS hN hQ
  cases d <;> simp[okC] at hok
  simp[DC.run] at hr; obtain⟨rfl,rfl⟩:=hr
  exact wp_skip (hQ a w φ σ hS (.refl _ _ _ _ _) (.refl _ _))
 | label l=>
  intro d hok s e s' hr φ σ a w Q hS hN hQ
  cases d <;> simp[okC] at hok
  simp[DC.run] at hr; obtain⟨rfl,rfl⟩:=hr
  exact wp_label (hQ a w φ σ hS (.refl _ _ _ _ _) (.refl _ _))
 | region id ops dr=>
  intro d hok s e s' hr φ σ a w Q hS hN hQ
  cases d with
  | skip=>
   simp[okC] at hok
   obtain⟨h1,rfl⟩:=hok
   subst h1
   simp[DC.run] at hr; obtain⟨rfl,rfl⟩:=hr
   exact wp_region (by simpa [wpOps,exOf] using hQ a w φ σ hS (.refl _ _ _ _ _) (.refl _ _))
  | reg ds=>
   cases dr <;> simp only[okC] at hok <;> try (cases hok; done)
   simp only[DC.run,Option.map_eq_some_iff] at hr
   obtain⟨⟨s1,as⟩,h1,h2⟩:=hr
   cases h2
   obtain⟨hlen,_⟩:=zNF hok
   refine wp_region ?_
   rw[List.range_eq_range',show ops.size=ds.length by simpa using hlen]
   exact zOc hK hok ds 0 s s1 as φ σ a w rfl h1 hS hN hQ
  | drw ds bef=>
   cases dr <;> simp only[okC] at hok <;> try (cases hok; done)
   simp only[Bool.and_eq_true] at hok
   obtain⟨⟨h1,h2⟩,h3,h4⟩:=hok
   simp only[DC.run] at hr
   split at hr
   ·rename_i s1 accs h5
    split at hr
    ·rename_i h6
     cases hr
     exact zGl hK hm h1 h2 h3 h4 h5 h6 hS hN hQ
    ·cases hr
   ·cases hr
  | _=>cases dr <;> simp[okC] at hok
 | seq x y ihx ihy=>
  intro d hok s e s' hr φ σ a w Q hS hN hQ
  have skipcase:x=.skip→okC P nt y d=true→(Code.seq x y).wp P Q a w:=fun hx hy=>by
   subst hx
   exact wp_seq (wp_skip (ihy hy hr hS hN hQ))
  cases d with
  | seq dx dy=>
   have:(okC P nt x dx=true∧okC P nt y dy=true)∨(x=.skip∧okC P nt y (.seq dx dy)=true):=by
    simp only[okC,Bool.and_eq_true] at hok
    exact .inl hok
   rcases this with⟨h1,h2⟩ | ⟨h1,h2⟩
   ·simp only[DC.run] at hr
    split at hr
    ·rename_i s1 h3
     refine wp_seq (ihx h1 h3 hS (Nat.le_trans (zPv hK.kmon hr).le hN) ?_)
     intro a1 w1 φ1 σ1 hS1 hg1 hf1
     refine ihy h2 hr hS1 hN ?_
     intro a2 w2 φ2 σ2 hS2 hg2 hf2
     exact hQ a2 w2 φ2 σ2 hS2 (hg1.trans hg2 (zPv hK.kmon h3).le (zPv hK.kmon hr).le hf1.size) (hf1.trans hf2)
    ·rename_i hne
     refine wp_seq (ihx h1 hr hS hN ?_)
     intro a1 w1 φ1 σ1 hS1 hg1 hf1
     have:=hQ a1 w1 φ1 σ1 hS1 hg1 hf1
     cases e with
     | norm=>exact (hne s' hr).elim
     | exit id=>exact this
     | ret=>exact this
   ·exact skipcase h1 h2
  | _=>
   cases x <;> first
    | (simp only[okC] at hok; exact skipcase rfl hok)
    | (simp[okC] at hok; done)
 | cond c x y ihx ihy=>
  intro d hok s e s' hr φ σ a w Q hS hN hQ
  cases d <;> simp only[okC] at hok <;> try (cases hok; done)
  simp only[Bool.and_eq_true] at hok
  obtain⟨⟨h1,h2⟩,h3⟩:=hok
  simp only[DC.run] at hr
  split at hr
  ·rename_i h4
   have:=zOm (zOl (zHP hS.fr.rel hS.fr.grel h1 h4))
   exact wp_cond_true this (ihx h2 hr hS hN hQ)
  ·rename_i h4
   have:=zOm (zOl (zHP hS.fr.rel hS.fr.grel h1 h4))
   exact wp_cond_false this (ihy h3 hr hS hN hQ)
  ·cases hr
 | block id b ih=>
  intro d hok s e s' hr φ σ a w Q hS hN hQ
  cases d <;> simp only[okC] at hok <;> try (cases hok; done)
  simp only[Bool.and_eq_true,beq_iff_eq] at hok
  obtain⟨rfl,h1⟩:=hok
  simp only[DC.run] at hr
  split at hr
  ·rename_i i s1 h2
   split at hr
   ·rename_i hi
    cases hr
    refine wp_block (ih h1 h2 hS hN ?_)
    intro a1 w1 φ1 σ1 hS1 hg1 hf1
    simp only[exOf,Exit.inBlock,hi,if_true]
    exact hQ a1 w1 φ1 σ1 hS1 hg1 hf1
   ·rename_i hi
    cases hr
    refine wp_block (ih h1 h2 hS hN ?_)
    intro a1 w1 φ1 σ1 hS1 hg1 hf1
    simp only[exOf,Exit.inBlock,hi,if_false]
    exact hQ a1 w1 φ1 σ1 hS1 hg1 hf1
  ·rename_i hne
   refine wp_block (ih h1 hr hS hN ?_)
   intro a1 w1 φ1 σ1 hS1 hg1 hf1
   have:=hQ a1 w1 φ1 σ1 hS1 hg1 hf1
   cases e with
   | norm=>exact this
   | exit id=>exact (hne id s' hr).elim
   | ret=>exact this
 | loop b ih=>
  intro d hok s e s' hr φ σ a w Q hS hN hQ
  cases d <;> simp only[okC] at hok <;> try (cases hok; done)
  rename_i live own body
  simp only[DC.run] at hr
  let f:=fun s:St=>body.run G K lo { s with T:=keep s.T live,L:=keep s.L own }
  have hfm:∀ s e s',f s=some (e,s')→Mon s.n s'.n s.H.get s'.H.get:=fun s e s' h=>zPv (s:={ s with T:=keep s.T live,L:=keep s.L own }) hK.kmon h
  let I:Nat→Act→World→Prop:=fun k a1 w1=>∃ s1 φ1 σ1,iter f k s1=some (e,s')∧SR lo Tch φ1 σ1 G nt N s1 a1 w1∧s.n≤s1.n∧Grow φ φ1 σ σ1 s.n s1.n w∧Fr Tch w w1
  let μ:Act→World→Nat:=fun a1 w1=>if h:∃ k,I k a1 w1 then Classical.choose (zL9 h) else 0
  refine wp_loop (fun a1 w1=>∃ k,I k a1 w1) μ ⟨LOOP,s,φ,σ,hr,hS,Nat.le_refl _,.refl _ _ _ _ _,.refl _ _⟩ ?_
  intro a1 w1 hI
  have hμ:μ a1 w1=Classical.choose (zL9 hI):=by simp only[μ]; rw[dif_pos hI]
  obtain⟨⟨s1,φ1,σ1,hit,hS1,hle,hg1,hf1⟩,_⟩:=Classical.choose_spec (zL9 hI)
  rw[hμ]
  generalize Classical.choose (zL9 hI)=k at hit
  cases k with
  | zero=>simp[iter] at hit
  | succ k=>
   simp only[iter] at hit
   split at hit
   ·rename_i s2 h2
    have hm2:=hfm _ _ _ h2
    have hm3:Mon s2.n s'.n s2.H.get s'.H.get:=zJf (R:=fun s s'=>Mon s.n s'.n s.H.get s'.H.get) (fun s=>.refl _ _) (fun a b c h1 h2=>h1.trans h2) hfm k hit
    refine ih hok h2 (hS1.keep live own) (Nat.le_trans hm3.le hN) ?_
    intro a2 w2 φ2 σ2 hS2 hg2 hf2
    have hI2:I k a2 w2:=⟨s2,φ2,σ2,hit,hS2,Nat.le_trans hle hm2.le,hg1.trans hg2 hle hm2.le hf1.size,hf1.trans hf2⟩
    refine⟨⟨k,hI2⟩,?_⟩
    have hex:∃ k,I k a2 w2:=⟨k,hI2⟩
    have:μ a2 w2=Classical.choose (zL9 hex):=by simp only[μ]; rw[dif_pos hex]
    rw[this]
    have:=(Classical.choose_spec (zL9 hex)).2 k hI2
    omega
   ·rename_i hne
    have hm2:=hfm _ _ _ hit
    refine ih hok hit (hS1.keep live own) hN ?_
    intro a2 w2 φ2 σ2 hS2 hg2 hf2
    have:=hQ a2 w2 φ2 σ2 hS2 (hg1.trans hg2 hle hm2.le hf1.size) (hf1.trans hf2)
    cases e with
    | norm=>exact (hne s' hit).elim
    | exit id=>exact this
    | ret=>exact this
 | rangeFunc f ps as b _ _=>
  intro d hok s e s' hr φ σ a w Q hS hN hQ
  cases d <;> simp[okC] at hok
 | exit id=>
  intro d hok s e s' hr φ σ a w Q hS hN hQ
  cases d <;> simp[okC] at hok
  subst hok
  simp[DC.run] at hr; obtain⟨rfl,rfl⟩:=hr
  exact wp_exit (hQ a w φ σ hS (.refl _ _ _ _ _) (.refl _ _))
 | scope b ih=>
  intro d hok s e s' hr φ σ a w Q hS hN hQ
  have hok':okC P nt b d=true:=by cases d <;> simpa [okC] using hok
  refine wp_scope_straight (ih hok' hr hS hN ?_)
  intro a1 w1 φ1 σ1 hS1 hg1 hf1
  have:=hQ a1 w1 φ1 σ1 hS1 hg1 hf1
  cases e <;> exact this
 | goto l=>
  intro d hok s e s' hr φ σ a w Q hS hN hQ
  cases d <;> simp[okC] at hok
 | ret=>
  intro d hok s e s' hr φ σ a w Q hS hN hQ
  cases d <;> simp[okC] at hok
  simp[DC.run] at hr; obtain⟨rfl,rfl⟩:=hr
  exact wp_ret (hQ a w φ σ hS (.refl _ _ _ _ _) (.refl _ _))
 | refuse why=>
  intro d hok s e s' hr φ σ a w Q hS hN hQ
  cases d <;> simp[okC] at hok
end
end Go.PM
end
section
set_option linter.unusedVariables false
set_option linter.unusedSimpArgs false
namespace Go.PM
def zOt (P:Program):List ResultVar→List DRes→Bool
 | [],[]=>true
 | .tmp t::rs,.t k::ds=>t==k&&zOt P rs ds
 | .cell a t::rs,.cell slot n agg::ds=>a==slot&&szOk P t n&&zB1 P t agg&&zOt P rs ds
 | _,_=>false
def fnOk (P:Program) (f:FuncId) (d:DFn):Bool:=
 match P.funcs[f]? with
 | some fn => fn.name != "runtime.NumGoroutine" && (match fn.body with
  | some c=>okC P fn.ntmps c d.body&&zOt P fn.results.toList d.res
  | none=>false)
 | none=>false
section
variable {P:Program}{lo:Nat}{Tch:Nat→Prop}{φ:Phi}{σ:Sig}{G:Nat→Option (List IV)}{a:Act}{w:World}{nt N:Nat}{K:Callee}
theorem zCj:∀ (args:List DV) (i k:Nat),(zCi i args).get k=if i≤k then args[k - i]? else none
 | [],i,k=>by simp[zCi,PT.get]
 | v::vs,i,k=>by
  simp only[zCi,PT.get_put,zCj vs (i+1) k]
  by_cases h:k=i
  ·subst h; simp
  ·rw[if_neg h]
   by_cases h1:i≤k
   ·rw[if_pos h1,if_pos (by omega)]
    obtain⟨m,hm⟩:∃ m,k - i=m+1:=⟨k - i - 1,by omega⟩
    rw[hm,show k - (i+1)=m by omega]; rfl
   ·rw[if_neg h1,if_neg (by omega)]
def resV (tmps:Array Value):ResultVar→Sem Value
 | .tmp t=>Pure.pure (tmps.getD t undef)
 | .cell x t=>do loadVar t (← asAddr (tmps.getD x undef))
theorem zOz (fn:Func) (tmps:Array Value):results fn tmps=(do
  let vs ← fn.results.mapM (resV tmps)
  Pure.pure (if h:vs.size=1 then vs[0] else .tuple vs)):=rfl
theorem zOw {s:St}(hS:SR lo Tch φ σ G nt N s a w):∀ {rs:List ResultVar}{ds:List DRes},zOt P rs ds=true→∀ {vs:List DV},zOy s ds=some vs→
  ∃ rvs:List Value,(rs.mapM (resV a.tmps)).run P w=.ok rvs w∧rvs.length=vs.length∧∀ (i:Nat) c v,vs[i]?=some c→rvs[i]?=some v→RepD φ σ c v
 | [],[],_,vs,hv=>by simp[zOy] at hv; subst hv; exact⟨[],by simp,rfl,by simp⟩
 | r::rs,d::ds,hok,vs,hv=>by
  simp only[zOy] at hv
  split at hv
  ·rename_i v vs' h1 h2
   cases hv
   have one:zOt P rs ds=true∧∃ rv,(resV a.tmps r).run P w=.ok rv w∧RepD φ σ v rv:=by
    cases r with
    | tmp t=>
     cases d with
     | t k=>
      simp only[zOt,Bool.and_eq_true,beq_iff_eq] at hok
      obtain⟨rfl,h3⟩:=hok
      simp only[zOs] at h1
      obtain⟨rv,q1,q2⟩:=hS.fr.rel.tmp _ _ h1
      exact⟨h3,rv,by simp[resV,q1],q2⟩
     | cell=>simp[zOt] at hok
    | cell x t=>
     cases d with
     | t k=>simp[zOt] at hok
     | cell slot k agg=>
      simp only[zOt,Bool.and_eq_true,beq_iff_eq] at hok
      obtain⟨⟨⟨rfl,hs⟩,hagg⟩,h3⟩:=hok
      simp only[zOs] at h1
      split at h1
      ·rename_i sl id id' cells g1 g2
       split at h1
       ·rename_i hc
        obtain⟨rfl,rfl⟩:=hc
        split at h1
        ·rename_i r g3
         obtain⟨rp,q1,q2⟩:=hS.fr.rel.tmp _ _ g1
         have hld:zKP s.L.get s.H.get s.n k agg (.lref sl id 0)=some { v,n':=s.n,acc:=[.rL sl] }:=by
          simp[zKP,g2,g3,h1]
         obtain⟨rv,z1,z2,_⟩:=zKS (P:=P) hS.fr.rel q2 hld hs hagg
         refine⟨h3,rv,?_,z2⟩
         cases q2 with
         | lref hb=>
          rw[Instr.loadAt] at z1
          simp only[resV,Array.getD_eq_getD_getElem?,q1,Option.getD_some]
          simp only[Sem.run_bind,Instr.sureAddr,asAddr,Sem.run_pure,Result.andThen_ok] at z1 ⊢
          exact z1
        ·cases h1
       ·cases h1
      ·cases h1
   obtain⟨h3,rv,z1,z2⟩:=one
   obtain⟨rvs,y1,y2,y3⟩:=zOw hS h3 h2
   refine⟨rv::rvs,?_,by simp[y2],fun i c u hc hu=>?_⟩
   ·rw[List.mapM_cons]
    simp only[Sem.run_bind,z1,Result.andThen_ok,y1,Sem.run_pure]
   ·cases i with
    | zero=>simp at hc hu; subst hc hu; exact z2
    | succ i=>simp at hc hu; exact y3 i c u hc hu
  ·cases hv
 | [],_::_,hok,_,_=>by simp[zOt] at hok
 | .tmp _::_,[],hok,_,_=>by simp[zOt] at hok
 | .cell ..::_,[],hok,_,_=>by simp[zOt] at hok
theorem zHx {fn:DFn}{args:List DV}{H:PT HB}{n:Nat}{v:DV}{H':PT HB}{n':Nat}(h:fn.run G K args H n lo=some (v,H',n')) :
  ∃ e s vs,fn.body.run G K lo ⟨zCi 0 args,.lf,H,n⟩=some (e,s)∧(e=.norm∨e=.ret)∧zOy s fn.res=some vs∧H'=s.H∧n'=s.n∧(vs=[v]∨(vs.length≠1∧v=.tup vs)):=by
 unfold DFn.run at h
 have key:∀ (s:St),(match zOy s fn.res with
   | some [v]=>if v.out then some (v,s.H,s.n) else none
   | some vs=>if DV.out.outs vs then some (.tup vs,s.H,s.n) else none
   | none=>none)=some (v,H',n')→∃ vs,zOy s fn.res=some vs∧H'=s.H∧n'=s.n∧(vs=[v]∨(vs.length≠1∧v=.tup vs)):=fun s h=>by
  split at h
  ·rename_i v0 h1
   split at h
   ·cases h; exact⟨_,h1,rfl,rfl,.inl rfl⟩
   ·cases h
  ·rename_i vs hne h1
   split at h
   ·cases h
    refine⟨_,h1,rfl,rfl,.inr ⟨fun hl=>?_,rfl⟩⟩
    obtain⟨x,hx⟩:=List.length_eq_one_iff.1 hl
    subst hx
    exact hne x rfl
   ·cases h
  ·cases h
 split at h
 ·split at h
  ·rename_i s h1
   obtain⟨vs,q⟩:=key s h
   exact⟨.norm,s,vs,h1,.inl rfl,q⟩
  ·rename_i s h1
   obtain⟨vs,q⟩:=key s h
   exact⟨.ret,s,vs,h1,.inr rfl,q⟩
  ·cases h
 ·cases h
structure POk (P:Program) (G:Nat→Option (List IV)) (f:FuncId) (g:List DV→PT HB→Nat→Nat→Option (DV×PT HB×Nat)):Prop where
 snd:∀ args H n lo v H' n',g args H n lo=some (v,H',n')→lo≤n→(∀ id,H.get id≠none→id<n)→
  ∀ Tch φ σ w rargs,GRel σ G→(∀ b,w.heap.size≤b→Tch b)→Rel lo Tch φ σ noT noL H.get #[] w→RepDs φ σ args rargs→zAh φ n n'→
   Calls P f rargs w (zAF lo Tch φ σ noT noL H'.get #[] w n n' v)
 mon:∀ args H n lo v H' n',g args H n lo=some (v,H',n')→Mon n n' H.get H'.get
 fun_ : ∃ fn, P.funcs[f]? = some fn ∧ fn.body.isSome = true ∧ fn.name ≠ "runtime.NumGoroutine"
def Entry.ok (P:Program) (G:Nat→Option (List IV)) (f:FuncId):Entry→Prop
 | .fn d=>fnOk P f d=true
 | .prim g=>POk P G f g
theorem zHv {f : FuncId} {d : DFn} (h : fnOk P f d = true) : ∃ fn c, P.funcs[f]? = some fn ∧ fn.body = some c ∧ fn.name ≠ "runtime.NumGoroutine" ∧ okC P fn.ntmps c d.body = true ∧ zOt P fn.results.toList d.res = true := by
 unfold fnOk at h
 split at h
 ·rename_i fn hf
  simp only[Bool.and_eq_true,bne_iff_ne,ne_eq] at h
  obtain⟨h1,h2⟩:=h
  split at h2
  ·rename_i c hc
   simp only[Bool.and_eq_true] at h2
   exact⟨fn,c,hf,hc,h1,h2.1,h2.2⟩
  ·cases h2
 ·cases h
theorem zH0 (hK:KOk P G K) (hm:P.follows .mixedOrders=true){f:FuncId}{d:DFn}(hok:fnOk P f d=true):POk P G f (d.run G K):=by
 obtain⟨fn,c,hf,hb,hn,hc,hr⟩:=zHv hok
 refine⟨?_,?_,fn,hf,by rw[hb]; rfl,hn⟩
 ·intro args H n lo v H' n' hrun hlo hlv Tch φ σ w rargs hG hT hR ha hF
  obtain⟨e,s,vs,h1,h2,h3,rfl,rfl,h4⟩:=zHx hrun
  refine calls_of_wp hf hb ?_
  have hS:SR lo Tch φ σ G fn.ntmps s.n ⟨zCi 0 args,.lf,H,n⟩ { tmps:=rargs++Array.replicate (fn.ntmps - rargs.size) undef,defers:=[] } w:=by
   refine⟨⟨⟨hR.sig,fun i j bi bj li lj=>hR.inj i j bi bj ?_ ?_,hR.rng,hR.heap,fun k v hk=>by simp[PT.get] at hk,fun k k' v v' hk=>by simp[PT.get] at hk,fun k v hk=>?_⟩,rfl,by simp; omega,hG,hT⟩,hF,hlv,hlo⟩
   ·rcases li with h | ⟨k,v,h,_⟩
    ·exact .inl h
    ·simp[PT.get] at h
   ·rcases lj with h | ⟨k,v,h,_⟩
    ·exact .inl h
    ·simp[PT.get] at h
   ·simp only[zCj,Nat.zero_le,if_true,Nat.sub_zero] at hk
    obtain⟨rv,q1,q2⟩:=ha.get hk
    refine⟨rv,?_,q2⟩
    rw[Array.getElem?_append_left (Array.getElem?_eq_some_iff.1 q1).1]; exact q1
  have fin:∀ a' w' φ' σ',SR lo Tch φ' σ' G fn.ntmps s.n s a' w'→Grow φ φ' σ σ' n s.n w→Fr Tch w w'→
    a'.defers=[]∧∃ rv,(results fn a'.tmps).run P w'=.ok rv w'∧zAF lo Tch φ σ noT noL s.H.get #[] w n s.n v (.returned rv) w':=fun a' w' φ' σ' hS' hg hf'=>by
   obtain⟨rvs,y1,y2,y3⟩:=zOw (P:=P) hS' hr h3
   have hrel:Rel lo Tch φ' σ' noT noL s.H.get #[] w':=hS'.fr.rel.enter (fun id hb bi hl h5 h6=>by
    obtain⟨bi',g1,_,g3⟩:=hS'.fr.rel.heap id hb h5
    rw[h6] at g1; cases g1
    exact g3 hl)
   have hres:(results fn a'.tmps).run P w'=.ok (if h:rvs.toArray.size=1 then rvs.toArray[0] else .tuple rvs.toArray) w':=by
    rw[zOz,Array.mapM_eq_mapM_toList]
    simp only[Sem.run_bind,Sem.run_map,y1,Result.andThen_ok,Sem.run_pure]
   refine⟨hS'.fr.defs,_,hres,φ',σ',hrel,hg,hf',?_⟩
   rcases h4 with rfl | ⟨h4,rfl⟩
   ·obtain⟨x,hx⟩:=List.length_eq_one_iff.1 y2
    subst hx
    exact y3 0 v x rfl rfl
   ·have:¬rvs.toArray.size=1:=by simpa [y2] using h4
    rw[dif_neg this]
    exact .tup (by simp[y2]) (fun i c u h5 h6=>y3 i c u h5 (by simpa using h6))
  refine zEk hK hm hc h1 hS (Nat.le_refl _) ?_
  intro a' w' φ' σ' hS' hg hf'
  rcases h2 with rfl | rfl
  ·exact fin a' w' φ' σ' hS' hg hf'
  ·exact fin a' w' φ' σ' hS' hg hf'
 ·intro args H n lo v H' n' hrun
  obtain⟨e,s,vs,h1,h2,h3,rfl,rfl,h4⟩:=zHx hrun
  exact zPv hK.kmon h1
theorem zFR (hm:P.follows .mixedOrders=true){D:FuncId→Option Entry}(hD:∀ f e,D f=some e→e.ok P G f):∀ depth,KOk P G (zFP G D depth):=by
 intro depth
 induction depth with
 | zero=>exact⟨by intros; simp[zFP] at *,by intros; simp[zFP] at *,by intros; simp[zFP] at *⟩
 | succ k ih=>
  have one:∀ f e,D f=some e→POk P G f (match e with | .fn d=>d.run G (zFP G D k) | .prim g=>g):=fun f e he=>by
   have:=hD f e he
   cases e with
   | fn d=>exact zH0 ih hm this
   | prim g=>exact this
  refine⟨fun f args H n lo v H' n' h=>?_,fun f args H n lo v H' n' h=>?_,fun f args H n lo r h=>?_⟩
  ·simp only[zFP] at h
   cases he:D f with
   | none=>rw[he] at h; cases h
   | some e=>
    rw[he] at h
    cases e with
    | fn d=>exact (one f _ he).snd args H n lo v H' n' h
    | prim g=>exact (one f _ he).snd args H n lo v H' n' h
  ·simp only[zFP] at h
   cases he:D f with
   | none=>rw[he] at h; cases h
   | some e=>
    rw[he] at h
    cases e with
    | fn d=>exact (one f _ he).mon args H n lo v H' n' h
    | prim g=>exact (one f _ he).mon args H n lo v H' n' h
  ·simp only[zFP] at h
   cases he:D f with
   | none=>rw[he] at h; cases h
   | some e=>exact (one f e he).fun_
end
end Go.PM
end
