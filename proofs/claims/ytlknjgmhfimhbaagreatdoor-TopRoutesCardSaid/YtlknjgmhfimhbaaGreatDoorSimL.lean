/-
  One operation that is no call, in D and in the model.
-/
import Derived.Test.YtlknjgmhfimhbaaGreatDoorSimK
set_option linter.unusedVariables false
set_option linter.unusedSimpArgs false
namespace Go.PM
section
variable {P:Program}{lo:Nat}{Tch:Nat→Prop}{φ:Phi}{σ:Sig}{G:Nat→Option (List IV)}{T:Nat→Option DV}{L:Nat→Option LV}{h:Nat→Option HB}{a:Act}{w:World}{n:Nat}
theorem run_len {t:TypeId}{ts:Array TypeId}{ty:TypeId}{el:TypeId}{v:DV}{rv:Value}{m:Nat}(ht:ts[0]?=some t) (hu:P.underlying t=some (.slice el)) (hv:RepD φ σ v rv) (hm:lenOf v=some m) :
  (Builtin.len_ ts ty #[rv]).run P w=.ok (.int .i64 m) w:=by
 cases hv with
 | imm hi=>
  cases hi with
  | nils=>simp[lenOf] at hm; subst hm; simp[Builtin.len_,ht,run_underlying' hu,goInt]
  | lst cv hcap hfull hsz hc hr=>simp[lenOf] at hm; subst hm; simp[Builtin.len_,ht,run_underlying' hu,goInt]
  | _=>simp[lenOf] at hm
 | sl hb h1 h2 h3=>simp[lenOf] at hm; subst hm; simp[Builtin.len_,ht,run_underlying' hu,goInt]
 | _=>simp[lenOf] at hm
theorem asrt_op {t:TypeId}{x:Value}{xt:TypeId}{i:TypeInfo}{zv:Value}(hu:∃ d,P.underlying t=some d∧∀ ms,d≠.interface ms) (hi:P.info? t=some i) (hz:i.zero=some zv) :
  ((Instr.typeAssert .nilIface xt t true).run P w=.ok (.tuple #[zv,.bool false]) w)∧
  (∀ v ok,(Instr.typeAssert (.iface t v) xt t ok).run P w=.ok (if ok then .tuple #[v,.bool true] else v) w)∧
  (∀ t' v,t'≠t→(Instr.typeAssert (.iface t' v) xt t true).run P w=.ok (.tuple #[zv,.bool false]) w):=by
 obtain⟨d,hd,hne⟩:=hu
 refine⟨?_,fun v ok=>?_,fun t' v hne'=>?_⟩
 ·cases d with
  | interface ms=>exact absurd rfl (hne ms)
  | _=>simp[Instr.typeAssert,run_underlying' hd,run_zeroValue hi hz]
 ·cases d with
  | interface ms=>exact absurd rfl (hne ms)
  | _=>simp[Instr.typeAssert,run_underlying' hd]
 ·cases d with
  | interface ms=>exact absurd rfl (hne ms)
  | _=>simp[Instr.typeAssert,run_underlying' hd,hne',run_zeroValue hi hz]
theorem tup2 {x:IV}{rx:Value}{b:Bool}(hx:RepI σ x rx):RepD φ σ (.tup [.imm x,.imm (.bool b)]) (.tuple #[rx,.bool b]):=
 .tup (vs:=#[rx,.bool b]) rfl (fun i c v hc hv=>by
  match i,hc,hv with
  | 0,hc,hv=>simp at hc hv; subst hc hv; exact .imm hx
  | 1,hc,hv=>simp at hc hv; subst hc hv; exact .imm .bool
  | i+2,hc,hv=>simp at hc)
set_option maxHeartbeats 4000000 in
theorem sim_op (hR:Rel lo Tch φ σ T L h a.tmps w) (hG:GRel σ G) (hT:∀ b,w.heap.size≤b→Tch b){o:Oper}{d:DOp}(hok:okOp P o.dst o.op d=true){e:Eff}(hd:dstep G T L h n lo (o.dst.getD 0) d=some e)
  (hF:Fresh φ n e.n'):OpRuns P lo Tch φ σ T L h a w n o e:=by
 obtain⟨dst,op,type,pos,after,guard⟩:=o
 simp only at hok hd
 unfold okOp at hok
 split at hok
 ·-- move
  simp only[dstep] at hd
  obtain⟨v,h1,rfl⟩:=give_some hd
  exact of_pure hR (by simp[execOp]) (ev_rep hR hG hok h1)
 ·-- assign
  simp only[dstep] at hd
  obtain⟨v,h1,rfl⟩:=give_some hd
  exact of_pure hR (by simp[execOp]) (ev_rep hR hG hok h1)
 ·-- pick
  simp only[Bool.and_eq_true] at hok
  obtain⟨⟨hc,ha⟩,hb⟩:=hok
  simp only[dstep] at hd
  split at hd
  ·rename_i h0
   obtain⟨v,h1,rfl⟩:=give_some hd
   have:=repI_bool (repD_imm (ev_rep hR hG hc h0))
   exact of_pure hR (rv:=a.eval _) (by simp[execOp,this,asBool]) (ev_rep hR hG ha h1)
  ·rename_i h0
   obtain⟨v,h1,rfl⟩:=give_some hd
   have:=repI_bool (repD_imm (ev_rep hR hG hc h0))
   exact of_pure hR (rv:=a.eval _) (by simp[execOp,this,asBool]) (ev_rep hR hG hb h1)
  ·cases hd
 ·-- nilCheck
  rename_i x y
  simp only[dstep] at hd
  have nz:∀ {v:DV},ev G T y=some v→(∃ ad,a.eval x=.pointer (some ad))→give n (some v)=some e→OpRuns P lo Tch φ σ T L h a w n ⟨dst,.nilCheck x,type,pos,after,guard⟩ e:=fun {v} hv ⟨ad,had⟩ he=>by
   obtain⟨v',h1,rfl⟩:=give_some he
   cases h1
   exact of_pure hR (rv:=a.eval x) (by simp[execOp,had]) (ev_rep hR hG hok hv)
  split at hd
  ·rename_i h0
   refine nz h0 ?_ hd
   have:=ev_rep hR hG hok h0
   generalize a.eval x=u at this
   cases this; exact⟨_,rfl⟩
  ·rename_i h0
   refine nz h0 ?_ hd
   have:=ev_rep hR hG hok h0
   generalize a.eval x=u at this
   cases this; exact⟨_,rfl⟩
  ·rename_i h0
   refine nz h0 ?_ hd
   have:=repD_imm (ev_rep hR hG hok h0)
   generalize a.eval x=u at this
   cases this; exact⟨_,rfl⟩
  ·cases hd
 ·-- panic
  simp[dstep,ev] at hd
 ·-- binOp
  simp only[Bool.and_eq_true,decide_eq_true_eq] at hok
  obtain⟨⟨⟨rfl,het⟩,hx⟩,hy⟩:=hok
  simp only[dstep] at hd
  split at hd
  ·rename_i vx vy h1 h2
   obtain⟨r,h3,rfl⟩:=giveI_some hd
   obtain⟨rv,h4,h5⟩:=bin_op hR hG hx hy het h1 h2 h3
   exact of_run hR rfl h4 (.imm h5)
  ·cases hd
 ·-- unOp
  simp only[Bool.and_eq_true,decide_eq_true_eq] at hok
  obtain⟨rfl,hx⟩:=hok
  simp only[dstep] at hd
  split at hd
  ·rename_i v h1
   obtain⟨r,h3,rfl⟩:=giveI_some hd
   obtain⟨rv,h4,h5⟩:=un_op (P:=P) (w:=w) (ev_rep hR hG hx h1) h3
   exact of_pure hR (rv:=rv) (by simp[execOp,h4]) (.imm h5)
  ·cases hd
 ·-- int to int
  simp only[Bool.and_eq_true] at hok
  obtain⟨hx,hk⟩:=hok
  simp only[dstep] at hd
  split at hd
  ·rename_i k0 m h1
   obtain⟨r,h3,rfl⟩:=giveI_some hd
   cases h3
   have:=repI_int (repD_imm (ev_rep hR hG hx h1))
   split at hk
   ·rename_i ks kd hs hdd
    simp at hk; subst hk
    exact of_pure hR (rv:=.int kd (kd.wrap m)) (by simp[execOp,this,convert,run_underlying' hs,run_underlying' hdd,Conv.intToInt]) (.imm .int)
   ·cases hk
  ·cases hd
 ·-- bytes to text
  simp only[Bool.and_eq_true] at hok
  obtain⟨hx,hk⟩:=hok
  simp only[dstep] at hd
  split at hd
  ·rename_i v h1
   split at hd
   ·rename_i src sz rows h2
    split at hd
    ·rename_i h3
     split at hd
     ·rename_i es h4
      split at hd
      ·rename_i bs h5
       cases hd
       refine of_does' (s:=convert _ _ (a.eval _)) rfl (cvBS_op hR ?_ (ev_rep hR hG hx h1) h2 h3 h4 h5)
       split at hk
       ·rename_i el hs hdd
        simp only[hs,hdd]; exact hk
       ·cases hk
      ·cases hd
     ·cases hd
    ·cases hd
   ·cases hd
  ·cases hd
 ·-- text to bytes
  simp only[Bool.and_eq_true] at hok
  obtain⟨hx,hk⟩:=hok
  simp only[dstep] at hd
  split at hd
  ·rename_i s h1
   obtain⟨r,h3,rfl⟩:=giveI_some hd
   cases h3
   split at hk
   ·rename_i el hs hdd
    split at hk
    ·rename_i hel
     exact of_does' (s:=convert _ _ (a.eval _)) rfl (cvSB_op hR hs hdd hel (repD_imm (ev_rep hR hG hx h1)))
    ·cases hk
   ·cases hk
  ·cases hd
 ·-- bytes as bytes
  rename_i s d x y
  simp only[Bool.and_eq_true,beq_iff_eq] at hok
  obtain⟨⟨rfl,hx⟩,hk⟩:=hok
  simp only[dstep] at hd
  split at hd
  ·rename_i id row len cap h1
   split at hd
   ·rename_i hlo
    split at hd
    ·rename_i hb hid
     cases hd
     split at hk
     ·rename_i el hu
      split at hk
      ·rename_i hel
       exact of_does' (s:=convert s s (a.eval x)) rfl (cvBB_op hR hu hel (ev_rep hR hG hx h1) hlo hid)
      ·cases hk
     ·cases hk
    ·cases hd
   ·cases hd
  ·cases hd
 ·-- an interface
  rename_i t x t' y
  simp only[Bool.and_eq_true,beq_iff_eq] at hok
  obtain⟨⟨rfl,hx⟩,hk⟩:=hok
  simp only[dstep] at hd
  split at hd
  ·rename_i v h1
   obtain⟨r,h3,rfl⟩:=giveI_some hd
   cases h3
   refine of_run hR (rv:=.iface t (a.eval x)) rfl ?_ (.imm (.iface (repD_imm (ev_rep hR hG hx h1))))
   split at hk
   ·cases hk
   ·rename_i dd hne hu
    cases dd with
    | interface ms=>exact absurd rfl (hne ms)
    | _=>simp[Instr.makeInterface,run_underlying' hu]
   ·cases hk
  ·cases hd
 ·-- an assertion
  rename_i x xt t ok t' z ok' y
  simp only[Bool.and_eq_true,beq_iff_eq] at hok
  obtain⟨⟨⟨⟨rfl,rfl⟩,hx⟩,hz⟩,hk⟩:=hok
  have hz':∃ i zv,P.info? t=some i∧i.zero=some zv∧sameIV zv z=true:=by
   unfold zero1Ok at hz
   split at hz
   ·rename_i i hi
    split at hz
    ·rename_i zv hzv; exact⟨i,zv,hi,hzv,hz⟩
    ·cases hz
   ·cases hz
  obtain⟨i,zv,hi,hzv,hsame⟩:=hz'
  have hu:∃ d,P.underlying t=some d∧∀ ms,d≠.interface ms:=by
   split at hk
   ·cases hk
   ·rename_i dd hne hu; exact⟨dd,hu,hne⟩
   ·cases hk
  have runs:=fun xt=>asrt_op (P:=P) (w:=w) (x:=.nilIface) (xt:=xt) hu hi hzv
  simp only[dstep] at hd
  split at hd
  ·rename_i h1
   split at hd
   ·rename_i hok'
    subst hok'
    obtain⟨v,h3,rfl⟩:=give_some hd
    cases h3
    have hn:a.eval x=.nilIface:=by
     have:=repD_imm (ev_rep hR hG hx h1)
     generalize a.eval x=u at this
     cases this; rfl
    exact of_run hR (s:=Instr.typeAssert (a.eval x) xt t true) rfl (by rw[hn]; exact (runs xt).1) (tup2 (sameIV_rep hsame))
   ·cases hd
  ·rename_i t2 v h1
   have hv:∃ rv,a.eval x=.iface t2 rv∧RepI σ v rv:=by
    have:=repD_imm (ev_rep hR hG hx h1)
    generalize a.eval x=u at this
    cases this with
    | iface hh=>exact⟨_,rfl,hh⟩
   obtain⟨rv,h2,h3⟩:=hv
   split at hd
   ·rename_i ht
    subst ht
    obtain⟨v',h4,rfl⟩:=give_some hd
    cases h4
    refine of_run hR (s:=Instr.typeAssert (a.eval x) xt t2 ok) rfl (by rw[h2]; exact (runs xt).2.1 rv ok) ?_
    cases ok with
    | true=>exact tup2 h3
    | false=>exact .imm h3
   ·rename_i ht
    split at hd
    ·rename_i hok'
     subst hok'
     obtain⟨v',h4,rfl⟩:=give_some hd
     cases h4
     exact of_run hR (s:=Instr.typeAssert (a.eval x) xt t true) rfl (by rw[h2]; exact (runs xt).2.2 t2 rv ht) (tup2 (sameIV_rep hsame))
    ·cases hd
  ·cases hd
 ·-- a function value
  rename_i f first caps g ys
  simp only[Bool.and_eq_true,beq_iff_eq] at hok
  obtain⟨⟨rfl,hfirst⟩,hcaps⟩:=hok
  simp only[dstep] at hd
  split at hd
  ·rename_i vs h1
   split at hd
   ·obtain⟨v',h4,rfl⟩:=give_some hd
    cases h4
    have hr:=evs_rep hR hG hcaps h1
    have hf0:first=#[]:=by simpa using hfirst
    subst hf0
    have hm:(caps.toList.map a.eval).toArray=caps.map a.eval:=by apply Array.ext'; simp
    rw[hm] at hr
    exact of_run hR (s:=Instr.makeFunc (.func f) _ _) rfl (by simp[Instr.makeFunc]) (.fnc hr.1 hr.2)
   ·cases hd
  ·cases hd
 ·-- a field's address
  simp only[Bool.and_eq_true] at hok
  obtain⟨hf,hx⟩:=hok
  simp only[dstep] at hd
  cases h1:ev G T _ with
  | none=>rw[h1] at hd; cases hd
  | some p=>
   rw[h1] at hd
   refine of_does' (s:=Instr.fieldAt _ (a.eval _) _) rfl (fld_op (e:=e) hR (ev_rep hR hG hx h1) hf ?_)
   cases p with
   | imm v=>cases v <;> exact hd
   | _=>exact hd
 ·-- an element's address
  rename_i t x i s y j
  simp only[Bool.and_eq_true] at hok
  obtain⟨⟨hs,hx⟩,hi⟩:=hok
  simp only[dstep] at hd
  split at hd
  ·rename_i p q h1 h2
   split at hd
   ·rename_i m h3
    refine of_does' (s:=Instr.indexAt t (a.eval x) (a.eval i)) rfl (idx_op (e:=e) hR (ev_rep hR hG hx h1) (ev_rep hR hG hi h2) hs h3 ?_)
    cases p with
    | imm v=>cases v <;> exact hd
    | _=>exact hd
   ·cases hd
  ·cases hd
 ·-- an element's address in an array
  rename_i t x i s m y j
  simp only[Bool.and_eq_true] at hok
  obtain⟨⟨hs,hx⟩,hi⟩:=hok
  simp only[dstep] at hd
  split at hd
  ·rename_i p q h1 h2
   split at hd
   ·rename_i k h3
    refine of_does' (s:=Instr.indexAt t (a.eval x) (a.eval i)) rfl (idxA_op (e:=e) hR (ev_rep hR hG hx h1) (ev_rep hR hG hi h2) hs h3 ?_)
    cases p with
    | imm v=>cases v <;> exact hd
    | _=>exact hd
   ·cases hd
  ·cases hd
 ·-- a load
  rename_i t x m agg y
  simp only[Bool.and_eq_true] at hok
  obtain⟨⟨hs,hagg⟩,hx⟩:=hok
  simp only[dstep] at hd
  split at hd
  ·rename_i p h1
   obtain⟨rv,q1,q2,q3,q4,q5⟩:=load_op (P:=P) hR (ev_rep hR hG hx h1) hd hs hagg
   obtain⟨v,lw,hw,n',acc⟩:=e
   simp only at q3 q4 q5
   subst q3 q4 q5
   exact of_run hR (s:=Instr.loadAt t (a.eval x)) rfl q1 q2
  ·cases hd
 ·-- a store
  rename_i t x v m y u
  simp only[Bool.and_eq_true] at hok
  obtain⟨⟨hs,hx⟩,hv⟩:=hok
  simp only[dstep] at hd
  split at hd
  ·rename_i p q h1 h2
   obtain⟨w',q1,q2⟩:=store_op (P:=P) hR (ev_rep hR hG hx h1) (ev_rep hR hG hv h2) hd hs
   exact⟨.skip,undef,w',φ,σ,by simp[execOp,q1],.inr ⟨rfl,rfl⟩,q2⟩
  ·cases hd
 ·-- a part
  rename_i t x f off m agg y
  simp only[Bool.and_eq_true] at hok
  obtain⟨hf,hx⟩:=hok
  simp only[dstep] at hd
  split at hd
  ·rename_i cs h1
   split at hd
   ·rename_i r h2
    obtain⟨v,h3,rfl⟩:=give_some hd
    unfold fieldNOk at hf
    split at hf
    ·rename_i fs hu
     split at hf
     ·rename_i fl hfl
      simp only[Bool.and_eq_true,beq_iff_eq] at hf
      obtain⟨⟨rfl,hs⟩,hagg⟩:=hf
      have hr:=ev_rep hR hG hx h1
      generalize hev:a.eval x=u at hr
      cases hr with
      | agg hl hr=>
       rename_i vs
       obtain⟨rv,q1,q2⟩:=part_run (P:=P) (w:=w) ⟨hl,hr⟩ hs hagg h2 h3
       exact of_run hR (s:=Instr.field t (a.eval x) f) rfl (by rw[hev]; simp[Instr.field,run_underlying' hu,hfl,asAgg,q1]) q2
     ·cases hf
    ·cases hf
   ·cases hd
  ·cases hd
 ·-- an element of an array
  rename_i t x i s m agg y j
  simp only[Bool.and_eq_true] at hok
  obtain⟨⟨hs,hx⟩,hi⟩:=hok
  simp only[dstep] at hd
  split at hd
  ·rename_i cs q h1 h2
   split at hd
   ·rename_i k h3
    split at hd
    ·rename_i hlt
     split at hd
     ·rename_i r h4
      obtain⟨v,h5,rfl⟩:=give_some hd
      split at hs
      ·rename_i m' el hu
       simp only[Bool.and_eq_true,beq_iff_eq] at hs
       obtain⟨⟨rfl,hsz⟩,hagg⟩:=hs
       have hr:=ev_rep hR hG hx h1
       obtain⟨ik,hik⟩:=asNat_spec h3 (ev_rep hR hG hi h2)
       generalize hev:a.eval x=u at hr
       cases hr with
       | agg hl hr=>
        rename_i vs
        obtain⟨rv,q1,q2⟩:=part_run (P:=P) (w:=w) ⟨hl,hr⟩ hsz hagg h4 h5
        exact of_run hR (s:=Instr.index t (a.eval x) (a.eval i)) rfl (by rw[hev,hik]; simp[Instr.index,run_asIntOf,run_underlying' hu,hlt,run_sizeOf hsz,q1]) q2
      ·cases hs
     ·cases hd
    ·cases hd
   ·cases hd
  ·cases hd
 ·-- a byte of a text
  rename_i t x i y j
  simp only[Bool.and_eq_true] at hok
  obtain⟨⟨hs,hx⟩,hi⟩:=hok
  simp only[dstep] at hd
  split at hd
  ·rename_i s q h1 h2
   split at hd
   ·rename_i k h3
    split at hd
    ·rename_i c h4
     obtain⟨v,h5,rfl⟩:=giveI_some hd
     cases h5
     obtain⟨b,e1,rfl⟩:=repI_str (repD_imm (ev_rep hR hG hx h1))
     obtain⟨ik,hik⟩:=asNat_spec h3 (ev_rep hR hG hi h2)
     split at hs
     ·rename_i hu
      have hb:b[k]?=some c:=by
       have:b.data[k]?=some c:=by simpa using h4
       obtain⟨q1,q2⟩:=Array.getElem?_eq_some_iff.1 this
       have hk:k<b.size:=q1
       rw[getElem?_pos b k hk]
       congr 1
      exact of_run hR (s:=Instr.index t (a.eval x) (a.eval i)) (rv:=.int .u8 c.toNat) rfl (by rw[e1,hik]; simp[Instr.index,run_asIntOf,run_underlying' hu,hb]) (.imm .int)
     ·cases hs
    ·cases hd
   ·cases hd
  ·cases hd
 ·-- a variable of the frame
  rename_i t v u
  simp only[Bool.and_eq_true] at hok
  obtain⟨hdst,hx⟩:=hok
  simp only[dstep] at hd
  split at hd
  ·rename_i p h1
   split at hd
   ·rename_i hsc
    cases hd
    exact of_does' (s:=Instr.box t (a.eval v)) rfl (boxL_op hR hT (hF n (Nat.le_refl _) (Nat.lt_succ_self _)) (ev_rep hR hG hx h1) hsc _)
   ·cases hd
  ·cases hd
 ·-- a variable of the heap
  rename_i t v u
  simp only[dstep] at hd
  split at hd
  ·rename_i p h1
   split at hd
   ·rename_i hsc
    cases hd
    exact of_does' (s:=Instr.box t (a.eval v)) rfl (boxH_op hR hT (hF n (Nat.le_refl _) (Nat.lt_succ_self _)) (ev_rep hR hG hok h1) hsc.1 hsc.2.2)
   ·cases hd
  ·cases hd
 ·-- a new variable of the frame
  rename_i t z
  simp only[Bool.and_eq_true] at hok
  obtain⟨hdst,hz⟩:=hok
  simp only[dstep] at hd
  cases hd
  exact of_does' (s:=Instr.alloc t true (.tuple #[])) rfl (alL_op hR hT (hF n (Nat.le_refl _) (Nat.lt_succ_self _)) hz (zeroOk_noUndef hz) _)
 ·-- a new variable of the heap
  rename_i t z
  simp only[dstep] at hd
  split at hd
  ·rename_i hp
   cases hd
   exact of_does' (s:=Instr.alloc t true (.tuple #[])) rfl (alH_op hR hT (hF n (Nat.le_refl _) (Nat.lt_succ_self _)) hok (zeroOk_noUndef hok) hp)
  ·cases hd
 ·-- a struct
  rename_i t ps z qs
  simp only[Bool.and_eq_true] at hok
  obtain⟨hz,hps⟩:=hok
  simp only[dstep] at hd
  split at hd
  ·rename_i vs h1
   exact of_does' (s:=Instr.build t _) rfl (build_op hR hG hz hps h1 hd)
  ·cases hd
 ·-- a slice of parts
  rename_i t m ps mt s z m' qs
  simp only[Bool.and_eq_true,beq_iff_eq] at hok
  obtain⟨⟨rfl,hs⟩,hps⟩:=hok
  simp only[dstep] at hd
  split at hd
  ·rename_i vs h1
   exact of_does' (s:=Instr.buildSlice t m _) rfl (bsl_op (mt:=mt) hR hG hT hs hps h1 hd hF)
  ·cases hd
 ·-- a slice of a length
  rename_i t l c mt s b z m
  simp only[Bool.and_eq_true] at hok
  obtain⟨⟨hs,hl⟩,hc⟩:=hok
  simp only[dstep] at hd
  split at hd
  ·rename_i q h1
   split at hd
   ·rename_i k h2
    exact of_does' (s:=Instr.makeSlice t (a.eval l) (a.eval c)) rfl (mks_op (mt:=mt) hR hT (by
     split at hs
     ·simp only[Bool.and_eq_true] at hs; exact zeroOk_noUndef hs.2
     ·cases hs) hs (ev_rep hR hG hl h1) (ev_rep hR hG hc h1) h2 hd hF)
   ·cases hd
  ·cases hd
 ·-- a slice of a slice
  rename_i t x lo' hi mx s y l h' m
  simp only[Bool.and_eq_true] at hok
  obtain⟨⟨⟨⟨hs,hx⟩,hl⟩,hh⟩,hm⟩:=hok
  simp only[dstep] at hd
  split at hd
  ·rename_i p vl vh vm h1 h2 h3 h4
   exact of_does' (s:=Instr.sliceAt t (a.eval x) (lo'.map a.eval) (hi.map a.eval) (mx.map a.eval)) rfl
    (slc_op hR hs (ev_rep hR hG hx h1) (evO_rep hR hG hl h2) (evO_rep hR hG hh h3) (evO_rep hR hG hm h4) hd)
  ·cases hd
 ·-- a slice of a text
  rename_i t x lo' hi y l h'
  simp only[Bool.and_eq_true] at hok
  obtain⟨⟨⟨hs,hx⟩,hl⟩,hh⟩:=hok
  simp only[dstep] at hd
  split at hd
  ·rename_i s vl vh h1 h2 h3
   exact of_does' (s:=Instr.sliceAt t (a.eval x) (lo'.map a.eval) (hi.map a.eval) none) rfl
    (slS_op hR hs (repD_imm (ev_rep hR hG hx h1)) (evO_rep hR hG hl h2) (evO_rep hR hG hh h3) hd)
  ·cases hd
 ·-- the length of a slice
  rename_i x ts y
  simp only[Bool.and_eq_true] at hok
  obtain⟨hx,hs⟩:=hok
  simp only[dstep] at hd
  split at hd
  ·rename_i v h1
   obtain⟨r,h3,rfl⟩:=giveI_some hd
   simp only[Option.map_eq_some_iff] at h3
   obtain⟨m0,h40,rfl⟩:=h3
   obtain⟨m,h4,rfl⟩:∃ m:Nat,lenOf v=some m∧(m:Int)=m0:=by
    cases hl:lenOf v with
    | none=>rw[hl] at h40; cases h40
    | some m=>rw[hl] at h40; exact⟨m,rfl,by simpa using h40⟩
   split at hs
   ·rename_i t ht
    split at hs
    ·rename_i el hu
     exact of_run hR (s:=Builtin.len_ ts type #[a.eval x]) (by simp[execOp,resolve,invoke,builtin]) (run_len ht hu (ev_rep hR hG hx h1) h4) (.imm .int)
    ·cases hs
   ·cases hs
  ·cases hd
 ·-- the length of a text
  rename_i x ts y
  simp only[Bool.and_eq_true] at hok
  obtain⟨hx,hs⟩:=hok
  simp only[dstep] at hd
  split at hd
  ·rename_i s h1
   obtain⟨r,h3,rfl⟩:=giveI_some hd
   cases h3
   obtain⟨b,e1,rfl⟩:=repI_str (repD_imm (ev_rep hR hG hx h1))
   split at hs
   ·rename_i t ht
    split at hs
    ·rename_i hu
     refine of_run hR (s:=Builtin.len_ ts type #[a.eval x]) (rv:=.int .i64 b.size) (by simp[execOp,resolve,invoke,builtin]) (by simp[Builtin.len_,ht,run_underlying' hu,goInt,e1]) ?_
     have:b.data.toList.length=b.size:=by simp
     rw[this]; exact .imm .int
    ·cases hs
   ·cases hs
  ·cases hd
 ·-- the length of an array
  rename_i x ts m
  simp only[dstep] at hd
  obtain⟨r,h3,rfl⟩:=giveI_some hd
  cases h3
  split at hok
  ·rename_i t ht
   split at hok
   ·rename_i m' el hu
    simp at hok; subst hok
    exact of_run hR (s:=Builtin.len_ ts type #[a.eval x]) (by simp[execOp,resolve,invoke,builtin]) (by simp[Builtin.len_,ht,run_underlying' hu,goInt]) (.imm .int)
   ·rename_i arr hu
    split at hok
    ·rename_i m' el hu'
     simp at hok; subst hok
     exact of_run hR (s:=Builtin.len_ ts type #[a.eval x]) (by simp[execOp,resolve,invoke,builtin]) (by simp[Builtin.len_,ht,run_underlying' hu,run_underlying' hu',goInt]) (.imm .int)
    ·cases hok
   ·cases hok
  ·cases hok
 ·-- the room of a slice
  rename_i x ts y
  simp only[Bool.and_eq_true] at hok
  obtain⟨hx,hs⟩:=hok
  split at hs
  ·rename_i t ht
   split at hs
   ·rename_i el hu
    simp only[dstep] at hd
    split at hd
    ·rename_i h1
     obtain⟨r,h3,rfl⟩:=giveI_some hd
     cases h3
     have e1:a.eval x=.slice none 0 0:=by
      have:=repD_imm (ev_rep hR hG hx h1)
      generalize a.eval x=u at this
      cases this; rfl
     exact of_run hR (s:=Builtin.cap_ ts type #[a.eval x]) (rv:=.int .i64 0) (by simp[execOp,resolve,invoke,builtin]) (by simp[Builtin.cap_,ht,run_underlying' hu,goInt,e1]) (.imm .int)
    ·rename_i sz es h1
     obtain⟨r,h3,rfl⟩:=giveI_some hd
     cases h3
     have e1:∃ ad,a.eval x=.slice (some ad) es.length es.length:=by
      have:=repD_imm (ev_rep hR hG hx h1)
      generalize a.eval x=u at this
      cases this with
      | lst cv hcap hfull hsz hc hr=>rw[hfull rfl]; exact⟨_,rfl⟩
     obtain⟨ad,e1⟩:=e1
     exact of_run hR (s:=Builtin.cap_ ts type #[a.eval x]) (rv:=.int .i64 es.length) (by simp[execOp,resolve,invoke,builtin]) (by simp[Builtin.cap_,ht,run_underlying' hu,goInt,e1]) (.imm .int)
    ·cases hd
   ·cases hs
  ·cases hs
 ·-- the lesser
  rename_i x y ts x' y'
  simp only[Bool.and_eq_true] at hok
  obtain⟨hx,hy⟩:=hok
  simp only[dstep] at hd
  split at hd
  ·rename_i k m k' m' h1 h2
   split at hd
   ·rename_i hk
    subst hk
    obtain⟨r,h3,rfl⟩:=giveI_some hd
    cases h3
    have e1:=repI_int (repD_imm (ev_rep hR hG hx h1))
    have e2:=repI_int (repD_imm (ev_rep hR hG hy h2))
    exact of_run hR (s:=Builtin.min_ ts type #[a.eval x,a.eval y]) (by simp[execOp,resolve,invoke,builtin]) (by simp[Builtin.min_,Builtin.min2,e1,e2]) (.imm .int)
   ·cases hd
  ·cases hd
 ·-- the greater
  rename_i x y ts x' y'
  simp only[Bool.and_eq_true] at hok
  obtain⟨hx,hy⟩:=hok
  simp only[dstep] at hd
  split at hd
  ·rename_i k m k' m' h1 h2
   split at hd
   ·rename_i hk
    subst hk
    obtain⟨r,h3,rfl⟩:=giveI_some hd
    cases h3
    have e1:=repI_int (repD_imm (ev_rep hR hG hx h1))
    have e2:=repI_int (repD_imm (ev_rep hR hG hy h2))
    exact of_run hR (s:=Builtin.max_ ts type #[a.eval x,a.eval y]) (by simp[execOp,resolve,invoke,builtin]) (by simp[Builtin.max_,Builtin.max2,e1,e2]) (.imm .int)
   ·cases hd
  ·cases hd
 ·-- append
  rename_i x y ts s b x' y'
  simp only[Bool.and_eq_true] at hok
  obtain⟨⟨hx,hy⟩,hs⟩:=hok
  simp only[dstep] at hd
  split at hd
  ·rename_i p q h1 h2
   have hz:∀ {el:TypeId},szOk P el s=true→btOk P el b=true→zSzOk P el s=true→∃ i z,P.info? el=some i∧i.size=s∧i.bytes=b∧i.zero=some z∧z.cells.size=s:=fun {el} q1 q2 q3=>by
    unfold szOk at q1; unfold btOk at q2; unfold zSzOk at q3
    split at q1
    ·rename_i i hi
     rw[hi] at q2 q3
     simp only at q2 q3
     split at q3
     ·rename_i z hz
      simp only[beq_iff_eq] at q1 q2 q3
      exact⟨i,z,hi,q1,q2,hz,q3⟩
     ·cases q3
    ·cases q1
   split at hs
   ·rename_i t u ht hu
    have fin:∀ {el:TypeId},P.underlying t=some (.slice el)→szOk P el s=true→btOk P el b=true→zSzOk P el s=true→((∃ e',P.underlying u=some (.slice e'))∨P.underlying u=some .string)→
      OpRuns P lo Tch φ σ T L h a w n ⟨dst,.call { callee:=.builtin .append,args:=⟨[x,y]⟩,argTypes:=ts },type,pos,after,guard⟩ e:=fun {el} g1 g2 g3 g4 g5=>by
     obtain⟨i,z,q1,q2,q3,q4,q5⟩:=hz g2 g3 g4
     exact of_does' (s:=Builtin.append_ ts type #[a.eval x,a.eval y]) (by simp[execOp,resolve,invoke,builtin])
      (app_op hR hT ⟨⟨t,ht,g1⟩,⟨u,hu,g5⟩,⟨i,q1,q2,q3,q4⟩⟩ q5 (ev_rep hR hG hx h1) (ev_rep hR hG hy h2) hd hF)
    split at hs
    ·rename_i el el' g1 g2
     simp only[Bool.and_eq_true] at hs
     exact fin g1 hs.1.1.1 hs.1.1.2 hs.2 (.inl ⟨_,g2⟩)
    ·rename_i el g1 g2
     simp only[Bool.and_eq_true] at hs
     exact fin g1 hs.1.1.1 hs.1.1.2 hs.2 (.inr g2)
    ·cases hs
   ·cases hs
  ·cases hd
 ·-- append of so many nothings
  rename_i x y ts s b z x' y'
  simp only[Bool.and_eq_true] at hok
  obtain⟨⟨hx,hy⟩,hs⟩:=hok
  simp only[dstep] at hd
  split at hd
  ·rename_i q h1 h2
   split at hd
   ·rename_i k h3
    have e1:a.eval x=.slice none 0 0:=by
     have:=repD_imm (ev_rep hR hG hx h1)
     generalize a.eval x=u at this
     cases this; rfl
    split at hs
    ·rename_i t u ht hu
     split at hs
     ·rename_i el ik g1 g2
      simp only[Bool.and_eq_true] at hs
      have:=appZ_op (ty:=type) hR hT ht hu g1 g2 hs.1.1 hs.1.2 hs.2 (ev_rep hR hG hy h2) h3 hd hF
      rw[← e1] at this
      exact of_does' (s:=Builtin.append_ ts type #[a.eval x,a.eval y]) (by simp[execOp,resolve,invoke,builtin]) this
     ·cases hs
    ·cases hs
   ·cases hd
  ·cases hd
 ·-- a walk over a text
  rename_i t x y
  simp only[Bool.and_eq_true] at hok
  obtain⟨⟨hdst,hs⟩,hx⟩:=hok
  simp only[dstep] at hd
  split at hd
  ·rename_i s h1
   cases hd
   split at hs
   ·rename_i hu
    exact of_does' (s:=Instr.range t (a.eval x)) rfl (rng_op hR hT (hF n (Nat.le_refl _) (Nat.lt_succ_self _)) hu (repD_imm (ev_rep hR hG hx h1)) _)
   ·cases hs
  ·cases hd
 ·-- the walk's next
  rename_i it slot
  simp only[beq_iff_eq] at hok
  subst hok
  simp only[dstep] at hd
  split at hd
  ·rename_i s id id' str pos h1 h2
   split at hd
   ·rename_i hc
    obtain⟨rfl,rfl⟩:=hc
    have hv:RepD φ σ (.lref s id 0) (a.eval (.tmp s)):=ev_rep (y:=.t s) hR hG (by simp[okOpd]) h1
    exact of_does' (s:=Instr.next (a.eval (.tmp s)) true type) rfl (nxt_op hR h2 hv hd)
   ·cases hd
  ·cases hd
 ·-- a part of many
  rename_i x i j y
  simp only[Bool.and_eq_true,beq_iff_eq] at hok
  obtain⟨rfl,hx⟩:=hok
  simp only[dstep] at hd
  split at hd
  ·rename_i vs h1
   obtain⟨v,h3,rfl⟩:=give_some hd
   have hv:=ev_rep hR hG hx h1
   generalize hu:a.eval x=u at hv
   cases hv with
   | tup hl hr=>
    rename_i rs
    obtain⟨rv,q1,q2⟩:=RepDs.get ⟨hl,hr⟩ h3
    exact of_run hR (s:=Instr.extract (a.eval x) i) rfl (by rw[hu]; simp[Instr.extract,q1]) q2
  ·cases hd
 ·cases hd
 ·cases hd
 ·cases hok
end
end Go.PM
