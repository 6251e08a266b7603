/-
  One operation that is no call, in D and in the model.
-/
import Derived.Test.YtlknjgmhfimhbaaGreatDoorSimK
set_option linter.unusedVariables false
set_option linter.unusedSimpArgs false
namespace Go.PM
section
variable {P:Program}{lo:Nat}{Tch:Nat→Prop}{φ:Phi}{σ:Sig}{G:Nat→Option (List IV)}{T:Nat→Option DV}{L:Nat→Option LV}{h:Nat→Option HB}{a:Act}{w:World}{n:Nat}
theorem zPq {t:TypeId}{ts:Array TypeId}{ty:TypeId}{el:TypeId}{v:DV}{rv:Value}{m:Nat}(ht:ts[0]?=some t) (hu:P.underlying t=some (.slice el)) (hv:RepD φ σ v rv) (hm:lenOf v=some m) :
  (Builtin.len_ ts ty #[rv]).run P w=.ok (.int .i64 m) w:=by
 cases hv with
 | imm hi=>
  cases hi with
  | nils=>simp[lenOf] at hm; subst hm; simp[Builtin.len_,ht,zP9 hu,goInt]
  | lst cv hcap hfull hsz hc hr=>simp[lenOf] at hm; subst hm; simp[Builtin.len_,ht,zP9 hu,goInt]
  | _=>simp[lenOf] at hm
 | sl hb h1 h2 h3=>simp[lenOf] at hm; subst hm; simp[Builtin.len_,ht,zP9 hu,goInt]
 | _=>simp[lenOf] at hm
theorem zCx {t:TypeId}{x:Value}{xt:TypeId}{i:TypeInfo}{zv:Value}(hu:∃ d,P.underlying t=some d∧∀ ms,d≠.interface ms) (hi:P.info? t=some i) (hz:i.zero=some zv) :
  ((Instr.typeAssert .nilIface xt t true).run P w=.ok (.tuple #[zv,.bool false]) w)∧
  (∀ v ok,(Instr.typeAssert (.iface t v) xt t ok).run P w=.ok (if ok then .tuple #[v,.bool true] else v) w)∧
  (∀ t' v,t'≠t→(Instr.typeAssert (.iface t' v) xt t true).run P w=.ok (.tuple #[zv,.bool false]) w):=by
 obtain⟨d,hd,hne⟩:=hu
 refine⟨?_,fun v ok=>?_,fun t' v hne'=>?_⟩
 ·cases d with
  | interface ms=>exact absurd rfl (hne ms)
  | _=>simp[Instr.typeAssert,zP9 hd,zQA hi hz]
 ·cases d with
  | interface ms=>exact absurd rfl (hne ms)
  | _=>simp[Instr.typeAssert,zP9 hd]
 ·cases d with
  | interface ms=>exact absurd rfl (hne ms)
  | _=>simp[Instr.typeAssert,zP9 hd,hne',zQA hi hz]
theorem tup2 {x:IV}{rx:Value}{b:Bool}(hx:RepI σ x rx):RepD φ σ (.tup [.imm x,.imm (.bool b)]) (.tuple #[rx,.bool b]):=
 .tup (vs:=#[rx,.bool b]) rfl (fun i c v hc hv=>by
  match i,hc,hv with
  | 0,hc,hv=>simp at hc hv; subst hc hv; exact .imm hx
  | 1,hc,hv=>simp at hc hv; subst hc hv; exact .imm .bool
  | i+2,hc,hv=>simp at hc)
set_option maxHeartbeats 4000000 in
theorem zQ1 (hR:Rel lo Tch φ σ T L h a.tmps w) (hG:GRel σ G) (hT:∀ b,w.heap.size≤b→Tch b){o:Oper}{d:DOp}(hok:okOp P o.dst o.op d=true){e:Eff}(hd:zGm G T L h n lo (o.dst.getD 0) d=some e)
  (hF:zAh φ n e.n'):zBE P lo Tch φ σ T L h a w n o e:=by
 obtain⟨dst,op,type,pos,after,guard⟩:=o
 simp only at hok hd
 unfold okOp at hok
 split at hok
 ·-- move
  simp only[zGm] at hd
  obtain⟨v,h1,rfl⟩:=zIS hd
  exact zM4 hR (by simp[execOp]) (zHP hR hG hok h1)
 ·-- assign
  simp only[zGm] at hd
  obtain⟨v,h1,rfl⟩:=zIS hd
  exact zM4 hR (by simp[execOp]) (zHP hR hG hok h1)
 ·-- pick
  simp only[Bool.and_eq_true] at hok
  obtain⟨⟨hc,ha⟩,hb⟩:=hok
  simp only[zGm] at hd
  split at hd
  ·rename_i h0
   obtain⟨v,h1,rfl⟩:=zIS hd
   have:=zOm (zOl (zHP hR hG hc h0))
   exact zM4 hR (rv:=a.eval _) (by simp[execOp,this,asBool]) (zHP hR hG ha h1)
  ·rename_i h0
   obtain⟨v,h1,rfl⟩:=zIS hd
   have:=zOm (zOl (zHP hR hG hc h0))
   exact zM4 hR (rv:=a.eval _) (by simp[execOp,this,asBool]) (zHP hR hG hb h1)
  ·cases hd
 ·-- nilCheck
  rename_i x y
  simp only[zGm] at hd
  have nz:∀ {v:DV},ev G T y=some v→(∃ ad,a.eval x=.pointer (some ad))→give n (some v)=some e→zBE P lo Tch φ σ T L h a w n ⟨dst,.nilCheck x,type,pos,after,guard⟩ e:=fun {v} hv ⟨ad,had⟩ he=>by
   obtain⟨v',h1,rfl⟩:=zIS he
   cases h1
   exact zM4 hR (rv:=a.eval x) (by simp[execOp,had]) (zHP hR hG hok hv)
  split at hd
  ·rename_i h0
   refine nz h0 ?_ hd
   have:=zHP hR hG hok h0
   generalize a.eval x=u at this
   cases this; exact⟨_,rfl⟩
  ·rename_i h0
   refine nz h0 ?_ hd
   have:=zHP hR hG hok h0
   generalize a.eval x=u at this
   cases this; exact⟨_,rfl⟩
  ·rename_i h0
   refine nz h0 ?_ hd
   have:=zOl (zHP hR hG hok h0)
   generalize a.eval x=u at this
   cases this; exact⟨_,rfl⟩
  ·cases hd
 ·-- panic
  simp[zGm,ev] at hd
 ·-- binOp
  simp only[Bool.and_eq_true,decide_eq_true_eq] at hok
  obtain⟨⟨⟨rfl,het⟩,hx⟩,hy⟩:=hok
  simp only[zGm] at hd
  split at hd
  ·rename_i vx vy h1 h2
   obtain⟨r,h3,rfl⟩:=zIR hd
   obtain⟨rv,h4,h5⟩:=zDR hR hG hx hy het h1 h2 h3
   exact zM5 hR rfl h4 (.imm h5)
  ·cases hd
 ·-- unOp
  simp only[Bool.and_eq_true,decide_eq_true_eq] at hok
  obtain⟨rfl,hx⟩:=hok
  simp only[zGm] at hd
  split at hd
  ·rename_i v h1
   obtain⟨r,h3,rfl⟩:=zIR hd
   obtain⟨rv,h4,h5⟩:=zS7 (P:=P) (w:=w) (zHP hR hG hx h1) h3
   exact zM4 hR (rv:=rv) (by simp[execOp,h4]) (.imm h5)
  ·cases hd
 ·-- int to int
  simp only[Bool.and_eq_true] at hok
  obtain⟨hx,hk⟩:=hok
  simp only[zGm] at hd
  split at hd
  ·rename_i k0 m h1
   obtain⟨r,h3,rfl⟩:=zIR hd
   cases h3
   have:=zOn (zOl (zHP hR hG hx h1))
   split at hk
   ·rename_i ks kd hs hdd
    simp at hk; subst hk
    exact zM4 hR (rv:=.int kd (kd.wrap m)) (by simp[execOp,this,convert,zP9 hs,zP9 hdd,Conv.intToInt]) (.imm .int)
   ·cases hk
  ·cases hd
 ·-- bytes to text
  simp only[Bool.and_eq_true] at hok
  obtain⟨hx,hk⟩:=hok
  simp only[zGm] at hd
  split at hd
  ·rename_i v h1
   split at hd
   ·rename_i src sz rows h2
    split at hd
    ·rename_i h3
     split at hd
     ·rename_i es h4
      split at hd
      ·rename_i bs h5
       cases hd
       refine zM3 (s:=convert _ _ (a.eval _)) rfl (zFF hR ?_ (zHP hR hG hx h1) h2 h3 h4 h5)
       split at hk
       ·rename_i el hs hdd
        simp only[hs,hdd]; exact hk
       ·cases hk
      ·cases hd
     ·cases hd
    ·cases hd
   ·cases hd
  ·cases hd
 ·-- text to bytes
  simp only[Bool.and_eq_true] at hok
  obtain⟨hx,hk⟩:=hok
  simp only[zGm] at hd
  split at hd
  ·rename_i s h1
   obtain⟨r,h3,rfl⟩:=zIR hd
   cases h3
   split at hk
   ·rename_i el hs hdd
    split at hk
    ·rename_i hel
     exact zM3 (s:=convert _ _ (a.eval _)) rfl (zFG hR hs hdd hel (zOl (zHP hR hG hx h1)))
    ·cases hk
   ·cases hk
  ·cases hd
 ·-- bytes as bytes
  rename_i s d x y
  simp only[Bool.and_eq_true,beq_iff_eq] at hok
  obtain⟨⟨rfl,hx⟩,hk⟩:=hok
  simp only[zGm] at hd
  split at hd
  ·rename_i id row len cap h1
   split at hd
   ·rename_i hlo
    split at hd
    ·rename_i hb hid
     cases hd
     split at hk
     ·rename_i el hu
      split at hk
      ·rename_i hel
       exact zM3 (s:=convert s s (a.eval x)) rfl (zFE hR hu hel (zHP hR hG hx h1) hlo hid)
      ·cases hk
     ·cases hk
    ·cases hd
   ·cases hd
  ·cases hd
 ·-- an interface
  rename_i t x t' y
  simp only[Bool.and_eq_true,beq_iff_eq] at hok
  obtain⟨⟨rfl,hx⟩,hk⟩:=hok
  simp only[zGm] at hd
  split at hd
  ·rename_i v h1
   obtain⟨r,h3,rfl⟩:=zIR hd
   cases h3
   refine zM5 hR (rv:=.iface t (a.eval x)) rfl ?_ (.imm (.iface (zOl (zHP hR hG hx h1))))
   split at hk
   ·cases hk
   ·rename_i dd hne hu
    cases dd with
    | interface ms=>exact absurd rfl (hne ms)
    | _=>simp[Instr.makeInterface,zP9 hu]
   ·cases hk
  ·cases hd
 ·-- an assertion
  rename_i x xt t ok t' z ok' y
  simp only[Bool.and_eq_true,beq_iff_eq] at hok
  obtain⟨⟨⟨⟨rfl,rfl⟩,hx⟩,hz⟩,hk⟩:=hok
  have hz':∃ i zv,P.info? t=some i∧i.zero=some zv∧zQI zv z=true:=by
   unfold zTo at hz
   split at hz
   ·rename_i i hi
    split at hz
    ·rename_i zv hzv; exact⟨i,zv,hi,hzv,hz⟩
    ·cases hz
   ·cases hz
  obtain⟨i,zv,hi,hzv,hsame⟩:=hz'
  have hu:∃ d,P.underlying t=some d∧∀ ms,d≠.interface ms:=by
   split at hk
   ·cases hk
   ·rename_i dd hne hu; exact⟨dd,hu,hne⟩
   ·cases hk
  have runs:=fun xt=>zCx (P:=P) (w:=w) (x:=.nilIface) (xt:=xt) hu hi hzv
  simp only[zGm] at hd
  split at hd
  ·rename_i h1
   split at hd
   ·rename_i hok'
    subst hok'
    obtain⟨v,h3,rfl⟩:=zIS hd
    cases h3
    have hn:a.eval x=.nilIface:=by
     have:=zOl (zHP hR hG hx h1)
     generalize a.eval x=u at this
     cases this; rfl
    exact zM5 hR (s:=Instr.typeAssert (a.eval x) xt t true) rfl (by rw[hn]; exact (runs xt).1) (tup2 (zQJ hsame))
   ·cases hd
  ·rename_i t2 v h1
   have hv:∃ rv,a.eval x=.iface t2 rv∧RepI σ v rv:=by
    have:=zOl (zHP hR hG hx h1)
    generalize a.eval x=u at this
    cases this with
    | iface hh=>exact⟨_,rfl,hh⟩
   obtain⟨rv,h2,h3⟩:=hv
   split at hd
   ·rename_i ht
    subst ht
    obtain⟨v',h4,rfl⟩:=zIS hd
    cases h4
    refine zM5 hR (s:=Instr.typeAssert (a.eval x) xt t2 ok) rfl (by rw[h2]; exact (runs xt).2.1 rv ok) ?_
    cases ok with
    | true=>exact tup2 h3
    | false=>exact .imm h3
   ·rename_i ht
    split at hd
    ·rename_i hok'
     subst hok'
     obtain⟨v',h4,rfl⟩:=zIS hd
     cases h4
     exact zM5 hR (s:=Instr.typeAssert (a.eval x) xt t true) rfl (by rw[h2]; exact (runs xt).2.2 t2 rv ht) (tup2 (zQJ hsame))
    ·cases hd
  ·cases hd
 ·-- a function value
  rename_i f first caps g ys
  simp only[Bool.and_eq_true,beq_iff_eq] at hok
  obtain⟨⟨rfl,hfirst⟩,hcaps⟩:=hok
  simp only[zGm] at hd
  split at hd
  ·rename_i vs h1
   split at hd
   ·obtain⟨v',h4,rfl⟩:=zIS hd
    cases h4
    have hr:=zHT hR hG hcaps h1
    have hf0:first=#[]:=by simpa using hfirst
    subst hf0
    have hm:(caps.toList.map a.eval).toArray=caps.map a.eval:=by apply Array.ext'; simp
    rw[hm] at hr
    exact zM5 hR (s:=Instr.makeFunc (.func f) _ _) rfl (by simp[Instr.makeFunc]) (.fnc hr.1 hr.2)
   ·cases hd
  ·cases hd
 ·-- a field's address
  simp only[Bool.and_eq_true] at hok
  obtain⟨hf,hx⟩:=hok
  simp only[zGm] at hd
  cases h1:ev G T _ with
  | none=>rw[h1] at hd; cases hd
  | some p=>
   rw[h1] at hd
   refine zM3 (s:=Instr.fieldAt _ (a.eval _) _) rfl (zHs (e:=e) hR (zHP hR hG hx h1) hf ?_)
   cases p with
   | imm v=>cases v <;> exact hd
   | _=>exact hd
 ·-- an element's address
  rename_i t x i s y j
  simp only[Bool.and_eq_true] at hok
  obtain⟨⟨hs,hx⟩,hi⟩:=hok
  simp only[zGm] at hd
  split at hd
  ·rename_i p q h1 h2
   split at hd
   ·rename_i m h3
    refine zM3 (s:=Instr.indexAt t (a.eval x) (a.eval i)) rfl (zIx (e:=e) hR (zHP hR hG hx h1) (zHP hR hG hi h2) hs h3 ?_)
    cases p with
    | imm v=>cases v <;> exact hd
    | _=>exact hd
   ·cases hd
  ·cases hd
 ·-- an element's address in an array
  rename_i t x i s m y j
  simp only[Bool.and_eq_true] at hok
  obtain⟨⟨hs,hx⟩,hi⟩:=hok
  simp only[zGm] at hd
  split at hd
  ·rename_i p q h1 h2
   split at hd
   ·rename_i k h3
    refine zM3 (s:=Instr.indexAt t (a.eval x) (a.eval i)) rfl (zIr (e:=e) hR (zHP hR hG hx h1) (zHP hR hG hi h2) hs h3 ?_)
    cases p with
    | imm v=>cases v <;> exact hd
    | _=>exact hd
   ·cases hd
  ·cases hd
 ·-- a load
  rename_i t x m agg y
  simp only[Bool.and_eq_true] at hok
  obtain⟨⟨hs,hagg⟩,hx⟩:=hok
  simp only[zGm] at hd
  split at hd
  ·rename_i p h1
   obtain⟨rv,q1,q2,q3,q4,q5⟩:=zKS (P:=P) hR (zHP hR hG hx h1) hd hs hagg
   obtain⟨v,lw,hw,n',acc⟩:=e
   simp only at q3 q4 q5
   subst q3 q4 q5
   exact zM5 hR (s:=Instr.loadAt t (a.eval x)) rfl q1 q2
  ·cases hd
 ·-- a store
  rename_i t x v m y u
  simp only[Bool.and_eq_true] at hok
  obtain⟨⟨hs,hx⟩,hv⟩:=hok
  simp only[zGm] at hd
  split at hd
  ·rename_i p q h1 h2
   obtain⟨w',q1,q2⟩:=zRk (P:=P) hR (zHP hR hG hx h1) (zHP hR hG hv h2) hd hs
   exact⟨.skip,undef,w',φ,σ,by simp[execOp,q1],.inr ⟨rfl,rfl⟩,q2⟩
  ·cases hd
 ·-- a part
  rename_i t x f off m agg y
  simp only[Bool.and_eq_true] at hok
  obtain⟨hf,hx⟩:=hok
  simp only[zGm] at hd
  split at hd
  ·rename_i cs h1
   split at hd
   ·rename_i r h2
    obtain⟨v,h3,rfl⟩:=zIS hd
    unfold zHW at hf
    split at hf
    ·rename_i fs hu
     split at hf
     ·rename_i fl hfl
      simp only[Bool.and_eq_true,beq_iff_eq] at hf
      obtain⟨⟨rfl,hs⟩,hagg⟩:=hf
      have hr:=zHP hR hG hx h1
      generalize hev:a.eval x=u at hr
      cases hr with
      | agg hl hr=>
       rename_i vs
       obtain⟨rv,q1,q2⟩:=zNr (P:=P) (w:=w) ⟨hl,hr⟩ hs hagg h2 h3
       exact zM5 hR (s:=Instr.field t (a.eval x) f) rfl (by rw[hev]; simp[Instr.field,zP9 hu,hfl,asAgg,q1]) q2
     ·cases hf
    ·cases hf
   ·cases hd
  ·cases hd
 ·-- an element of an array
  rename_i t x i s m agg y j
  simp only[Bool.and_eq_true] at hok
  obtain⟨⟨hs,hx⟩,hi⟩:=hok
  simp only[zGm] at hd
  split at hd
  ·rename_i cs q h1 h2
   split at hd
   ·rename_i k h3
    split at hd
    ·rename_i hlt
     split at hd
     ·rename_i r h4
      obtain⟨v,h5,rfl⟩:=zIS hd
      split at hs
      ·rename_i m' el hu
       simp only[Bool.and_eq_true,beq_iff_eq] at hs
       obtain⟨⟨rfl,hsz⟩,hagg⟩:=hs
       have hr:=zHP hR hG hx h1
       obtain⟨ik,hik⟩:=zCm h3 (zHP hR hG hi h2)
       generalize hev:a.eval x=u at hr
       cases hr with
       | agg hl hr=>
        rename_i vs
        obtain⟨rv,q1,q2⟩:=zNr (P:=P) (w:=w) ⟨hl,hr⟩ hsz hagg h4 h5
        exact zM5 hR (s:=Instr.index t (a.eval x) (a.eval i)) rfl (by rw[hev,hik]; simp[Instr.index,zPh,zP9 hu,hlt,zP3 hsz,q1]) q2
      ·cases hs
     ·cases hd
    ·cases hd
   ·cases hd
  ·cases hd
 ·-- a byte of a text
  rename_i t x i y j
  simp only[Bool.and_eq_true] at hok
  obtain⟨⟨hs,hx⟩,hi⟩:=hok
  simp only[zGm] at hd
  split at hd
  ·rename_i s q h1 h2
   split at hd
   ·rename_i k h3
    split at hd
    ·rename_i c h4
     obtain⟨v,h5,rfl⟩:=zIR hd
     cases h5
     obtain⟨b,e1,rfl⟩:=zOo (zOl (zHP hR hG hx h1))
     obtain⟨ik,hik⟩:=zCm h3 (zHP hR hG hi h2)
     split at hs
     ·rename_i hu
      have hb:b[k]?=some c:=by
       have:b.data[k]?=some c:=by simpa using h4
       obtain⟨q1,q2⟩:=Array.getElem?_eq_some_iff.1 this
       have hk:k<b.size:=q1
       rw[getElem?_pos b k hk]
       congr 1
      exact zM5 hR (s:=Instr.index t (a.eval x) (a.eval i)) (rv:=.int .u8 c.toNat) rfl (by rw[e1,hik]; simp[Instr.index,zPh,zP9 hu,hb]) (.imm .int)
     ·cases hs
    ·cases hd
   ·cases hd
  ·cases hd
 ·-- a variable of the frame
  rename_i t v u
  simp only[Bool.and_eq_true] at hok
  obtain⟨hdst,hx⟩:=hok
  simp only[zGm] at hd
  split at hd
  ·rename_i p h1
   split at hd
   ·rename_i hsc
    cases hd
    exact zM3 (s:=Instr.box t (a.eval v)) rfl (zDp hR hT (hF n (Nat.le_refl _) (Nat.lt_succ_self _)) (zHP hR hG hx h1) hsc _)
   ·cases hd
  ·cases hd
 ·-- a variable of the heap
  rename_i t v u
  simp only[zGm] at hd
  split at hd
  ·rename_i p h1
   split at hd
   ·rename_i hsc
    cases hd
    exact zM3 (s:=Instr.box t (a.eval v)) rfl (zDo hR hT (hF n (Nat.le_refl _) (Nat.lt_succ_self _)) (zHP hR hG hok h1) hsc.1 hsc.2.2)
   ·cases hd
  ·cases hd
 ·-- a new variable of the frame
  rename_i t z
  simp only[Bool.and_eq_true] at hok
  obtain⟨hdst,hz⟩:=hok
  simp only[zGm] at hd
  cases hd
  exact zM3 (s:=Instr.alloc t true (.tuple #[])) rfl (zB8 hR hT (hF n (Nat.le_refl _) (Nat.lt_succ_self _)) hz (zTr hz) _)
 ·-- a new variable of the heap
  rename_i t z
  simp only[zGm] at hd
  split at hd
  ·rename_i hp
   cases hd
   exact zM3 (s:=Instr.alloc t true (.tuple #[])) rfl (zB7 hR hT (hF n (Nat.le_refl _) (Nat.lt_succ_self _)) hok (zTr hok) hp)
  ·cases hd
 ·-- a struct
  rename_i t ps z qs
  simp only[Bool.and_eq_true] at hok
  obtain⟨hz,hps⟩:=hok
  simp only[zGm] at hd
  split at hd
  ·rename_i vs h1
   exact zM3 (s:=Instr.build t _) rfl (zDt hR hG hz hps h1 hd)
  ·cases hd
 ·-- a slice of parts
  rename_i t m ps mt s z m' qs
  simp only[Bool.and_eq_true,beq_iff_eq] at hok
  obtain⟨⟨rfl,hs⟩,hps⟩:=hok
  simp only[zGm] at hd
  split at hd
  ·rename_i vs h1
   exact zM3 (s:=Instr.buildSlice t m _) rfl (zDs (mt:=mt) hR hG hT hs hps h1 hd hF)
  ·cases hd
 ·-- a slice of a length
  rename_i t l c mt s b z m
  simp only[Bool.and_eq_true] at hok
  obtain⟨⟨hs,hl⟩,hc⟩:=hok
  simp only[zGm] at hd
  split at hd
  ·rename_i q h1
   split at hd
   ·rename_i k h2
    exact zM3 (s:=Instr.makeSlice t (a.eval l) (a.eval c)) rfl (zMA (mt:=mt) hR hT (by
     split at hs
     ·simp only[Bool.and_eq_true] at hs; exact zTr hs.2
     ·cases hs) hs (zHP hR hG hl h1) (zHP hR hG hc h1) h2 hd hF)
   ·cases hd
  ·cases hd
 ·-- a slice of a slice
  rename_i t x lo' hi mx s y l h' m
  simp only[Bool.and_eq_true] at hok
  obtain⟨⟨⟨⟨hs,hx⟩,hl⟩,hh⟩,hm⟩:=hok
  simp only[zGm] at hd
  split at hd
  ·rename_i p vl vh vm h1 h2 h3 h4
   exact zM3 (s:=Instr.sliceAt t (a.eval x) (lo'.map a.eval) (hi.map a.eval) (mx.map a.eval)) rfl
    (zQ5 hR hs (zHP hR hG hx h1) (zHF hR hG hl h2) (zHF hR hG hh h3) (zHF hR hG hm h4) hd)
  ·cases hd
 ·-- a slice of a text
  rename_i t x lo' hi y l h'
  simp only[Bool.and_eq_true] at hok
  obtain⟨⟨⟨hs,hx⟩,hl⟩,hh⟩:=hok
  simp only[zGm] at hd
  split at hd
  ·rename_i s vl vh h1 h2 h3
   exact zM3 (s:=Instr.sliceAt t (a.eval x) (lo'.map a.eval) (hi.map a.eval) none) rfl
    (zQ3 hR hs (zOl (zHP hR hG hx h1)) (zHF hR hG hl h2) (zHF hR hG hh h3) hd)
  ·cases hd
 ·-- the length of a slice
  rename_i x ts y
  simp only[Bool.and_eq_true] at hok
  obtain⟨hx,hs⟩:=hok
  simp only[zGm] at hd
  split at hd
  ·rename_i v h1
   obtain⟨r,h3,rfl⟩:=zIR hd
   simp only[Option.map_eq_some_iff] at h3
   obtain⟨m0,h40,rfl⟩:=h3
   obtain⟨m,h4,rfl⟩:∃ m:Nat,lenOf v=some m∧(m:Int)=m0:=by
    cases hl:lenOf v with
    | none=>rw[hl] at h40; cases h40
    | some m=>rw[hl] at h40; exact⟨m,rfl,by simpa using h40⟩
   split at hs
   ·rename_i t ht
    split at hs
    ·rename_i el hu
     exact zM5 hR (s:=Builtin.len_ ts type #[a.eval x]) (by simp[execOp,resolve,invoke,builtin]) (zPq ht hu (zHP hR hG hx h1) h4) (.imm .int)
    ·cases hs
   ·cases hs
  ·cases hd
 ·-- the length of a text
  rename_i x ts y
  simp only[Bool.and_eq_true] at hok
  obtain⟨hx,hs⟩:=hok
  simp only[zGm] at hd
  split at hd
  ·rename_i s h1
   obtain⟨r,h3,rfl⟩:=zIR hd
   cases h3
   obtain⟨b,e1,rfl⟩:=zOo (zOl (zHP hR hG hx h1))
   split at hs
   ·rename_i t ht
    split at hs
    ·rename_i hu
     refine zM5 hR (s:=Builtin.len_ ts type #[a.eval x]) (rv:=.int .i64 b.size) (by simp[execOp,resolve,invoke,builtin]) (by simp[Builtin.len_,ht,zP9 hu,goInt,e1]) ?_
     have:b.data.toList.length=b.size:=by simp
     rw[this]; exact .imm .int
    ·cases hs
   ·cases hs
  ·cases hd
 ·-- the length of an array
  rename_i x ts m
  simp only[zGm] at hd
  obtain⟨r,h3,rfl⟩:=zIR hd
  cases h3
  split at hok
  ·rename_i t ht
   split at hok
   ·rename_i m' el hu
    simp at hok; subst hok
    exact zM5 hR (s:=Builtin.len_ ts type #[a.eval x]) (by simp[execOp,resolve,invoke,builtin]) (by simp[Builtin.len_,ht,zP9 hu,goInt]) (.imm .int)
   ·rename_i arr hu
    split at hok
    ·rename_i m' el hu'
     simp at hok; subst hok
     exact zM5 hR (s:=Builtin.len_ ts type #[a.eval x]) (by simp[execOp,resolve,invoke,builtin]) (by simp[Builtin.len_,ht,zP9 hu,zP9 hu',goInt]) (.imm .int)
    ·cases hok
   ·cases hok
  ·cases hok
 ·-- the room of a slice
  rename_i x ts y
  simp only[Bool.and_eq_true] at hok
  obtain⟨hx,hs⟩:=hok
  split at hs
  ·rename_i t ht
   split at hs
   ·rename_i el hu
    simp only[zGm] at hd
    split at hd
    ·rename_i h1
     obtain⟨r,h3,rfl⟩:=zIR hd
     cases h3
     have e1:a.eval x=.slice none 0 0:=by
      have:=zOl (zHP hR hG hx h1)
      generalize a.eval x=u at this
      cases this; rfl
     exact zM5 hR (s:=Builtin.cap_ ts type #[a.eval x]) (rv:=.int .i64 0) (by simp[execOp,resolve,invoke,builtin]) (by simp[Builtin.cap_,ht,zP9 hu,goInt,e1]) (.imm .int)
    ·rename_i sz es h1
     obtain⟨r,h3,rfl⟩:=zIR hd
     cases h3
     have e1:∃ ad,a.eval x=.slice (some ad) es.length es.length:=by
      have:=zOl (zHP hR hG hx h1)
      generalize a.eval x=u at this
      cases this with
      | lst cv hcap hfull hsz hc hr=>rw[hfull rfl]; exact⟨_,rfl⟩
     obtain⟨ad,e1⟩:=e1
     exact zM5 hR (s:=Builtin.cap_ ts type #[a.eval x]) (rv:=.int .i64 es.length) (by simp[execOp,resolve,invoke,builtin]) (by simp[Builtin.cap_,ht,zP9 hu,goInt,e1]) (.imm .int)
    ·cases hd
   ·cases hs
  ·cases hs
 ·-- the lesser
  rename_i x y ts x' y'
  simp only[Bool.and_eq_true] at hok
  obtain⟨hx,hy⟩:=hok
  simp only[zGm] at hd
  split at hd
  ·rename_i k m k' m' h1 h2
   split at hd
   ·rename_i hk
    subst hk
    obtain⟨r,h3,rfl⟩:=zIR hd
    cases h3
    have e1:=zOn (zOl (zHP hR hG hx h1))
    have e2:=zOn (zOl (zHP hR hG hy h2))
    exact zM5 hR (s:=Builtin.min_ ts type #[a.eval x,a.eval y]) (by simp[execOp,resolve,invoke,builtin]) (by simp[Builtin.min_,Builtin.min2,e1,e2]) (.imm .int)
   ·cases hd
  ·cases hd
 ·-- the greater
  rename_i x y ts x' y'
  simp only[Bool.and_eq_true] at hok
  obtain⟨hx,hy⟩:=hok
  simp only[zGm] at hd
  split at hd
  ·rename_i k m k' m' h1 h2
   split at hd
   ·rename_i hk
    subst hk
    obtain⟨r,h3,rfl⟩:=zIR hd
    cases h3
    have e1:=zOn (zOl (zHP hR hG hx h1))
    have e2:=zOn (zOl (zHP hR hG hy h2))
    exact zM5 hR (s:=Builtin.max_ ts type #[a.eval x,a.eval y]) (by simp[execOp,resolve,invoke,builtin]) (by simp[Builtin.max_,Builtin.max2,e1,e2]) (.imm .int)
   ·cases hd
  ·cases hd
 ·-- append
  rename_i x y ts s b x' y'
  simp only[Bool.and_eq_true] at hok
  obtain⟨⟨hx,hy⟩,hs⟩:=hok
  simp only[zGm] at hd
  split at hd
  ·rename_i p q h1 h2
   have hz:∀ {el:TypeId},szOk P el s=true→btOk P el b=true→zTn P el s=true→∃ i z,P.info? el=some i∧i.size=s∧i.bytes=b∧i.zero=some z∧z.cells.size=s:=fun {el} q1 q2 q3=>by
    unfold szOk at q1; unfold btOk at q2; unfold zTn at q3
    split at q1
    ·rename_i i hi
     rw[hi] at q2 q3
     simp only at q2 q3
     split at q3
     ·rename_i z hz
      simp only[beq_iff_eq] at q1 q2 q3
      exact⟨i,z,hi,q1,q2,hz,q3⟩
     ·cases q3
    ·cases q1
   split at hs
   ·rename_i t u ht hu
    have fin:∀ {el:TypeId},P.underlying t=some (.slice el)→szOk P el s=true→btOk P el b=true→zTn P el s=true→((∃ e',P.underlying u=some (.slice e'))∨P.underlying u=some .string)→
      zBE P lo Tch φ σ T L h a w n ⟨dst,.call { callee:=.builtin .append,args:=⟨[x,y]⟩,argTypes:=ts },type,pos,after,guard⟩ e:=fun {el} g1 g2 g3 g4 g5=>by
     obtain⟨i,z,q1,q2,q3,q4,q5⟩:=hz g2 g3 g4
     exact zM3 (s:=Builtin.append_ ts type #[a.eval x,a.eval y]) (by simp[execOp,resolve,invoke,builtin])
      (zCZ hR hT ⟨⟨t,ht,g1⟩,⟨u,hu,g5⟩,⟨i,q1,q2,q3,q4⟩⟩ q5 (zHP hR hG hx h1) (zHP hR hG hy h2) hd hF)
    split at hs
    ·rename_i el el' g1 g2
     simp only[Bool.and_eq_true] at hs
     exact fin g1 hs.1.1.1 hs.1.1.2 hs.2 (.inl ⟨_,g2⟩)
    ·rename_i el g1 g2
     simp only[Bool.and_eq_true] at hs
     exact fin g1 hs.1.1.1 hs.1.1.2 hs.2 (.inr g2)
    ·cases hs
   ·cases hs
  ·cases hd
 ·-- append of so many nothings
  rename_i x y ts s b z x' y'
  simp only[Bool.and_eq_true] at hok
  obtain⟨⟨hx,hy⟩,hs⟩:=hok
  simp only[zGm] at hd
  split at hd
  ·rename_i q h1 h2
   split at hd
   ·rename_i k h3
    have e1:a.eval x=.slice none 0 0:=by
     have:=zOl (zHP hR hG hx h1)
     generalize a.eval x=u at this
     cases this; rfl
    split at hs
    ·rename_i t u ht hu
     split at hs
     ·rename_i el ik g1 g2
      simp only[Bool.and_eq_true] at hs
      have:=zCN (ty:=type) hR hT ht hu g1 g2 hs.1.1 hs.1.2 hs.2 (zHP hR hG hy h2) h3 hd hF
      rw[← e1] at this
      exact zM3 (s:=Builtin.append_ ts type #[a.eval x,a.eval y]) (by simp[execOp,resolve,invoke,builtin]) this
     ·cases hs
    ·cases hs
   ·cases hd
  ·cases hd
 ·-- a walk over a text
  rename_i t x y
  simp only[Bool.and_eq_true] at hok
  obtain⟨⟨hdst,hs⟩,hx⟩:=hok
  simp only[zGm] at hd
  split at hd
  ·rename_i s h1
   cases hd
   split at hs
   ·rename_i hu
    exact zM3 (s:=Instr.range t (a.eval x)) rfl (zO5 hR hT (hF n (Nat.le_refl _) (Nat.lt_succ_self _)) hu (zOl (zHP hR hG hx h1)) _)
   ·cases hs
  ·cases hd
 ·-- the walk's next
  rename_i it slot
  simp only[beq_iff_eq] at hok
  subst hok
  simp only[zGm] at hd
  split at hd
  ·rename_i s id id' str pos h1 h2
   split at hd
   ·rename_i hc
    obtain⟨rfl,rfl⟩:=hc
    have hv:RepD φ σ (.lref s id 0) (a.eval (.tmp s)):=zHP (y:=.t s) hR hG (by simp[zNA]) h1
    exact zM3 (s:=Instr.next (a.eval (.tmp s)) true type) rfl (zMx hR h2 hv hd)
   ·cases hd
  ·cases hd
 ·-- a part of many
  rename_i x i j y
  simp only[Bool.and_eq_true,beq_iff_eq] at hok
  obtain⟨rfl,hx⟩:=hok
  simp only[zGm] at hd
  split at hd
  ·rename_i vs h1
   obtain⟨v,h3,rfl⟩:=zIS hd
   have hv:=zHP hR hG hx h1
   generalize hu:a.eval x=u at hv
   cases hv with
   | tup hl hr=>
    rename_i rs
    obtain⟨rv,q1,q2⟩:=RepDs.get ⟨hl,hr⟩ h3
    exact zM5 hR (s:=Instr.extract (a.eval x) i) rfl (by rw[hu]; simp[Instr.extract,q1]) q2
  ·cases hd
 ·cases hd
 ·cases hd
 ·cases hok
end
end Go.PM
