/-
  What an operation of D looks at and turns: no more than it tells.
-/
import Derived.Test.YtlknjgmhfimhbaaGreatDoorChk
import Derived.Test.YtlknjgmhfimhbaaGreatDoorOut
set_option linter.unusedVariables false
set_option linter.unusedSimpArgs false
namespace Go.PM
structure Mon (n n':Nat) (h h':Nat→Option HB):Prop where
 le:n≤n'
 fr:∀ id,h id=none→(id<n∨n'≤id)→h' id=none
theorem Mon.refl (n:Nat) (h:Nat→Option HB):Mon n n h h:=⟨Nat.le_refl _,fun _ h _=>h⟩
theorem Mon.trans {n n1 n2:Nat}{h h1 h2:Nat→Option HB}(a:Mon n n1 h h1) (b:Mon n1 n2 h1 h2):Mon n n2 h h2:=
 ⟨Nat.le_trans a.le b.le,fun id hi ho=>by
  have:=a.le
  have:=b.le
  exact b.fr id (a.fr id hi (by omega)) (by omega)⟩
section
variable {G:Nat→Option (List IV)}{T T':Nat→Option DV}{L L':Nat→Option LV}{h h':Nat→Option HB}{n lo dst:Nat}
structure EffOk (h:Nat→Option HB) (n:Nat) (e:Eff):Prop where
 le:n≤e.n'
 l:∀ p∈e.lw,Acc.wL p.1∈e.acc
 x:∀ p∈e.hw,Acc.wX p.1∈e.acc
 old:∀ id hb,(id,some hb)∈e.hw→h id≠none∨(n≤id∧id<e.n')
variable {v:DV}
theorem EffOk.plain{acc:List Acc}:EffOk h n { v,n':=n,acc }:=⟨Nat.le_refl _,by simp,by simp,by simp⟩
variable {e:Eff}
theorem EffOk.give {v:Option DV}(he:give n v=some e):EffOk h n e:=by
 cases v with
 | none=>cases he
 | some v=>cases he; exact .plain
theorem EffOk.giveI {v:Option IV}(he:giveI n v=some e):EffOk h n e:=by
 cases v with
 | none=>cases he
 | some v=>cases he; exact .plain
theorem EffOk.new{hb:HB}{acc:List Acc}:EffOk h n { v,hw:=[(n,some hb)],n':=n+1,acc:=.wX n::acc }:=
 ⟨Nat.le_succ _,by simp,by simp,by simp⟩
theorem EffOk.same{id:Nat}{hb:HB}(hid:h id=some hb):EffOk h n { v,hw:=[(id,some hb)],n':=n,acc:=[.wX id] }:=
 ⟨Nat.le_refl _,by simp,by simp,fun i hb' hm=>by
  simp at hm
  obtain⟨rfl,_⟩:=hm
  exact .inl (by rw[hid]; simp)⟩
variable {k:Nat}
theorem EffOk.newL{lv:LV}:EffOk h n { v,lw:=[(k,lv)],n':=n+1,acc:=[.wL k] }:=⟨Nat.le_succ _,by simp,by simp,by simp⟩
variable {p:DV}
theorem zKQ{agg:Bool}(he:zKP L h n k agg p=some e):EffOk h n e:=by
 unfold zKP at he
 repeat' split at he
 all_goals first
  | cases he
  | (simp only[Option.map_eq_some_iff] at he; obtain⟨v,_,rfl⟩:=he; exact .plain)
theorem zRi(he:zRh L h n lo k v p=some e):EffOk h n e:=by
 unfold zRh at he
 repeat' split at he
 all_goals first
  | (cases he; done)
  | (cases he; exact⟨Nat.le_refl _,by simp,by simp,by simp_all⟩)
variable {s:Nat} {x:DV}
theorem zCL {b:Nat} {y:DV}(he:zCK h n lo s b x y=some e):EffOk h n e:=by
 unfold zCK at he
 dsimp only at he
 repeat' split at he
 all_goals first
  | (cases he; done)
  | (cases he; exact .plain)
  | (cases he; exact .new)
  | (cases he; exact⟨Nat.le_refl _,by simp,by simp,by simp_all⟩)
  | (cases he; exact⟨Nat.le_succ _,by simp,by simp,by simp⟩)
theorem zQ8{l hi mx:Option DV}(he:zQ7 h n s x l hi mx=some e):EffOk h n e:=by
 unfold zQ7 at he
 repeat' split at he
 all_goals first
  | (cases he; done)
  | (cases he; exact .plain)
set_option maxHeartbeats 4000000 in
theorem zGn {op:DOp}(he:zGm G T L h n lo dst op=some e):EffOk h n e:=by
 cases op <;> simp only[zGm] at he
 case mv=>exact .give he
 case lenA=>exact .giveI he
 case ld=>split at he <;> first | exact zKQ he | cases he
 case st=>split at he <;> first | exact zRi he | cases he
 case app=>split at he <;> first | exact zCL he | cases he
 case slc=>split at he <;> first | exact zQ8 he | cases he
 all_goals (repeat' split at he)
 all_goals first
  | (cases he; done)
  | exact .give he
  | exact .giveI he
  | (cases he; exact .plain)
  | (cases he; exact .new)
  | (cases he; exact .newL)
  | (cases he; exact .same (by assumption))
  | (cases he; exact⟨Nat.le_refl _,by simp,by simp,by simp⟩)
theorem EffOk.mon(h1:EffOk h n e):Mon n e.n' h (updH h e.hw):=by
 refine⟨h1.le,fun id hi ho=>?_⟩
 have aux:∀ (l:List (Nat×Option HB)) (g:Nat→Option HB),g id=none→(∀ hb,(id,some hb)∈l→False)→updH g l id=none:=by
  intro l
  induction l with
  | nil=>intro g hg _; exact hg
  | cons p l ih=>
   intro g hg hl
   obtain⟨k,v⟩:=p
   simp only[updH]
   refine ih _ ?_ (fun hb hm=>hl hb (List.mem_cons_of_mem _ hm))
   unfold upd
   split
   ·rename_i hk
    cases v with
    | none=>rfl
    | some hb=>exact (hl hb (by rw[hk]; exact List.mem_cons_self ..)).elim
   ·exact hg
 refine aux _ _ hi fun hb hm=>?_
 rcases h1.old id hb hm with h2 | h2
 ·exact h2 hi
 ·omega
theorem zHN {x:Opd}(hT:∀ k∈x.ts,T' k=T k):ev G T' x=ev G T x:=by
 cases x with
 | t k=>exact hT k (by simp[Opd.ts])
 | _=>rfl
theorem zHR:∀ {xs:List Opd},(∀ k∈xs.flatMap Opd.ts,T' k=T k)→evs G T' xs=evs G T xs
 | [],_=>rfl
 | x::xs,hT=>by
  simp only[List.flatMap_cons,List.mem_append] at hT
  simp only[evs,zHN (x:=x) (fun k hk=>hT k (.inl hk)),zHR (xs:=xs) (fun k hk=>hT k (.inr hk))]
theorem zHE {x:Option Opd}(hT:∀ k∈(x.map Opd.ts).getD [],T' k=T k):evO G T' x=evO G T x:=by
 cases x with
 | none=>rfl
 | some x=>simp only[evO,zHN (x:=x) hT]
theorem zHL:∀ {xs:List (Nat×Nat×Opd)},(∀ k∈xs.flatMap (fun p=>p.2.2.ts),T' k=T k)→zHG G T' xs=zHG G T xs
 | [],_=>rfl
 | (o,k,x)::xs,hT=>by
  simp only[List.flatMap_cons,List.mem_append] at hT
  simp only[zHG,zHN (x:=x) (fun k hk=>hT k (.inl hk)),zHL (xs:=xs) (fun k hk=>hT k (.inr hk))]
theorem zHI:∀ {xs:List (Nat×Opd)},(∀ k∈xs.flatMap (fun p=>p.2.ts),T' k=T k)→zHH G T' xs=zHH G T xs
 | [],_=>rfl
 | (o,x)::xs,hT=>by
  simp only[List.flatMap_cons,List.mem_append] at hT
  simp only[zHH,zHN (x:=x) (fun k hk=>hT k (.inl hk)),zHI (xs:=xs) (fun k hk=>hT k (.inr hk))]
theorem zPW{src:Option Nat}{sz:Nat}{rows:List (List DV)}(hr:zPV h v=some (src,sz,rows)) (hH:∀ id,src=some id→h' id=h id):zPV h' v=some (src,sz,rows):=by
 cases v with
 | imm x=>cases x <;> exact hr
 | sl id row len cap=>
  simp only[zPV] at hr ⊢
  split at hr
  ·rename_i hb hhb
   split at hr
   ·rename_i hle
    cases hr
    rw[hH id rfl,hhb]
    simp only[hle,if_true]
   ·cases hr
  ·cases hr
 | _=>exact hr
theorem zRT{src:Option Nat}{sz:Nat}{rows:List (List DV)}(hr:zRS h v=some (src,sz,rows)) (hH:∀ id,src=some id→h' id=h id):zRS h' v=some (src,sz,rows):=by
 cases v with
 | imm x=>cases x <;> first | exact hr | (simp only[zRS] at hr ⊢; exact zPW hr hH)
 | _=>simp only[zRS] at hr ⊢; exact zPW hr hH
def zAB (L L':Nat→Option LV) (acc:List Acc):Prop:=∀ k,(Acc.rL k∈acc∨Acc.wL k∈acc)→L' k=L k
def zAA (h h':Nat→Option HB) (acc:List Acc):Prop:=∀ id,(Acc.rX id∈acc∨Acc.wX id∈acc)→h' id=h id
theorem zKR{agg:Bool}(hL:zAB L L' e.acc) (hH:zAA h h' e.acc) (he:zKP L h n k agg p=some e):zKP L' h' n k agg p=some e:=by
 cases p with
 | imm x=>cases x <;> exact he
 | ptr id row off=>
  simp only[zKP] at he ⊢
  have:h' id=h id:=hH id (by
   repeat' split at he
   all_goals first
    | cases he
    | (simp only[Option.map_eq_some_iff] at he; obtain⟨v,_,rfl⟩:=he; simp))
  rw[this]; exact he
 | lref slot id off=>
  simp only[zKP] at he ⊢
  have:L' slot=L slot:=hL slot (by
   repeat' split at he
   all_goals first
    | cases he
    | (simp only[Option.map_eq_some_iff] at he; obtain⟨v,_,rfl⟩:=he; simp))
  rw[this]; exact he
 | _=>exact he
theorem zRj(hL:zAB L L' e.acc) (hH:zAA h h' e.acc) (he:zRh L h n lo k v p=some e):zRh L' h' n lo k v p=some e:=by
 cases p with
 | ptr id row off=>
  simp only[zRh] at he ⊢
  have:h' id=h id:=hH id (by
   repeat' split at he
   all_goals first
    | (cases he; done)
    | (cases he; simp))
  rw[this]; exact he
 | lref slot id off=>
  simp only[zRh] at he ⊢
  have:L' slot=L slot:=hL slot (by
   repeat' split at he
   all_goals first
    | (cases he; done)
    | (cases he; simp))
  rw[this]; exact he
 | _=>exact he
theorem zQ9{l hi mx:Option DV}(hH:zAA h h' e.acc) (he:zQ7 h n s x l hi mx=some e):zQ7 h' n s x l hi mx=some e:=by
 cases x with
 | sl id row len cap=>
  simp only[zQ7] at he ⊢
  split at he
  ·split at he
   ·rename_i hc
    simp only[hc,and_self,if_true] at he ⊢
    split at he
    ·rename_i h0; simp only[h0,if_true]; exact he
    ·rename_i h0
     simp only[h0,if_false] at he ⊢
     split at he
     ·rename_i h1
      simp only[h1,if_true] at he ⊢
      have:h' id=h id:=hH id (by
       repeat' split at he
       all_goals first
        | (cases he; done)
        | (cases he; simp))
      rw[this]; exact he
     ·rename_i h1
      simp only[h1,if_false]; exact he
   ·cases he
  ·cases he
 | imm x=>cases x <;> exact he
 | _=>exact he
theorem zCM {b:Nat} {y:DV}(hH:zAA h h' e.acc) (he:zCK h n lo s b x y=some e):zCK h' n lo s b x y=some e:=by
 unfold zCK at he
 dsimp only at he
 split at he
 ·cases he
 ·rename_i src sb ys hsrc
  have hsl:∀ id row len cap,x=.sl id row len cap→ys≠[]→sb=s∧0<s→lo≤id∧src≠some id→h' id=h id:=by
   rintro id row len cap rfl q1 q2 q3
   refine hH id ?_
   rw[if_neg q1,if_pos q2] at he
   simp only[q3,ne_eq,not_false_eq_true,and_self,if_true] at he
   repeat' split at he
   all_goals first
    | (cases he; done)
    | (cases he; simp)
  have hacc:∀ id,src=some id→h' id=h id:=by
   rintro id rfl
   refine hH id (.inl ?_)
   repeat' split at he
   all_goals first
    | (cases he; done)
    | (cases he; simp[zOS])
  unfold zCK
  rw[zRT hsrc hacc]
  dsimp only
  by_cases h0:ys=[]
  ·rw[if_pos h0] at he ⊢; exact he
  ·rw[if_neg h0] at he ⊢
   by_cases h1:sb=s∧0<s
   ·rw[if_pos h1] at he ⊢
    cases x with
    | imm v=>
     cases v with
     | lst full sz es=>cases full <;> exact he
     | _=>exact he
    | sl id row len cap=>
     simp only at he ⊢
     by_cases h2:lo≤id∧src≠some id
     ·rw[if_pos h2] at he ⊢
      rw[hsl id row len cap rfl h0 h1 h2]; exact he
     ·rw[if_neg h2] at he; cases he
    | _=>exact he
   ·rw[if_neg h1] at he; cases he
theorem mem3 {A B C:List Nat}{p:Nat→Prop}(h:∀ k∈A++B++C,p k):(∀ k∈A,p k)∧(∀ k∈B,p k)∧∀ k∈C,p k:=
 ⟨fun k hk=>h k (by simp[hk]),fun k hk=>h k (by simp[hk]),fun k hk=>h k (by simp[hk])⟩
theorem mem2 {A B:List Nat}{p:Nat→Prop}(h:∀ k∈A++B,p k):(∀ k∈A,p k)∧(∀ k∈B,p k):=
 ⟨fun k hk=>h k (by simp[hk]),fun k hk=>h k (by simp[hk])⟩
set_option maxHeartbeats 4000000 in
theorem zGo {op:DOp}(hT:∀ k∈op.ts,T' k=T k) (hL:zAB L L' e.acc) (hH:zAA h h' e.acc) (he:zGm G T L h n lo dst op=some e) :
  zGm G T' L' h' n lo dst op=some e:=by
 cases op <;> simp only[DOp.ts] at hT <;> simp only[zGm] at he ⊢
 case lenA=>exact he
 case alL=>exact he
 case alH=>exact he
 case call=>exact he
 case calld=>exact he
 case ld=>rw[zHN hT]; split at he <;> first | exact zKR hL hH he | cases he
 case st=>
  obtain⟨h1,h2⟩:=mem2 hT
  rw[zHN h1,zHN h2]; split at he <;> first | exact zRj hL hH he | cases he
 case app=>
  obtain⟨h1,h2⟩:=mem2 hT
  rw[zHN h1,zHN h2]; split at he <;> first | exact zCM hH he | cases he
 case slc s x l hi mx=>
  have h1:∀ k∈x.ts,T' k=T k:=fun k hk=>hT k (by simp[hk])
  have h2:∀ k∈(l.map Opd.ts).getD [],T' k=T k:=fun k hk=>hT k (by simp only[List.mem_append]; exact .inl (.inl (.inr hk)))
  have h3:∀ k∈(hi.map Opd.ts).getD [],T' k=T k:=fun k hk=>hT k (by simp only[List.mem_append]; exact .inl (.inr hk))
  have h4:∀ k∈(mx.map Opd.ts).getD [],T' k=T k:=fun k hk=>hT k (by simp only[List.mem_append]; exact .inr hk)
  rw[zHN h1,zHE h2,zHE h3,zHE h4]
  split at he <;> first | exact zQ9 hH he | cases he
 case slS x l hi=>
  obtain⟨h1,h2,h3⟩:=mem3 hT
  rw[zHN h1,zHE h2,zHE h3]; exact he
 case pick=>
  obtain⟨h1,h2,h3⟩:=mem3 hT
  rw[zHN h1,zHN h2,zHN h3]; exact he
 case mkF=>rw[zHR hT]; exact he
 case build=>rw[zHL hT]; exact he
 case bsl=>rw[zHI hT]; exact he
 case cvBS x=>
  rw[zHN hT]
  split at he
  ·split at he
   ·rename_i v h1 src sz rows h2
    have:∀ id,src=some id→h' id=h id:=by
     rintro id rfl
     refine hH id (.inl ?_)
     repeat' split at he
     all_goals first
      | (cases he; done)
      | (cases he; simp[zOS])
    simp only[zPW h2 this]; exact he
   ·cases he
  ·cases he
 case cvBB x=>
  rw[zHN hT]
  split at he
  ·rename_i id row len cap h1
   have:h' id=h id:=hH id (by
    repeat' split at he
    all_goals first
     | (cases he; done)
     | (cases he; simp))
   rw[this]; exact he
  ·cases he
 case idx s x i=>
  obtain⟨h1,h2⟩:=mem2 hT
  rw[zHN h1,zHN h2]
  split at he
  ·rename_i p q g1 g2
   split at he
   ·rename_i j g3
    cases p with
    | sl id row len cap=>
     simp only at he ⊢
     have:h' id=h id:=hH id (by
      repeat' split at he
      all_goals first
       | (cases he; done)
       | (cases he; simp))
     rw[this]; exact he
    | imm v=>cases v <;> exact he
    | _=>exact he
   ·cases he
  ·cases he
 case nxt slot=>
  rw[hT slot (by simp)]
  have:L' slot=L slot:=hL slot (by
   repeat' split at he
   all_goals first
    | (cases he; done)
    | (cases he; simp))
  rw[this]; exact he
 all_goals first
  | (rw[zHN hT]; exact he)
  | (obtain⟨h1,h2⟩:=mem2 hT; rw[zHN h1,zHN h2]; exact he)
end
end Go.PM
