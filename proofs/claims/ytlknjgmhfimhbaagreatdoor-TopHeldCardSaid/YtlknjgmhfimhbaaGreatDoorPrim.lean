/-
  Functions that D knows by what they compute: CRC-32C a byte; a run that answers as a function's code does.
-/
import Derived.Test.YtlknjgmhfimhbaaGreatDoorRun
import Derived.Test.YtlknjgmhfimhbaaGreatDoorLaw
set_option linter.unusedVariables false
set_option linter.unusedSimpArgs false
namespace Go.PM
variable {P:Program}
theorem POk.refine{G:Nat→Option (List IV)}{f:FuncId}{g g':List DV→PT HB→Nat→Nat→Option (DV×PT HB×Nat)}(h:POk P G f g)
  (hg:∀ args H n lo r,g' args H n lo=some r→g args H n lo=some r):POk P G f g':=
 ⟨fun args H n lo v H' n' he=>h.snd args H n lo v H' n' (hg _ _ _ _ _ he),fun args H n lo v H' n' he=>h.mon args H n lo v H' n' (hg _ _ _ _ _ he),h.fun_⟩
theorem POk.refineG{G:Nat→Option (List IV)}{f:FuncId}{g g':List DV→PT HB→Nat→Nat→Option (DV×PT HB×Nat)}(h:POk P G f g)
  (hg:∀ args H n lo v H' n',g' args H n lo=some (v,H',n')→(∀ id,H.get id≠none→id<n)→∃ H'',g args H n lo=some (v,H'',n')∧H''.get=H'.get)
  (hm:∀ args H n lo v H' n',g' args H n lo=some (v,H',n')→Mon n n' H.get H'.get):POk P G f g':=
 ⟨fun args H n lo v H' n' he hlo hH=>by
  obtain⟨H'',e1,e2⟩:=hg _ _ _ _ _ _ _ he hH
  rw[← e2]
  exact h.snd args H n lo v H'' n' e1 hlo hH,hm,h.fun_⟩
def noK:Go.PM.Callee:=fun _ _ _ _ _=>none
theorem zMW{G:Nat→Option (List IV)}:KOk P G noK:=⟨by intros; simp[noK] at *,by intros; simp[noK] at *,by intros; simp[noK] at *⟩
noncomputable def zEx (x:Nat):Nat:=fN x fun x=>bif Nat.beq (Nat.land x 1) 1 then Nat.xor (Nat.div x 2) 2197175160 else Nat.div x 2
noncomputable def zE0:Nat→Nat→Nat:=fun k=>Nat.rec (motive:=fun _=>Nat→Nat) (fun x=>x) (fun _ f x=>fN (zEx x) f) k
noncomputable def zE3 (s c:Nat):Nat:=fN (Nat.xor s c) (zE0 8)
noncomputable def zN9 (args:List DV) (H:PT HB) (n lo:Nat):Option (DV×PT HB×Nat):=match args with
 | [.imm (.int .u32 (.ofNat s)),.imm (.int .u8 (.ofNat c))]=>bif Nat.ble s 4294967295&&Nat.ble c 255 then some (.imm (.int .u32 (.ofNat (zE3 s c))),H,n) else none
 | _=>none
theorem zEy (x:Nat):zEx x=if x % 2=1 then (x / 2) ^^^ 2197175160 else x / 2:=by
 rw[zEx,zHU]
 have e:Nat.land x 1=x % 2:=by
  show x &&& 1=x % 2
  exact Nat.and_one_is_mod x
 have e2:Nat.div x 2=x / 2:=rfl
 rw[e,e2]
 by_cases h:x % 2=1
 ·rw[if_pos h,h]; rfl
 ·rw[if_neg h]
  have:Nat.beq (x % 2) 1=false:=by
   cases hb:Nat.beq (x % 2) 1 with
   | false=>rfl
   | true=>exact absurd (Nat.eq_of_beq_eq_true hb) h
  rw[this]; rfl
theorem zE2 (k x:Nat):zE0 (k+1) x=zE0 k (zEx x):=by
 show fN (zEx x) (zE0 k)=_
 rw[zHU]
theorem zEz {x:Nat}(h:x<2 ^ 32):zEx x<2 ^ 32:=by
 rw[zEy]
 split
 ·exact Nat.xor_lt_two_pow (by omega) (by decide)
 ·omega
theorem zE1:∀ (k:Nat){x:Nat},x<2 ^ 32→zE0 k x<2 ^ 32
 | 0,x,h=>h
 | k+1,x,h=>by rw[zE2]; exact zE1 k (zEz h)
theorem zE4 (s c:Nat):zE3 s c=zE0 8 (s ^^^ c):=by rw[zE3,zHU]; rfl
theorem zE5 {s c:Nat}(h:s<2 ^ 32) (hc:c<256):zE3 s c<2 ^ 32:=by
 rw[zE4]; exact zE1 8 (Nat.xor_lt_two_pow h (by omega))
noncomputable def zFC (e:List IV) (s:Nat) (f:Nat→Option Nat):Option Nat:=match e with
 | [.int .u8 (.ofNat c)]=>bif Nat.ble c 255 then fN (zE3 s c) f else none
 | _=>none
noncomputable def zE7 (es:List (List IV)):Nat→Option Nat:=List.rec (motive:=fun _=>Nat→Option Nat) (fun s=>some s) (fun e _ f s=>zFC e s f) es
noncomputable def zOB (args:List DV) (H:PT HB) (n lo:Nat):Option (DV×PT HB×Nat):=match args with
 | [.imm (.lst _ 1 es)]=>bif Nat.ble es.length 1000000 then (match zE7 es 4294967295 with
  | some s=>some (.imm (.int .u32 (.ofNat (Nat.xor s 4294967295))),H,n)
  | none=>none) else none
 | _=>none
noncomputable def zOC (args:List DV) (H:PT HB) (n lo:Nat):Option (DV×PT HB×Nat):=match args with
 | [.imm (.lst _ 1 [[.lst f 1 es]])]=>zOB [.imm (.lst f 1 es)] H n lo
 | _=>none
theorem zE9 (s:Nat):zE7 [] s=some s:=rfl
theorem zE8 {e:List IV}{es:List (List IV)}{s y:Nat}(h:zE7 (e::es) s=some y):∃ c:Nat,e=[.int .u8 c]∧c<256∧zE7 es (zE3 s c)=some y:=by
 have h':zFC e s (zE7 es)=some y:=h
 clear h
 unfold zFC at h'
 split at h'
 ·rename_i c
  cases hb:Nat.ble c 255 with
  | false=>rw[hb] at h'; cases h'
  | true=>
   rw[hb] at h'
   refine⟨c,rfl,by have:=Nat.le_of_ble_eq_true hb; omega,?_⟩
   simp only[cond_true,zHU] at h'
   exact h'
 ·cases h'
noncomputable def numL (m:Nat):Nat→List (List DV):=fun k=>Nat.rec (motive:=fun _=>List (List DV)) [] (fun r l=>[.imm (.int .u8 (.ofNat (Nat.mod (Nat.div m (Nat.pow 256 r)) 256)))]::l) k
noncomputable def zOA (args:List DV) (H:PT HB) (n lo:Nat):Option (DV×PT HB×Nat):=match args with
 | [x,.imm (.int .u64 (.ofNat m)),.imm (.int .i64 (.ofNat k))]=>bif Nat.ble 1 k&&Nat.ble k 8&&Nat.ble m 18446744073709551615&&Nat.ble lo n then (match x with
   | .imm .nils=>some (.sl (n+k - 1) 0 k k,H.put (n+k - 1) (some ⟨1,numL m k⟩),n+k)
   | .sl id 0 len cap=>(match H.get id with
    | some hb=>bif Nat.beq hb.sz 1&&Nat.beq len hb.rows.length&&Nat.beq cap len&&Nat.ble lo id&&Nat.ble len 1000000 then
      some (.sl (n+k - 1) 0 (len+k) (len+k),(H.put id none).put (n+k - 1) (some ⟨1,hb.rows++numL m k⟩),n+k) else none
    | none=>none)
   | _=>none) else none
 | _=>none
theorem zMo (m r:Nat):numL m (r+1)=[.imm (.int .u8 ((m / 256 ^ r % 256:Nat):Int))]::numL m r:=rfl
theorem zMn (m:Nat):∀ k,(numL m k).length=k
 | 0=>rfl
 | k+1=>by rw[zMo,List.length_cons,zMn m k]
theorem zMm (m:Nat):∀ (k i:Nat),i<k→(numL m k)[i]?=some [.imm (.int .u8 ((m / 256 ^ (k - 1 - i) % 256:Nat):Int))]
 | k+1,0,_=>rfl
 | k+1,i+1,h=>by
  rw[zMo,List.getElem?_cons_succ,zMm m k i (by omega),show k - 1 - i=k+1 - 1 - (i+1) by omega]
noncomputable def zR8 (e:List IV) (z:Nat) (f:Nat→Option Nat):Option Nat:=match e with
 | [.int .u8 (.ofNat c)]=>bif Nat.ble c 255 then fN (Nat.add (Nat.mul z 256) c) f else none
 | _=>none
noncomputable def zRy (es:List (List IV)):Nat→Nat→Option Nat:=List.rec (motive:=fun _=>Nat→Nat→Option Nat) (fun k z=>bif Nat.beq k 0 then some z else none)
 (fun e _ f k z=>Nat.rec (motive:=fun _=>Option Nat) (some z) (fun k' _=>zR8 e z (f k')) k) es
noncomputable def zOE (args:List DV) (H:PT HB) (n lo:Nat):Option (DV×PT HB×Nat):=match args with
 | [.imm (.lst f 1 es),.imm (.int .i64 (.ofNat k))]=>bif Nat.ble 1 k&&Nat.ble k 8&&Nat.ble es.length 1000000 then
   (bif Nat.ble k es.length then (match zRy es k 0 with
    | some z=>some (.tup [.imm (.int .u64 (.ofNat z)),.imm (.lst f 1 (es.drop k)),.imm (.bool true)],H,n)
    | none=>none)
   else some (.tup [.imm (.int .u64 0),.imm .nils,.imm (.bool false)],H,n)) else none
 | _=>none
theorem zR1 (es:List (List IV)) (z:Nat):zRy es 0 z=some z:=by cases es <;> rfl
theorem zRz {es:List (List IV)}{k z y:Nat}(h:zRy es (k+1) z=some y):∃ c t,es=[.int .u8 (c:Nat)]::t∧c<256∧zRy t k (z*256+c)=some y:=by
 cases es with
 | nil=>cases h
 | cons e t=>
  have h':zR8 e z (zRy t k)=some y:=h
  clear h
  unfold zR8 at h'
  split at h'
  ·rename_i c
   cases hb:Nat.ble c 255 with
   | false=>rw[hb] at h'; cases h'
   | true=>
    rw[hb] at h'
    simp only[cond_true,zHU] at h'
    exact⟨c,t,rfl,by have:=Nat.le_of_ble_eq_true hb; omega,h'⟩
  ·cases h'
def oneK (f0:FuncId) (g:List DV→PT HB→Nat→Nat→Option (DV×PT HB×Nat)):Go.PM.Callee:=fun f args H n lo=>if f=f0 then g args H n lo else none
theorem zNJ{G:Nat→Option (List IV)}{f0:FuncId}{g:List DV→PT HB→Nat→Nat→Option (DV×PT HB×Nat)}(h:POk P G f0 g):KOk P G (oneK f0 g):=by
 refine⟨fun f args H n lo v H' n' he=>?_,fun f args H n lo v H' n' he=>?_,fun f args H n lo r he=>?_⟩ <;> unfold oneK at he <;> split at he
 ·rename_i e; subst e; exact h.snd args H n lo v H' n' he
 ·cases he
 ·rename_i e; subst e; exact h.mon args H n lo v H' n' he
 ·cases he
 ·rename_i e; subst e; exact h.fun_
 ·cases he
def zPL:List DV→Option Int
 | [.imm (.int .i64 z)]=>some z
 | _=>none
def zR2:List Int→Option (List (List IV))
 | m::t::g::s::r=>if s=0∨s=1 then (zR2 r).map ([.int .i64 m,.int .i64 t,.int .i64 g,.bool (s==1)]::·) else none
 | _=>some []
def zSB:Option (List (List IV))→IV×Bool
 | some []=>(.nils,true)
 | some (r::rs)=>(.lst false 4 (r::rs),true)
 | none=>(.nils,false)
def zR6 (zs:List Int):IV×Bool:=if zs.length % 4≠0 then (.nils,false) else zSB (zR2 zs)
def zOD (args:List DV) (H:PT HB) (n lo:Nat):Option (DV×PT HB×Nat):=match args with
 | [v]=>match zPV H.get v with
  | some (_,sz,rows)=>match mapO zPL rows with
   | some zs=>if (sz=1∨zs=[])∧zs.length≤100000 then some (.tup [.imm (zR6 zs).1,.imm (.bool (zR6 zs).2)],H,n) else none
   | none=>none
  | none=>none
 | _=>none
end Go.PM
