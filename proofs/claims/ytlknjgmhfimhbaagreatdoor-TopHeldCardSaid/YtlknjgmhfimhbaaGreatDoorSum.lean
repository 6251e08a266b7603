/-
  The sums of packages sum and pointsmanref7: what they compute.
-/
import Derived.Test.YtlknjgmhfimhbaaGreatDoorSl
import Derived.Test.YtlknjgmhfimhbaaGreatDoorFn
import Derived.Test.YtlknjgmhfimhbaaGreatDoorRun
set_option linter.unusedVariables false
set_option linter.unusedSimpArgs false
set_option maxHeartbeats 8000000
namespace Go.Proofs.YtlknjgmhfimhbaaGreatDoor.D
open Go Go.PM
theorem w32 {x:Nat}(h:x<2 ^ 32):IntKind.u32.wrap (x:Int)=x:=by
 simp only[IntKind.wrap,IntKind.bits,IntKind.signed]
 simp
 omega
theorem a32 {x:Nat}(h:x<2 ^ 32):zDM .and .u32 (x:Int) 1=some (.int .u32 ((x % 2:Nat):Int)):=by
 have e:(BitVec.ofInt 32 (x:Int) &&& BitVec.ofInt 32 1).toNat=x % 2:=by
  rw[BitVec.toNat_and,BitVec.ofInt_natCast,BitVec.toNat_ofNat,Nat.mod_eq_of_lt h]
  exact Nat.and_one_is_mod x
 show some (IV.int .u32 (IntKind.u32.wrap ((BitVec.ofInt 32 (x:Int) &&& BitVec.ofInt 32 1).toNat:Nat)))=_
 rw[e,w32 (by omega)]
theorem x32 {x y:Nat}(hx:x<2 ^ 32) (hy:y<2 ^ 32):zDM .xor .u32 (x:Int) (y:Int)=some (.int .u32 ((x ^^^ y:Nat):Int)):=by
 have e:(BitVec.ofInt 32 (x:Int) ^^^ BitVec.ofInt 32 (y:Int)).toNat=x ^^^ y:=by
  rw[BitVec.toNat_xor,BitVec.ofInt_natCast,BitVec.ofInt_natCast,BitVec.toNat_ofNat,BitVec.toNat_ofNat,Nat.mod_eq_of_lt hx,Nat.mod_eq_of_lt hy]
 show some (IV.int .u32 (IntKind.u32.wrap ((BitVec.ofInt 32 (x:Int) ^^^ BitVec.ofInt 32 (y:Int)).toNat:Nat)))=_
 rw[e,w32 (Nat.xor_lt_two_pow hx hy)]
theorem n32 {x:Nat}(hx:x<2 ^ 32):unOf .xor (.imm (.int .u32 (x:Int)))=some (.int .u32 ((x ^^^ 4294967295:Nat):Int)):=by
 have e:(BitVec.ofInt 32 (4294967295:Int) ^^^ BitVec.ofInt 32 (x:Int)).toNat=x ^^^ 4294967295:=by
  rw[BitVec.toNat_xor,BitVec.ofInt_natCast,BitVec.toNat_ofNat,Nat.mod_eq_of_lt hx,Nat.xor_comm]
  rfl
 show some (IV.int .u32 (IntKind.u32.wrap ((BitVec.ofInt 32 (4294967295:Int) ^^^ BitVec.ofInt 32 (x:Int)).toNat:Nat)))=_
 rw[e,w32 (Nat.xor_lt_two_pow hx (by decide))]
theorem d2 (x:Nat):Int.fdiv (x:Int) 2=((x / 2:Nat):Int):=by
 rw[Int.fdiv_eq_ediv_of_nonneg _ (by decide)]; rfl
theorem sb32:IntKind.u32.bits=32:=rfl
def I1 (H:PT HB) (n y j:Nat) (s:St):Prop:=∃ x:Nat,x<2 ^ 32∧zE0 (8 - j) x=y∧s.T.get 0=some (.imm (.int .u32 x))∧s.T.get 10=some (.imm (.int .i64 j))∧s.H=H∧s.n=n
theorem zPA {G:Nat→Option (List IV)}{K:Go.PM.Callee}{lo:Nat}{H:PT HB}{n y j:Nat}{s:St}(h:I1 H n y j s) (hj:j<8) :
  ∃ s',D.l177_0b.run G K lo ⟨keep s.T [0,10],keep s.L [],s.H,s.n⟩=some (.norm,s')∧I1 H n y (j+1) s':=by
 obtain⟨x,hx,hy,h0,h10,hH,hn⟩:=h
 rw[show 8 - j=(8 - (j+1))+1 by omega,zE2,zEy] at hy
 have hj':(j:Int)<8:=by omega
 have hw:IntKind.i64.wrap ((j:Int)+1)=(j:Int)+1:=zTW (by omega) (by omega)
 have ha:=a32 hx
 have hd:=d2 x
 by_cases h2:x % 2=1
 ·rw[if_pos h2] at hy
  rw[h2] at ha
  have hxx:zDM .xor .u32 ((x:Int) / 2) 2197175160=some (.int .u32 ((x / 2 ^^^ 2197175160:Nat):Int)):=x32 (x:=x / 2) (y:=2197175160) (by omega) (by decide)
  simp only[D.l177_0b,keep,B4,B9,reduceIte,Nat.reduceEqDiff,Nat.reduceAdd]
  simp[h0,h10,hj',hj,hw,ha,hd,hxx,sb32,B4,B9]
  refine⟨x / 2 ^^^ 2197175160,Nat.xor_lt_two_pow (n:=32) (by omega) (by decide),hy,?_,?_,hH,hn⟩ <;> simp[gP]
 ·rw[if_neg h2] at hy
  rw[show x % 2=0 by omega] at ha
  simp only[D.l177_0b,keep,B4,B9,reduceIte,Nat.reduceEqDiff,Nat.reduceAdd]
  simp[h0,h10,hj',hj,hw,ha,hd,sb32,B4,B9]
  refine⟨x / 2,by omega,hy,?_,?_,hH,hn⟩ <;> simp[gP]
theorem zKU {G:Nat→Option (List IV)}{K:Go.PM.Callee}{lo:Nat}{H:PT HB}{n y:Nat}{s:St}(h:I1 H n y 0 s):∃ s',D.l177_0.run G K lo s=some (.exit 0,s')∧s'.T.get 0=some (.imm (.int .u32 y))∧s'.H=H∧s'.n=n:=by
 obtain⟨e,s',q1,q2,rfl,q3⟩:=zJe (f:=zLU G K lo [0,10] [] D.l177_0b) (fun m s=>∃ j:Nat,I1 H n y j s∧j≤8∧m=8 - j) (fun e s'=>e=.exit 0∧s'.T.get 0=some (.imm (.int .u32 y))∧s'.H=H∧s'.n=n)
  (fun m s ⟨j,hI,hle,hm⟩=>by
   by_cases hj:j<8
   ·obtain⟨s',e1,e2⟩:=zPA (G:=G) (K:=K) (lo:=lo) hI hj
    exact .inl ⟨s',_,e1,by omega,j+1,e2,by omega,rfl⟩
   ·obtain rfl:j=8:=by omega
    obtain⟨x,hx,hy,h0,h10,hH,hn⟩:=hI
    have hy':x=y:=hy
    subst hy'
    refine .inr ⟨.exit 0,?_⟩
    simp only[zLV,D.l177_0b,keep,B4,B9,reduceIte,Nat.reduceEqDiff,Nat.reduceAdd]
    simp[h0,h10,hH,hn,B4,B9]) 8 LOOP s ⟨0,h,by omega,by omega⟩ (by unfold LOOP; omega)
 exact⟨s',q1,q3⟩
theorem zNO (G:Nat→Option (List IV)) (K:Go.PM.Callee){s c:Nat}(hs:s<2 ^ 32) (hc:c<256) (H:PT HB) (n lo:Nat) :
  D.f177.run G K [.imm (.int .u32 s),.imm (.int .u8 c)] H n lo=some (.imm (.int .u32 (zE3 s c)),H,n):=by
 have hx:=x32 hs (show c<2 ^ 32 by omega)
 have hw:=w32 (show c<2 ^ 32 by omega)
 simp only[D.f177,zHz,B4,B9,reduceIte,Nat.reduceEqDiff,Nat.reduceAdd]
 simp[hw,hx,B4,B9]
 generalize hrun:D.l177_0.run G K lo _=r
 obtain⟨s',rfl,q1,q2,q3⟩:∃ s',r=some (.exit 0,s')∧s'.T.get 0=some (.imm (.int .u32 (zE3 s c)))∧s'.H=H∧s'.n=n:=by
  rw[← hrun]
  refine zKU ⟨s ^^^ c,Nat.xor_lt_two_pow hs (by omega),(zE4 s c).symm,?_,?_,rfl,rfl⟩ <;> simp[gP]
 clear hrun
 simp[q1,q2,q3,B4,B9]
theorem zNN (G:Nat→Option (List IV)) (K:Go.PM.Callee) (args:List DV) (H:PT HB) (n lo:Nat) (r:DV×PT HB×Nat) (h:zN9 args H n lo=some r):D.f177.run G K args H n lo=some r:=by
 unfold zN9 at h
 split at h
 ·rename_i s c
  cases hb:(Nat.ble s 4294967295&&Nat.ble c 255) with
  | false=>rw[hb] at h; cases h
  | true=>
   rw[hb] at h
   simp only[Bool.and_eq_true] at hb
   have h1:=Nat.le_of_ble_eq_true hb.1
   have h2:=Nat.le_of_ble_eq_true hb.2
   simp only[cond_true,Option.some.injEq] at h
   subst h
   exact zNO G K (by omega) (by omega) H n lo
 ·cases h
def I2 (H:PT HB) (n:Nat) (f:Bool) (es:List (List IV)) (y:Nat) (v8 v9 v10:DV) (j:Nat) (s:St):Prop:=∃ x:Nat,x<2 ^ 32∧zE7 (es.drop j) x=some y∧s.T.get 3=some (.imm (.int .u32 x))∧
 s.T.get 8=some v8∧s.T.get 9=some v9∧s.T.get 10=some v10∧s.T.get 14=some (.imm (.lst f 1 es))∧s.T.get 15=some (.imm (.int .i64 es.length))∧s.T.get 16=some (.imm (.int .i64 j))∧s.H=H∧s.n=n
theorem zRs {es:List (List IV)}{x y j:Nat}(h:zE7 (es.drop j) x=some y) (hj:j<es.length):∃ c:Nat,es[j]?=some [.int .u8 c]∧c<256∧zE7 (es.drop (j+1)) (zE3 x c)=some y:=by
 rw[List.drop_eq_getElem_cons hj] at h
 obtain⟨c,h1,h2,h3⟩:=zE8 h
 exact⟨c,by rw[List.getElem?_eq_getElem hj,h1],h2,h3⟩
theorem zPB {G:Nat→Option (List IV)}{lo:Nat}{H:PT HB}{n y j:Nat}{f:Bool}{es:List (List IV)}{v8 v9 v10:DV}{s:St}(hl:es.length≤1000000) (h:I2 H n f es y v8 v9 v10 j s) (hj:j<es.length) :
  ∃ s',D.l155_1b.run G (oneK 177 zN9) lo ⟨keep s.T [3,8,9,10,14,15,16],keep s.L [],s.H,s.n⟩=some (.norm,s')∧I2 H n f es y v8 v9 v10 (j+1) s':=by
 obtain⟨x,hx,hy,h3,h8,h9,h10,h14,h15,h16,hH,hn⟩:=h
 obtain⟨c,hc1,hc2,hc3⟩:=zRs hy hj
 have hce:es[j]=[.int .u8 c]:=by rw[List.getElem?_eq_getElem hj] at hc1; exact Option.some.inj hc1
 have hj':(j:Int)<es.length:=by omega
 have hw:IntKind.i64.wrap ((j:Int)+1)=(j:Int)+1:=zTW (by omega) (by omega)
 have hK:oneK 177 zN9 177 [.imm (.int .u32 x),.imm (.int .u8 c)] .lf 0 0=some (.imm (.int .u32 (zE3 x c)),.lf,0):=by
  show zN9 [.imm (.int .u32 (.ofNat x)),.imm (.int .u8 (.ofNat c))] .lf 0 0=_
  simp only[zN9]
  rw[show Nat.ble x 4294967295=true from Nat.ble_eq_true_of_le (by omega),show Nat.ble c 255=true from Nat.ble_eq_true_of_le (by omega)]
  rfl
 simp only[D.l155_1b,keep,B4,B9,reduceIte,Nat.reduceEqDiff,Nat.reduceAdd]
 simp[h3,h8,h9,h10,h14,h15,h16,hj',hj,hw,hc1,hce,hK,imms,B4,B9]
 refine⟨zE3 x c,zE5 hx hc2,hc3,?_,?_,?_,?_,?_,?_,?_,hH,hn⟩ <;> simp[gP,h8,h9,h10,h14,h15]
theorem zKV {G:Nat→Option (List IV)}{lo:Nat}{H:PT HB}{n y:Nat}{f:Bool}{es:List (List IV)}{v8 v9 v10:DV}{s:St}(hl:es.length≤1000000) (h:I2 H n f es y v8 v9 v10 0 s) :
  ∃ s',D.l155_1.run G (oneK 177 zN9) lo s=some (.exit 2,s')∧y<2 ^ 32∧s'.T.get 3=some (.imm (.int .u32 y))∧s'.T.get 8=some v8∧s'.T.get 9=some v9∧s'.T.get 10=some v10∧s'.H=H∧s'.n=n:=by
 obtain⟨e,s',q1,q2,rfl,q3⟩:=zJe (f:=zLU G (oneK 177 zN9) lo [3,8,9,10,14,15,16] [] D.l155_1b) (fun m s=>∃ j:Nat,I2 H n f es y v8 v9 v10 j s∧j≤es.length∧m=es.length - j)
  (fun e s'=>e=.exit 2∧y<2 ^ 32∧s'.T.get 3=some (.imm (.int .u32 y))∧s'.T.get 8=some v8∧s'.T.get 9=some v9∧s'.T.get 10=some v10∧s'.H=H∧s'.n=n)
  (fun m s ⟨j,hI,hle,hm⟩=>by
   by_cases hj:j<es.length
   ·obtain⟨s',e1,e2⟩:=zPB (G:=G) (lo:=lo) hl hI hj
    exact .inl ⟨s',_,e1,by omega,j+1,e2,by omega,rfl⟩
   ·obtain rfl:j=es.length:=by omega
    obtain⟨x,hx,hy,h3,h8,h9,h10,h14,h15,h16,hH,hn⟩:=hI
    rw[List.drop_length,zE9] at hy
    cases hy
    refine .inr ⟨.exit 2,?_⟩
    simp only[zLV,D.l155_1b,keep,B4,B9,reduceIte,Nat.reduceEqDiff,Nat.reduceAdd]
    simp[h3,h8,h9,h10,h14,h15,h16,hH,hn,hx,B4,B9]) es.length LOOP s ⟨0,h,by omega,by omega⟩ (by unfold LOOP; omega)
 exact⟨s',q1,q3⟩
theorem zRu (G:Nat→Option (List IV)) (args:List DV) (H:PT HB) (n lo:Nat) (r:DV×PT HB×Nat) (h:zOC args H n lo=some r):D.f155.run G (oneK 177 zN9) args H n lo=some r:=by
 unfold zOC at h
 split at h
 ·rename_i f0 f es
  unfold zOB at h
  simp only at h
  cases hb:Nat.ble es.length 1000000 with
  | false=>rw[hb] at h; cases h
  | true=>
   rw[hb] at h
   have hl:=Nat.le_of_ble_eq_true hb
   simp only[cond_true] at h
   cases hy:zE7 es 4294967295 with
   | none=>rw[hy] at h; cases h
   | some y=>
    rw[hy] at h
    simp only[Option.some.injEq] at h
    subst h
    obtain⟨k,hL⟩:∃ k,LOOP=k+1+1:=⟨2 ^ 62 - 2,rfl⟩
    have w1:IntKind.i64.wrap 1=1:=by decide
    have key:∀ T:PT DV,T.get 3=some (.imm (.int .u32 (4294967295:Nat)))→T.get 8=some (.imm (.lst f0 1 [[.lst f 1 es]]))→T.get 9=some (.imm (.int .i64 1))→T.get 10=some (.imm (.int .i64 0))→
      T.get 14=some (.imm (.lst f 1 es))→T.get 15=some (.imm (.int .i64 es.length))→T.get 16=some (.imm (.int .i64 (0:Nat)))→∀ L,∃ s',D.l155_1.run G (oneK 177 zN9) lo ⟨T,L,H,n⟩=some (.exit 2,s')∧y<2 ^ 32∧
       s'.T.get 3=some (.imm (.int .u32 y))∧s'.T.get 8=some (.imm (.lst f0 1 [[.lst f 1 es]]))∧s'.T.get 9=some (.imm (.int .i64 1))∧s'.T.get 10=some (.imm (.int .i64 0))∧s'.H=H∧s'.n=n:=fun T h3 h8 h9 h10 h14 h15 h16 L=>
     zKV hl ⟨4294967295,by decide,hy,h3,h8,h9,h10,h14,h15,h16,rfl,rfl⟩
    simp only[D.f155,zHz,B4,B9,reduceIte,Nat.reduceEqDiff,Nat.reduceAdd]
    simp[zPt,hL,iter,zLV,keep,D.l155_0,D.l155_0b,imms,B4,B9]
    generalize hrun:D.l155_1.run G (oneK 177 zN9) lo _=r
    obtain⟨s',rfl,q0,q1,q2,q3,q4,q5,q6⟩:∃ s',r=some (.exit 2,s')∧y<2 ^ 32∧s'.T.get 3=some (.imm (.int .u32 y))∧s'.T.get 8=some (.imm (.lst f0 1 [[.lst f 1 es]]))∧s'.T.get 9=some (.imm (.int .i64 1))∧
      s'.T.get 10=some (.imm (.int .i64 0))∧s'.H=H∧s'.n=n:=by
     rw[← hrun]
     refine key _ ?_ ?_ ?_ ?_ ?_ ?_ ?_ _ <;> simp[gP]
    clear hrun
    have hxn:=n32 q0
    simp[zPt,hL,iter,zLV,keep,D.l155_0,D.l155_0b,imms,q1,q2,q3,q4,q5,q6,w1,hxn,B4,B9]
 ·cases h
end Go.Proofs.YtlknjgmhfimhbaaGreatDoor.D
