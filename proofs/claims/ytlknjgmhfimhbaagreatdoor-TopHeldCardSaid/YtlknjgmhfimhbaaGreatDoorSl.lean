/-
  Rows that nobody writes, as lists.
-/
import Derived.Test.YtlknjgmhfimhbaaGreatDoorRun
set_option linter.defProp false
set_option linter.unusedVariables false
set_option linter.unusedSimpArgs false
namespace Go.PM
def Sl (sz:Nat) (v:IV) (es:List (List IV)):Prop:=(v=.nils∧es=[])∨∃ f,v=.lst f sz es
theorem Sl.len {sz:Nat}{v:IV}{es:List (List IV)}(h:Sl sz v es):lenOf (.imm v)=some es.length:=by
 rcases h with⟨rfl,rfl⟩ | ⟨f,rfl⟩ <;> rfl
theorem Sl.scal {sz:Nat}{v:IV}{es:List (List IV)}(h:Sl sz v es):(DV.imm v).scal=true:=by
 rcases h with⟨rfl,rfl⟩ | ⟨f,rfl⟩ <;> rfl
def nth {α:Type}[Inhabited α] (xs:List α) (i:Nat):α:=xs.getD i default
theorem zMh {α:Type}[Inhabited α] {xs:List α}{i:Nat}(h:i<xs.length):xs[i]?=some (nth xs i):=by
 simp[nth,List.getElem?_eq_getElem h]
theorem zMi {α:Type}[Inhabited α] {xs:List α}{i:Nat}(h:i<xs.length):nth xs i∈xs:=List.mem_of_getElem? (zMh h)
theorem zL2 {α:Type}[Inhabited α] {xs:List α}{x:α}(h:x∈xs):∃ i,i<xs.length∧nth xs i=x:=by
 obtain⟨i,hi⟩:=List.getElem?_of_mem h
 have hl:=(List.getElem?_eq_some_iff.1 hi).1
 rw[zMh hl] at hi
 exact⟨i,hl,Option.some.inj hi⟩
theorem ai {p q:Prop}(a:p) (b:q):p∧q:=⟨a,b⟩
def B1:=ai (ai (ai (ai (ai @zMa @zMb) (ai @zMZ (ai @zMY @zMd))) (ai (ai @zMc @zMe) (ai @zMR (ai @zMQ @zMT)))) (ai (ai (ai @zMS @zDD) (ai @zDL (ai @zDJ @zNe))) (ai (ai @zNk @zNf) (ai @zNm (ai @zNl @zKE))))) (ai (ai (ai (ai @zKD @zKF) (ai @zQS (ai @zS6 @zS5))) (ai (ai @zNg @zNh) (ai @zNj (ai @zEL @zEM)))) (ai (ai (ai @zEN @zEK) (ai @zQT (ai @zQR @zQZ))) (ai (ai @zQW @zQV) (ai @zQU (ai @zQX @zQY)))))
def B2:=ai (ai @zD0 (ai @zD3 @zD1)) (ai (ai @zOL @zOJ) (ai @zOH @zOG))
def B4:=ai (ai (ai (ai (ai B1 @zP2) (ai @zPj @zPi)) (ai (ai @zPz @zP0) (ai @zPk @zP4))) (ai (ai (ai @zP1 @zPo) (ai @zSb @zSc)) (ai (ai @zSa @zEF) (ai @zEE @zDj)))) (ai (ai (ai (ai @zDk @zDi) (ai @zOb @zOa)) (ai (ai @zNc @zNb) (ai @zNa @zNZ))) (ai (ai (ai @zEA @zOu) (ai @zOv @zDE)) (ai (ai @zDK @zDI) (ai @zDH (ai @zDG @zDF)))))
def B5:=ai B4 B2
def B0:=ai (ai (ai (ai (ai (ai @zHu.eq_1 (ai @zCi.eq_1 @zCi.eq_2)) (ai @zNP.eq_1 (ai @gP @ev.eq_1))) (ai (ai @ev.eq_2 (ai @ev.eq_3 @ev.eq_4)) (ai @evs.eq_1 (ai @evs.eq_2 @evO.eq_1)))) (ai (ai (ai @evO.eq_2 (ai @give.eq_1 @giveI.eq_1)) (ai @zDN.eq_1 (ai @zDN.eq_2 @zDN.eq_3))) (ai (ai @zDN.eq_4 (ai @zDN.eq_5 @zDN.eq_6)) (ai @zDN.eq_7 (ai @zDN.eq_8 @zDN.eq_9))))) (ai (ai (ai (ai @zDN.eq_10 (ai @zDN.eq_11 @zDN.eq_12)) (ai @zDN.eq_13 (ai @zDN.eq_14 @zDN.eq_15))) (ai (ai @zDN.eq_16 (ai @zJR.eq_1 @zJR.eq_2)) (ai @zJR.eq_3 (ai @zJR.eq_4 @zJR.eq_5)))) (ai (ai (ai @flip.eq_1 (ai @putT.eq_1 @putT.eq_2)) (ai @putL.eq_1 (ai @putL.eq_2 @putH.eq_1))) (ai (ai @putH.eq_2 (ai @zKP.eq_1 @zKP.eq_2)) (ai (ai @zKP.eq_3 @zKP.eq_4) (ai @zRh.eq_1 @zRh.eq_2)))))) (ai (ai (ai (ai (ai @zRh.eq_3 (ai @cut.eq_1 @over.eq_1)) (ai @zMy.eq_1 (ai @zMy.eq_2 @zCl.eq_1))) (ai (ai @zCl.eq_2 (ai @zMF.eq_1 @zMF.eq_2)) (ai @calm.eq_1 (ai @zES.eq_1 @Acc.clash.eq_1)))) (ai (ai (ai @Acc.clash.eq_2 (ai @Acc.clash.eq_3 @Acc.clash.eq_4)) (ai @Acc.clash.eq_5 (ai @Acc.clash.eq_6 @Acc.clash.eq_7))) (ai (ai @Acc.clash.eq_8 (ai @Acc.clash.eq_9 @Acc.clash.eq_10)) (ai @Acc.clash.eq_11 (ai @Acc.clash.eq_12 @Acc.clash.eq_13))))) (ai (ai (ai (ai @Acc.clash.eq_14 (ai @Acc.clash.eq_15 @Acc.clash.eq_16)) (ai @zOy.eq_1 (ai @zOy.eq_2 @zOs.eq_1))) (ai (ai @zOs.eq_2 (ai @frz.eq_1 @frz.eq_2)) (ai @frz.eq_3 (ai @frz.eq_4 @frz.eq_5)))) (ai (ai (ai @frz.eq_6 (ai @frz.eq_7 @frz.frzs.eq_1)) (ai @frz.frzs.eq_2 (ai @DV.flat.eq_1 @DV.flat.eq_2))) (ai (ai @DV.flat.eq_3 (ai @DV.flat.eq_4 @DV.flat.eq_5)) (ai (ai @DV.flat.eq_6 @DV.flat.eq_7) (ai @DV.flat.flats.eq_1 @DV.flat.flats.eq_2))))))
def B8:=ai (ai (ai (ai (ai B0 (ai @zGm.eq_1 @zGm.eq_2)) (ai @zGm.eq_3 (ai @zGm.eq_4 @zGm.eq_5))) (ai (ai @zGm.eq_6 (ai @zGm.eq_7 @zGm.eq_8)) (ai (ai @zGm.eq_9 @zGm.eq_10) (ai @zGm.eq_11 @zGm.eq_12)))) (ai (ai (ai @zGm.eq_13 (ai @zGm.eq_14 @zGm.eq_15)) (ai @zGm.eq_16 (ai @zGm.eq_17 @zGm.eq_18))) (ai (ai @zGm.eq_19 (ai @zGm.eq_20 @zGm.eq_21)) (ai (ai @zGm.eq_22 @zGm.eq_23) (ai @zGm.eq_24 @zGm.eq_25))))) (ai (ai (ai (ai @zGm.eq_26 (ai @zGm.eq_27 @zGm.eq_28)) (ai @zGm.eq_29 (ai @zGm.eq_30 @zGm.eq_31))) (ai (ai @zGm.eq_32 (ai @zGm.eq_33 @zGm.eq_34)) (ai (ai @zGm.eq_35 @zGm.eq_36) (ai @zGm.eq_37 @zGm.eq_38)))) (ai (ai (ai @zGm.eq_39 (ai @zGm.eq_40 @zGm.eq_41)) (ai (ai @zGm.eq_42 @zDO.eq_1) (ai @zDO.eq_2 @zDO.eq_3))) (ai (ai @zDO.eq_4 (ai @ansT.eq_1 @ansT.eq_2)) (ai (ai @List.length_cons.{0} @List.length_nil.{0}) (ai @Option.map_none.{0,0} @Option.map_some.{0,0})))))
def B9:=ai (ai (ai (ai B8 @zDz.eq_1) (ai @zDz.eq_2 (ai @zDz.eq_3 @zDz.eq_4))) (ai (ai @zDz.eq_5 @zDz.eq_6) (ai @snap.eq_1 (ai @snap.eq_2 @snap.eq_3)))) (ai (ai (ai @snap.eq_4 @snap.eq_5) (ai @snap.snaps.eq_1 (ai @snap.snaps.eq_2 @DV.pure.eq_1))) (ai (ai @DV.pure.eq_2 @DV.pure.eq_3) (ai @DV.pure.eq_4 (ai @DV.pure.pures.eq_1 @DV.pure.pures.eq_2))))
end Go.PM
