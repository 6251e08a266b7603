/-
  A law's row where package unicode/utf8's two tables are laid: what they hold, as D reads it.
-/
import Derived.Test.YtlknjgmhfimhbaaGreatDoorLaw
import Derived.Lay
import Derived.LaidMore
import Derived.Lib.LaidU8
import Derived.SevenTiedAt
import Derived.Stop.Joined
set_option linter.unusedVariables false
set_option linter.unusedSimpArgs false
namespace Go.PM
open Go.Lib
def firstCells:List IV:=firstTab.map fun z=>.int .u8 z
def zBt:List IV:=(List.range 16).flatMap fun i=>[.int .u8 (accLo i:Int),.int .u8 (accHi i:Int)]
def zFj (gf ga:Nat):Nat→Option (List IV):=fun g=>if g=gf then some firstCells else if g=ga then some zBt else none
def zFk (P:Program) (gf ga:Nat):Bool:=
 (P.globalNamed "unicode/utf8.first" == some gf) && (P.globalNamed "unicode/utf8.acceptRanges" == some ga) &&
 (match (P.globals[gf]?).map (·.type) with
 | some tf=>match P.underlying tf with
  | some (.array 256 te)=>(match P.underlying te with | some (.int .u8)=>P.cellsOf te==1&&P.cellsOf tf==256 | _=>false)
  | _=>false
 | none=>false) &&
 (match (P.globals[ga]?).map (·.type) with
 | some ta=>match P.underlying ta with
  | some (.array 16 ts)=>(match P.underlying ts with
   | some (.struct fs)=>fs.size==2&&P.cellsOf ts==2&&(match fs[0]?,fs[1]? with
    | some f0,some f1=>f0.offset==0&&f1.offset==1&&P.cellsOf f0.type==1&&P.cellsOf f1.type==1 &&
     (match P.underlying f0.type,P.underlying f1.type with | some (.int .u8),some (.int .u8)=>true | _,_=>false)
    | _,_=>false)
   | _=>false)
  | _=>false
 | none=>false)
variable {P:Program} {ga gf:Nat} {w:World}
theorem zFm (h : zFk P gf ga = true) (h3 : VarReads P w "unicode/utf8.first" firstData) (c : Nat) (hc : c < 256) : w.cell? ⟨gf, c, none⟩ = some (.int .u8 (firstT c)) := by
 unfold zFk at h
 simp only[Bool.and_eq_true,beq_iff_eq] at h
 obtain⟨⟨⟨h1,_⟩,h2⟩,_⟩:=h
 obtain⟨g,t,cs,fuel,p,hg,hty,hvar,hd⟩:=h3
 obtain rfl:=Option.some.inj (h1.symm.trans hg)
 rw[hty] at h2
 simp only at h2
 split at h2
 ·rename_i te ht
  split at h2
  ·rename_i he
   simp only[Bool.and_eq_true,beq_iff_eq] at h2
   have hcs:=cells_of_tab ht he h2.1 h2.2 hd
   have:=World.var?_cell hg hvar c
   rw[this,← Array.getElem?_toList,hcs]
   simp[firstTab,hc]
  ·cases h2
 ·cases h2
theorem zFl (h : zFk P gf ga = true) (h4 : VarReads P w "unicode/utf8.acceptRanges" acceptData) (i : Nat) (hi : i < 16) :
  w.cell? ⟨ga,2*i,none⟩=some (.int .u8 (accLo i))∧w.cell? ⟨ga,2*i+1,none⟩=some (.int .u8 (accHi i)):=by
 unfold zFk at h
 simp only[Bool.and_eq_true,beq_iff_eq] at h
 obtain⟨⟨⟨_,h1⟩,_⟩,h2⟩:=h
 obtain⟨g,t,cs,fuel,p,hg,hty,hvar,hd⟩:=h4
 obtain rfl:=Option.some.inj (h1.symm.trans hg)
 rw[hty] at h2
 simp only at h2
 split at h2
 ·rename_i ts ht
  split at h2
  ·rename_i fs hs
   simp only[Bool.and_eq_true,beq_iff_eq] at h2
   obtain⟨⟨z1,z2⟩,z3⟩:=h2
   split at z3
   ·rename_i f0 f1 hf0 hf1
    simp only[Bool.and_eq_true,beq_iff_eq] at z3
    obtain⟨⟨⟨⟨o0,o1⟩,c0⟩,c1⟩,hu⟩:=z3
    split at hu
    ·rename_i hu0 hu1
     obtain⟨fuel',d,q,hdi,he⟩:=array_elem ht hd i hi
     simp only[List.getElem?_map,List.getElem?_range hi,Option.map_some,Option.some.injEq] at hdi
     subst hdi
     rw[z2] at he
     have hcs:=ints_of_struct hs (fun j f hj=>by
      match j,hj with
      | 0,hj=>rw[hf0] at hj; cases hj; exact⟨hu0,o0,c0⟩
      | 1,hj=>rw[hf1] at hj; cases hj; exact⟨hu1,o1,c1⟩
      | j+2,hj=>
       have:=(Array.getElem?_eq_some_iff.1 hj).1
       omega) (by rw[z2,z1]) he
     have e0:=congrArg (·[0]?) hcs
     have e1:=congrArg (·[1]?) hcs
     simp only[List.getElem?_take,List.getElem?_drop] at e0 e1
     constructor
     ·rw[World.var?_cell hg hvar (2*i),← Array.getElem?_toList]
      simpa [Nat.mul_comm] using e0
     ·rw[World.var?_cell hg hvar (2*i+1),← Array.getElem?_toList]
      simpa [Nat.mul_comm] using e1
    ·cases hu
   ·cases z3
  ·cases h2
 ·cases h2
theorem zOq {σ:Sig}{g:Nat}{cells:List IV}(h:∀ (j:Nat) c,cells[j]?=some c→∃ k z,c=.int k z∧σ.cell ⟨g,j,none⟩=some (.int k z)):RepI σ (.cref cells) (.pointer (some ⟨g,0,none⟩)):=by
 refine .cref (fun j=>match cells[j]? with | some (.int k z)=>.int k z | _=>.bool false) (fun j c hc=>?_) (fun j c hc=>?_)
 ·obtain⟨k,z,rfl,hz⟩:=h j c hc
  simp only[hc]
  have e:Addr.add ⟨g,0,none⟩ j=⟨g,j,none⟩:=by
   unfold Addr.add
   split
   ·rename_i e0; rw[show j=0 by simpa using e0]
   ·simp
  rw[e]
  exact hz
 ·obtain⟨k,z,rfl,hz⟩:=h j c hc
  simp only[hc]
  exact .int
theorem zFn (h : zFk P gf ga = true) (h3 : VarReads P w "unicode/utf8.first" firstData) (h4 : VarReads P w "unicode/utf8.acceptRanges" acceptData) : GRel (zQx w) (zFj gf ga) := by
 intro g cells hg
 unfold zFj at hg
 split at hg
 ·rename_i e
  cases hg; subst e
  refine zOq fun j c hc=>?_
  have hj:j<256:=by
   have:=(List.getElem?_eq_some_iff.1 hc).1
   simpa [firstCells,firstTab] using this
  have:firstCells[j]?=some (.int .u8 (firstT j)):=by simp[firstCells,firstTab,hj]
  rw[this] at hc; cases hc
  exact⟨_,_,rfl,zQy (zFm h h3 j hj)⟩
 ·split at hg
  ·rename_i e
   cases hg; subst e
   refine zOq fun j c hc=>?_
   have hlen:zBt.length=32:=by decide
   have hj:j<32:=by
    have:=(List.getElem?_eq_some_iff.1 hc).1
    rw[hlen] at this; exact this
   have key:∀ i,i<16→zBt[2*i]?=some (.int .u8 (accLo i:Int))∧zBt[2*i+1]?=some (.int .u8 (accHi i:Int)):=fun i hi=>by
    have hall:i=0∨i=1∨i=2∨i=3∨i=4∨i=5∨i=6∨i=7∨i=8∨i=9∨i=10∨i=11∨i=12∨i=13∨i=14∨i=15:=by omega
    rcases hall with rfl | rfl | rfl | rfl | rfl | rfl | rfl | rfl | rfl | rfl | rfl | rfl | rfl | rfl | rfl | rfl <;> exact⟨rfl,rfl⟩
   obtain⟨i,rfl | rfl⟩:∃ i,j=2*i∨j=2*i+1:=⟨j / 2,by omega⟩
   ·have hi:i<16:=by omega
    rw[(key i hi).1] at hc; cases hc
    exact⟨_,_,rfl,zQy (zFl h h4 i hi).1⟩
   ·have hi:i<16:=by omega
    rw[(key i hi).2] at hc; cases hc
    exact⟨_,_,rfl,zQy (zFl h h4 i hi).2⟩
  ·cases hg
theorem zHg:Pinned.utf8First=firstData:=by kernel_rfl
theorem zFo (h : zFk P gf ga = true) {l : List (String × DataW Unit)} {A : DataW Unit} (hA : A = acceptData) (hl : l = [("unicode/utf8.acceptRanges", A), ("unicode/utf8.first", Pinned.utf8First)])
  (hL:laidMetH P l w):GRel (zQx w) (zFj gf ga):=by
 subst hA hl
 rw[MakeChecks.laidMetH_plain _ _ _ (by rw[zHg]; rfl)] at hL
 rw[zHg] at hL
 exact zFn h (laidMet.reads hL (.tail _ (.head _))) (laidMet.reads hL (.head _))
end Go.PM
