/-
  flat.Take: a loop over slices.Chunk: numbers by four, as how routes stand.
-/
import Derived.RangeFuncBox
import Derived.RangeFuncNested
import Derived.RangeFuncLeaves
import Derived.Shelf.Abstract
import Derived.WalkKit
import Derived.OwnWalkIn
import Derived.TacticsInMore
import Derived.LoopNIn
import Derived.LoopIn
import Derived.Maps.AppendAt
import Derived.Test.YtlknjgmhfimhbaaGreatDoorProg
set_option linter.unusedVariables false
set_option linter.unusedSimpArgs false
namespace Go.Proofs.YtlknjgmhfimhbaaGreatDoor.D
open Go Go.Proofs Go.RowKit Go.Shelf
attribute [local go_sem] Oper.semAt_some
structure KpC (n₀ Bs Bn:Nat) (A B:World):Prop where
 below:Below n₀ A B
 s:B.heap[Bs]?=A.heap[Bs]?
 n:B.heap[Bn]?=A.heap[Bn]?
theorem KpC.refl (n₀ Bs Bn:Nat) (A:World):KpC n₀ Bs Bn A A:=⟨.refl _ _,rfl,rfl⟩
theorem KpC.trans {n₀ Bs Bn:Nat}{A B C:World}(h:KpC n₀ Bs Bn A B) (k:KpC n₀ Bs Bn B C):KpC n₀ Bs Bn A C:=⟨h.below.trans k.below,k.s.trans h.s,k.n.trans h.n⟩
theorem KpC.put {n₀ Bs Bn:Nat}{w:World}(h0:n₀≤w.heap.size) (hs:Bs<w.heap.size) (hn:Bn<w.heap.size) (W:World) (l:Nat) (o o':Obj) (hl:w.heap.size≤l) (h:W.heap[l]?=some o) (h1:o.isCells=false) (h2:o.isWalk=false) :
  KpC n₀ Bs Bn W (W.putObj l o'):=⟨belowK_b h0 W l o o' hl h h1 h2,World.putObj_heap_other (by omega),World.putObj_heap_other (by omega)⟩
def zTF (m k:Nat):List (Fin m):=(List.finRange m).take k
theorem zTI {m k:Nat}(h:k<m):zTF m (k+1)=zTF m k++[⟨k,h⟩]:=by
 unfold zTF
 rw[List.take_add_one,List.getElem?_eq_getElem (by simpa using h)]
 simp
theorem zTH {m k:Nat}(h:k≤m):(zTF m k).length=k:=by simp[zTF,h]
theorem zTG (m:Nat):zTF m m=List.finRange m:=List.take_of_length_le (by simp)
set_option maxRecDepth 100000 in
set_option maxHeartbeats 4000000 in
theorem zEO (F:Fence) (n:Nat) (hC:F.fn 178) (hro:F.round=none) (hn:1≤n) (l Bs Bn n₀ b off cap m:Nat) (a:Option Addr) (ha:m≠0→a=some ⟨b,off,none⟩) (hcap:4*m≤cap) (hm:4*m≤100000) (J Jx:List (Fin m)→World→Prop)
  (hY:∀ pre x W,J pre W→pre.length<m→YieldAt F (n - 1) Tryz.prog l #[.slice (some ⟨b,off+4*x.1,none⟩) 4 4] W fun e W'=>
   (e=.returned (.bool true)∧J (pre++[x]) W'∧KpC n₀ Bs Bn W W')∨(e=.returned (.bool false)∧Jx (pre++[x]) W'))
  (hJd:∀ s W,J s W→J s W.drew) (W:World) (hBs:W.cell? ⟨Bs,0,none⟩=some (.slice a (4*m) cap)) (hBn:W.cell? ⟨Bn,0,none⟩=some (.int .i64 4)) (h0:J [] W) :
  CallsIn F n Tryz.prog 178 #[.func (.yield l) #[] #[],.pointer (some ⟨Bs,0,none⟩),.pointer (some ⟨Bn,0,none⟩)] W fun e W'=>(∃ v,e=.returned v)∧
   ((∃ ys,ys=List.finRange m∧J ys W')∨(∃ pre,(∃ k,k≤m∧pre=zTF m k)∧Jx pre W')):=by
 refine callsIn_of_wp Tryz.func178 rfl hC ?_ hro
 simp only[Tryz.ntmps178,List.size_toArray,List.length_cons,List.length_nil,Nat.reduceAdd,Nat.reduceSub,Array.replicate_succ,Array.replicate_zero,List.push_toArray,List.append_toArray,List.nil_append,List.cons_append]
 gi_wp2
 gi_loopw [4] (fun i wr=>∃ k:Nat,k≤m∧i=.int .i64 ((4*k:Nat):Int)∧J (zTF m k) wr∧KpC n₀ Bs Bn W wr) (fun i _=>4*m - (intOf i).toNat)
 case atStart=>exact⟨0,Nat.zero_le _,rfl,h0,.refl _ _ _ _⟩
 case round=>
  obtain⟨k,hk,rfl,hJs,hnx⟩:=hrel
  have hcs:wr.cell? ⟨Bs,0,none⟩=some (.slice a (4*m) cap):=(World.cell?_of_block hnx.s).trans hBs
  have hcn:wr.cell? ⟨Bn,0,none⟩=some (.int .i64 4):=(World.cell?_of_block hnx.n).trans hBn
  by_cases hlt:k<m
  ·obtain rfl:=ha (by omega)
   obtain⟨fn,tmps,assign,body,hy,hR⟩:=hY _ ⟨k,hlt⟩ wr.drew (hJd _ _ hJs) (by rw[zTH (by omega)]; exact hlt)
   gi_wp2
   have hmin:((4*m - 4*k:Nat):Int)<4→False:=by omega
   gi_region
   all_goals
    have e4:(if ((4*m - 4*k:Nat):Int)<4 then ((4*m - 4*k:Nat):Int) else 4)=4:=if_neg (by omega)
    rw[e4]
    gi_wp2
    refine hR.mono ?_
    rintro e W3 (⟨rfl,hJ3,hk3⟩ | ⟨rfl,hJx3⟩)
    ·have hk4:KpC n₀ Bs Bn W W3:=hnx.trans (KpC.trans ⟨(Below.refl _ _).drew,rfl,rfl⟩ hk3)
     have hcn3:W3.cell? ⟨Bn,0,none⟩=some (.int .i64 4):=(World.cell?_of_block hk4.n).trans hBn
     gi_wp2
     go_roundw
     case rel=>exact⟨k+1,by omega,by simp; omega,by rw[zTI hlt]; exact hJ3,hk4⟩
     case measure=>simp[intOf]; omega
    ·gi_wp2
     refine bodyPost_ret (results_none rfl _ _ _) rfl ?_
     exact⟨⟨_,rfl⟩,.inr ⟨_,⟨k+1,by omega,(zTI hlt).symm⟩,hJx3⟩⟩
  ·obtain rfl:k=m:=by omega
   gi_wp2
   go_end0
   exact⟨⟨_,rfl⟩,.inl ⟨_,rfl,zTG _▸hJs⟩⟩
set_option maxHeartbeats 1000000 in
theorem zEP (F:Fence) (n:Nat) (hC:F.fn 158) (hro:F.round=none) (a:Option Addr) (len cap:Nat) (w:World) :
  CallsIn F n Tryz.prog 158 #[.slice a len cap,.int .i64 4] w fun e w'=>e=.returned (.func (.func 178) #[] #[.pointer (some ⟨w.heap.size,0,none⟩),.pointer (some ⟨w.heap.size+1,0,none⟩)])∧
   w'=(w.alloc (.cells #[.slice a len cap] 37)).alloc (.cells #[.int .i64 4] 3):=by
 refine callsIn_of_wp Tryz.func158 rfl hC ?_ hro
 simp only[Tryz.ntmps158,List.size_toArray,List.length_cons,List.length_nil,Nat.reduceAdd,Nat.reduceSub,Array.replicate_succ,Array.replicate_zero,List.push_toArray,List.append_toArray,List.nil_append,List.cons_append]
 have hb:=Boxed.new (w.alloc (.cells #[.slice a len cap] 37)) 3 (.int .i64 4)
 rw[World.size_alloc] at hb
 have hbc:=hb.cell
 gi_wp2
 go_ret
 exact⟨by simp,rfl⟩
theorem zEQ (F:Fence) (n:Nat) (hC:F.fn 178) (hro:F.round=none) (hn:1≤n) (Bs Bn n₀ b off cap m:Nat) (a:Option Addr) (ha:m≠0→a=some ⟨b,off,none⟩) (hcap:4*m≤cap) (hm:4*m≤100000) (w:World)
  (hBs:Boxed w Bs 37 (.slice a (4*m) cap)) (hBn:Boxed w Bn 3 (.int .i64 4)) :
  SeqStopsK F n Tryz.prog 178 #[.pointer (some ⟨Bs,0,none⟩),.pointer (some ⟨Bn,0,none⟩)] (fun x:Fin m=>#[Value.slice (some ⟨b,off+4*x.1,none⟩) 4 4]) (KpC n₀ Bs Bn) (fun ys=>ys=List.finRange m) (fun pre=>∃ k,k≤m∧pre=zTF m k) m w:=
 fun l J Jx W hW hJ _ hY h0=>
  zEO F n hC hro hn l Bs Bn n₀ b off cap m a ha hcap hm J Jx hY (fun s W1 hs=>hJ s W1 _ none hs ⟨rfl,rfl,rfl,Nat.le_refl _,fun _ _ _=>rfl⟩ (fun r e=>by cases e)) W ((hW.cell (p:=⟨Bs,0,none⟩) hBs.lt).trans hBs.cell) ((hW.cell (p:=⟨Bn,0,none⟩) hBn.lt).trans hBn.cell) h0
end Go.Proofs.YtlknjgmhfimhbaaGreatDoor.D
