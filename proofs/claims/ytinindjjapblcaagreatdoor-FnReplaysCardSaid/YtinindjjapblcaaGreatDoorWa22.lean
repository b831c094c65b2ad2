/-
  The last nomination for a contract and an hour: slices.Backward, and lastNomination of the program.
-/
import Derived.RangeFuncNested
import Derived.RangeFuncBound
import Derived.RangeFuncCalls
import Derived.RangeFuncLeaves
import Derived.Shelf.Abstract
import Derived.WalkKit
import Derived.OwnWalkIn
import Derived.TacticsInMore
import Derived.LoopNIn
import Derived.LoopIn
import Derived.Test.YtinindjjapblcaaGreatDoorWa05
namespace Go.Proofs.YtinindjjapblcaaGreatDoor
open Go.RowKit Go.Shelf
attribute [local go_sem] Oper.semAt_some
def nomV (p:Nomination):Value:= .agg #[.int .i64 p.contract,.int .i64 p.hour,.int .i64 p.sent,.int .i64 p.amount]
def bwL (L:List Nomination) (r:Nat):List (Nat×Nomination):=(List.range (L.length-r)).map fun j=>(L.length-1-j,(L[L.length-1-j]?).getD ⟨0,0,0,0⟩)
theorem bwL_step {L:List Nomination} {m:Nat} {p:Nomination} (h:L[m]? =some p):bwL L m=bwL L (m+1)++[(m,p)]:=by
 have hm:=(List.getElem?_eq_some_iff.1 h).1
 unfold bwL
 rw [show L.length-m=(L.length-(m+1))+1 by omega,List.range_succ,List.map_append,List.map_singleton,show L.length-1-(L.length-(m+1))=m by omega,h]
 rfl
theorem bwL_all (L:List Nomination):bwL L L.length=[]:=by simp [bwL]
theorem bwL_len (L:List Nomination) (r:Nat):(bwL L r).length=L.length-r:=by simp [bwL]
abbrev FW:Fence:=Fence.wide
set_option maxRecDepth 100000 in
set_option maxHeartbeats 4000000 in
theorem bw1_in (n:Nat) (hn:1≤n) (l Bs n₀ b off len cap:Nat) (L:List Nomination) (hlen:len=L.length) (hcap:len≤cap) (hmax:cap≤9223372036854775807) (hBn:Bs<n₀) (hb:b<n₀) (J Jx:List (Nat×Nomination)→World→Prop)
  (hY:∀pre x W,J pre W→pre.length<len→YieldAt FW (n-1) Tryz.prog l #[.int .i64 (x.1:Int),nomV x.2] W fun e W'=>
   (e= .returned (.bool true)∧J (pre++[x]) W'∧Below n₀ W W')∨(e= .returned (.bool false)∧Jx (pre++[x]) W'))
  (W:World) (hBs:W.cell? ⟨Bs,0,none⟩=some (.slice (some ⟨b,off,none⟩) len cap)) (hc:∀(i:Nat) (x:Nomination),L[i]? =some x→∀(j:Nat) (u:Value),x.cells[j]? =some u→W.cell? ⟨b,off+i*4+j,none⟩=some u) (h0:J [] W):
  CallsIn FW n Tryz.prog 195 #[.func (.yield l) #[] #[],.pointer (some ⟨Bs,0,none⟩)] W fun e W'=>(∃v,e= .returned v)∧
   ((∃ys,ys=bwL L 0∧J ys W')∨(∃pre,(∃r,r≤len∧pre=bwL L r)∧Jx pre W')):=by
 have HL:=hide hlen
 clear hlen
 refine callsIn_of_wp Tryz.func195 rfl trivial ?_ rfl
 simp only [Tryz.ntmps195,List.size_toArray,List.length_cons,List.length_nil,Nat.reduceAdd,Nat.reduceSub,Array.replicate_succ,Array.replicate_zero,List.push_toArray,List.append_toArray,List.nil_append,List.cons_append]
 gi_wp2
 gi_loopw [3] (fun i wr=>∃(r:Nat) (z:Int),r≤len∧i= .int .i64 z∧z+1≤(r:Int)∧(r:Int)≤z+1∧J (bwL L r) wr∧Below n₀ W wr) (fun i _=>(intOf i+1).toNat)
 case atStart=>exact ⟨len,_,Nat.le_refl _,rfl,by omega,by omega,by rw [HL.out,bwL_all]; exact h0,Below.refl _ _⟩
 case round=>
  obtain ⟨r,z,hr,rfl,hz1,hz2,hJs,hnx⟩:=hrel
  have hBx:wr.cell? ⟨Bs,0,none⟩=some (.slice (some ⟨b,off,none⟩) len cap):=(hnx.cell (p:=⟨Bs,0,none⟩) hBn).trans hBs
  cases r with
  | zero=>
   obtain rfl:z= -1:=by omega
   gi_wp2
   go_end0
   exact ⟨⟨_,rfl⟩,.inl ⟨_,rfl,hJs⟩⟩
  | succ m=>
   obtain rfl:z=(m:Int):=by omega
   have hmL:m<L.length:=by rw [←HL.out]; omega
   have hxm:L[m]? =some L[m]:=List.getElem?_eq_getElem hmL
   generalize hpp:L[m]=p at hxm
   clear hpp
   have HX:=hide hxm
   have hm:m<len:=by omega
   obtain ⟨fn,tmps,assign,body,hy,hR⟩:=hY _ (m,p) wr hJs (by rw [bwL_len, ←HL.out]; omega)
   dsimp only [nomV] at hy
   have k0:=(hnx.cell (p:=⟨b,off+m*4+0,none⟩) hb).trans (hc m p hxm 0 _ rfl)
   have k1:=(hnx.cell (p:=⟨b,off+m*4+1,none⟩) hb).trans (hc m p hxm 1 _ rfl)
   have k2:=(hnx.cell (p:=⟨b,off+m*4+2,none⟩) hb).trans (hc m p hxm 2 _ rfl)
   have k3:=(hnx.cell (p:=⟨b,off+m*4+3,none⟩) hb).trans (hc m p hxm 3 _ rfl)
   simp only [Nat.add_zero] at k0
   clear hxm
   gi_wp2
   refine hR.mono ?_
   rintro e W3 (⟨rfl,hJ3,hk3⟩ | ⟨rfl,hJx3⟩)
   ·gi_wp2
    go_roundw
    case rel=>exact ⟨m,_,by omega,rfl,by omega,by omega,by rw [bwL_step HX.out]; exact hJ3,hnx.trans hk3⟩
    case measure=>simp [intOf]
   ·gi_wp2
    refine bodyPost_ret (results_none rfl _ _ _) rfl ?_
    exact ⟨⟨_,rfl⟩,.inr ⟨_,⟨m,by omega,(bwL_step HX.out).symm⟩,hJx3⟩⟩
set_option maxRecDepth 100000 in
set_option maxHeartbeats 1000000 in
theorem bw1_nil_in (n:Nat) (l Bs:Nat) (A:Option Addr) (c:Nat) (J:List (Nat×Nomination)→World→Prop) (W:World) (hBs:W.cell? ⟨Bs,0,none⟩=some (.slice A 0 c)) (h0:J [] W):
  CallsIn FW n Tryz.prog 195 #[.func (.yield l) #[] #[],.pointer (some ⟨Bs,0,none⟩)] W fun e W'=>(∃v,e= .returned v)∧J [] W':=by
 refine callsIn_of_wp Tryz.func195 rfl trivial ?_ rfl
 simp only [Tryz.ntmps195,List.size_toArray,List.length_cons,List.length_nil,Nat.reduceAdd,Nat.reduceSub,Array.replicate_succ,Array.replicate_zero,List.push_toArray,List.append_toArray,List.nil_append,List.cons_append]
 gi_wp2
 gi_loopw [3] (fun i wr=>i= .int .i64 (-1)∧J [] wr) (fun _ _=>0)
 case atStart=>exact ⟨rfl,h0⟩
 case round=>
  obtain ⟨rfl,hJs⟩:=hrel
  gi_wp2
  go_end0
  exact ⟨⟨_,rfl⟩,hJs⟩
set_option maxHeartbeats 1000000 in
theorem bw_in (n:Nat) (a:Option Addr) (len cap:Nat) (w:World):
  CallsIn FW n Tryz.prog 173 #[.slice a len cap] w fun e w'=>e= .returned (.func (.func 195) #[] #[.pointer (some ⟨w.heap.size,0,none⟩)])∧w'=w.alloc (.cells #[.slice a len cap] 29):=by
 refine callsIn_of_wp Tryz.func173 rfl trivial ?_ rfl
 simp only [Tryz.ntmps173,List.size_toArray,List.length_cons,List.length_nil,Nat.reduceAdd,Nat.reduceSub,Array.replicate_succ,Array.replicate_zero,List.push_toArray,List.append_toArray,List.nil_append,List.cons_append]
 gi_wp2
 go_ret
 exact ⟨rfl,rfl⟩
theorem bw_stops (n:Nat) (hn:1≤n) (Bs n₀:Nat) (A:Option Addr) (len cap:Nat) (L:List Nomination) (w:World) (hBs:Bs<n₀) (hn₀:n₀≤w.heap.size) (hc:w.cell? ⟨Bs,0,none⟩=some (.slice A len cap)) (w0:World) (hs0:SliceOf w0 4 Nomination.cells A len cap L) (hw0:w0.heap.size≤n₀) (hx:Ext w0 w):
  SeqStopsK FW n Tryz.prog 195 #[.pointer (some ⟨Bs,0,none⟩)] (fun x:Nat×Nomination=> #[Value.int .i64 (x.1:Int),nomV x.2]) (Below n₀) (fun ys=>ys=bwL L 0)
   (fun pre=>∃r,r≤len∧pre=bwL L r) len w:=fun l J Jx W hW _ _ hY h0=>by
 have hc':=(hW.cell (p:=⟨Bs,0,none⟩) (by show Bs<_; omega)).trans hc
 obtain ⟨hl,hcp,hmx,hcells⟩:=hs0
 rcases Nat.eq_zero_or_pos len with h | h
 ·subst h
  have hL0:L=[]:=List.eq_nil_of_length_eq_zero hl.symm
  subst hL0
  exact (bw1_nil_in n l Bs A cap J W hc' h0).mono fun e W' ⟨he,hj⟩=>⟨he,.inl ⟨_,rfl,hj⟩⟩
 ·obtain ⟨b,off,hA,hb,hcs⟩:=hcells h
  subst hA
  refine (bw1_in n hn l Bs n₀ b off len cap L hl hcp hmx hBs (by omega) J Jx hY W hc' (fun i x hx' j u hu=> ?_) h0).mono ?_
  ·exact ((hW.cell (p:=⟨b,off+i*4+j,none⟩) (by have:=hx.size; show b<_; omega)).trans (hx.cell b _ hb)).trans (hcs i x hx' j u hu)
  ·rintro e W' ⟨he,⟨ys,rfl,hj⟩ | ⟨pre,⟨k,hk,rfl⟩,hj⟩⟩
   ·exact ⟨he,.inl ⟨_,rfl,hj⟩⟩
   ·exact ⟨he,.inr ⟨_,⟨k,hk,rfl⟩,hj⟩⟩
def hitN (ct h:Int) (p:Nomination):Bool:=(p.contract==ct)&&(p.hour==h)
def lastN (ct h:Int) (L:List Nomination):Int:=match (bwL L 0).find? (fun x=>hitN ct h x.2) with
 | some x=>x.1
 | none=> -1
theorem find_noneL {ct h:Int} {l:List (Nat×Nomination)} (hn:∀p∈l,hitN ct h p.2=false):l.find? (fun x=>hitN ct h x.2)=none:=by
 rw [List.find?_eq_none]; intro x hx; simp [hn x hx]
theorem lastN_none {ct h:Int} {L:List Nomination} (hn:∀p∈bwL L 0,hitN ct h p.2=false):lastN ct h L= -1:=by unfold lastN; rw [find_noneL hn]
theorem bwL_pre (L:List Nomination) (r:Nat):∃rest,bwL L 0=bwL L r++rest:=by
 refine ⟨(bwL L 0).drop (L.length-r),?_⟩
 have:bwL L r=(bwL L 0).take (L.length-r):=by
  unfold bwL
  rw [←List.map_take,List.take_range]
  congr 2
  omega
 rw [this,List.take_append_drop]
theorem lastN_some {ct h:Int} {L:List Nomination} {r:Nat} {ini:List (Nat×Nomination)} {x:Nat×Nomination} (hr:bwL L r=ini++[x]) (hn:∀p∈ini,hitN ct h p.2=false) (hx:hitN ct h x.2=true):lastN ct h L=x.1:=by
 obtain ⟨rest,he⟩:=bwL_pre L r
 unfold lastN
 rw [he,hr,List.append_assoc,List.find?_append,find_noneL hn]
 simp [hx]
def lastP (pre:List (Nat×Nomination)):Int:=match pre.getLast? with
 | some x=>x.1
 | none=> -1
theorem lastP_snoc (ini:List (Nat×Nomination)) (x:Nat×Nomination):lastP (ini++[x])=x.1:=by simp [lastP]
theorem own_cells {β:Type} (B:Nat) (t:TypeId) (f:β→Array Value):Own (fun s W=>W.heap[B]? =some (.cells (f s) t (0,0))):=fun s X Y row hs hg hrow=>by
 have hlt:B<X.heap.size:=(Array.getElem?_eq_some_iff.1 hs).1
 exact (hg.block B hlt (fun e'=>by obtain ⟨o,ho,hc⟩:=hrow B e'.symm; rw [hs] at ho; cases ho; cases hc)).trans hs
set_option maxRecDepth 100000 in
set_option maxHeartbeats 8000000 in
theorem last_in (ct h:Int) (A:Option Addr) (len cap:Nat) (L:List Nomination) (w:World) (hs:SliceOf w 4 Nomination.cells A len cap L):
  CallsIn FW 3 Tryz.prog 140 #[.slice A len cap,.int .i64 ct,.int .i64 h] w fun e W'=>e= .returned (.int .i64 (lastN ct h L))∧Below w.heap.size w W':=by
 refine callsIn_of_wp_marks Tryz.func140 rfl trivial ?_ rfl
 simp only [Tryz.ntmps140,List.size_toArray,List.length_cons,List.length_nil,Nat.reduceAdd,Nat.reduceSub,Array.replicate_succ,Array.replicate_zero,List.push_toArray,List.append_toArray,List.nil_append,List.cons_append]
 gi_wp2_with (refine ⟨trivial,?_⟩; gi_at_call 173; refine (bw_in _ _ _ _ _).mono ?_; rintro e w' ⟨rfl,rfl⟩)
 have b0:=(((Boxed.new w 2 (.int .i64 ct)).alloc (.cells #[.int .i64 h] 2)).alloc (.cells #[.int .i64 0] 3)).alloc (.cells #[.slice A len cap] 29)
 have b1:=((Boxed.new (w.alloc (.cells #[.int .i64 ct] 2)) 2 (.int .i64 h)).alloc (.cells #[.int .i64 0] 3)).alloc (.cells #[.slice A len cap] 29)
 have b2:=(Boxed.new ((w.alloc (.cells #[.int .i64 ct] 2)).alloc (.cells #[.int .i64 h] 2)) 3 (.int .i64 0)).alloc (.cells #[.slice A len cap] 29)
 have b3:=Boxed.new (((w.alloc (.cells #[.int .i64 ct] 2)).alloc (.cells #[.int .i64 h] 2)).alloc (.cells #[.int .i64 0] 3)) 29 (.slice A len cap)
 simp only [World.size_alloc] at b1 b2 b3
 have hB0:Below w.heap.size w ((((w.alloc (.cells #[.int .i64 ct] 2)).alloc (.cells #[.int .i64 h] 2)).alloc (.cells #[.int .i64 0] 3)).alloc (.cells #[.slice A len cap] 29)):=((((Below.refl _ w).alloc (Nat.le_refl _) _).alloc (by simp) _).alloc (by simp; omega) _).alloc (by simp; omega) _
 have hsz:((((w.alloc (.cells #[.int .i64 ct] 2)).alloc (.cells #[.int .i64 h] 2)).alloc (.cells #[.int .i64 0] 3)).alloc (.cells #[.slice A len cap] 29)).heap.size=w.heap.size+4:=by simp
 obtain ⟨W0,hW0⟩:∃W0,((((w.alloc (.cells #[.int .i64 ct] 2)).alloc (.cells #[.int .i64 h] 2)).alloc (.cells #[.int .i64 0] 3)).alloc (.cells #[.slice A len cap] 29))=W0:=⟨_,rfl⟩
 rw [hW0] at b0 b1 b2 b3 hB0 hsz ⊢
 clear hW0
 refine wpIn_rangeFunc_ownH rfl (by omega) (gf:=195) (lb:= #[.pointer (some ⟨w.heap.size+1+1+1,0,none⟩)]) rfl trivial (enters_of Tryz.func195 (by kernel_rfl) rfl)
  (bw_stops 2 (by omega) (w.heap.size+1+1+1) W0.heap.size A len cap L W0 (by omega) (Nat.le_refl _) b3.cell w hs (by omega) hB0) belowK_t (belowK_b (Nat.le_refl _)) (Below.refl _ _) (fun _=>rfl)
  (fun pre W=>((Boxed W w.heap.size 2 (.int .i64 ct)∧Boxed W (w.heap.size+1) 2 (.int .i64 h))∧Boxed W (w.heap.size+1+1) 3 (.int .i64 0))∧(∀p∈pre,hitN ct h p.2=false)∧Boxed W (w.heap.size+1+1+1) 29 (.slice A len cap)∧Below w.heap.size w W)
  (fun c pre W=>Boxed W (w.heap.size+1+1) 3 (.int .i64 (lastP pre))∧(c= .ret∧∃ini x,pre=ini++[x]∧(∀p∈ini,hitN ct h p.2=false)∧hitN ct h x.2=true)∧Below w.heap.size w W)
  (OwnFrom.and (OwnFrom.and (OwnFrom.and (Own.from (boxed_own _ _ _) _) (Own.from (boxed_own _ _ _) _)) (Own.from (boxed_own _ _ _) _)) (OwnFrom.and (ownFrom_pure _ _) (OwnFrom.and (Own.from (boxed_own _ _ _) _) (ownFrom_below (Nat.le_refl _) (by omega)))))
  (fun c=>OwnFrom.and (Own.from (boxed_own _ _ _) _) (OwnFrom.and (ownFrom_pure _ _) (ownFrom_below (Nat.le_refl _) (by omega))))
  ⟨⟨⟨b0,b1⟩,b2⟩,by simp,b3,hB0⟩
  (fun x a' W=>∃Bx,W0.heap.size≤Bx∧W.heap[Bx]? =some (.cells #[.int .i64 x.2.contract,.int .i64 x.2.hour,.int .i64 x.2.sent,.int .i64 x.2.amount] 79 (0,0))∧a'={tmps:= #[.slice A len cap,.int .i64 ct,.int .i64 h,undef,.pointer (some ⟨w.heap.size,0,none⟩),.pointer (some ⟨w.heap.size+1,0,none⟩),.pointer (some ⟨w.heap.size+1+1,0,none⟩),.int .i64 (x.1:Int),.pointer (some ⟨Bx,0,none⟩),.slice A len cap,.func (.func 195) #[] #[.pointer (some ⟨w.heap.size+1+1+1,0,none⟩)],.int .i64 (x.1:Int),nomV x.2,undef,undef,undef,undef,undef,undef,undef,undef,undef,undef,undef],defers:=[]})
  (fun x a' _ X Y row hs hg hr=>by obtain ⟨Bx,h1,h2,h3⟩:=hs; exact ⟨Bx,h1,own_cells Bx _ (fun (_:Unit)=> #[.int .i64 x.2.contract,.int .i64 x.2.hour,.int .i64 x.2.sent,.int .i64 x.2.amount]) () X Y row h2 hg (fun r e=>(hr r e).2),h3⟩)
  ?assign ?body ?done ?stop
 case assign=>
  rintro l pre x W K ⟨⟨⟨c0,c1⟩,c2⟩,hp,c3,hB1⟩ hK
  have hz:=c3.lt
  unfold nomV
  gi_wp2
  exact hK _ _ ((KeepsOthers.alloc _ _).from _) ((Below.refl _ W).alloc (by omega) _) ⟨⟨⟨c0.alloc _,c1.alloc _⟩,c2.alloc _⟩,hp,c3.alloc _,hB1.alloc hB1.size _⟩ ⟨W.heap.size,by omega,World.alloc_heap_new W _,rfl⟩
 case body=>
  rintro l pre x a' W hl ⟨r,hr⟩ ⟨⟨⟨c0,c1⟩,c2⟩,hp,c3,hB1⟩ ⟨Bx,hBx,bX,rfl⟩ hlt
  have d0:=c0.cell
  have d1:=c1.cell
  have d2:=c2.cell
  have g2:=c2.frozen
  have y0:W.cell? ⟨Bx,0,none⟩=some (.int .i64 x.2.contract):=by simp [World.cell?,bX]
  have y1:W.cell? ⟨Bx,1,none⟩=some (.int .i64 x.2.hour):=by simp [World.cell?,bX]
  cases e0:(x.2.contract==ct)
  ·have HH:=hide (show hitN ct h x.2=false by unfold hitN; rw [e0]; rfl)
   gi_wp2
   exact ⟨KeepsFrom.refl _ _,Below.refl _ _,⟨⟨c0,c1⟩,c2⟩,fun p hp'=>(List.mem_append.1 hp').elim (hp p) (fun e=>by simp at e; subst e; exact HH.out),c3,hB1⟩
  ·cases e1:(x.2.hour==h)
   ·have HH:=hide (show hitN ct h x.2=false by unfold hitN; rw [e0,e1]; rfl)
    gi_wp2
    exact ⟨KeepsFrom.refl _ _,Below.refl _ _,⟨⟨c0,c1⟩,c2⟩,fun p hp'=>(List.mem_append.1 hp').elim (hp p) (fun e=>by simp at e; subst e; exact HH.out),c3,hB1⟩
   ·have HH:=hide (show hitN ct h x.2=true by unfold hitN; rw [e0,e1]; rfl)
    gi_wp2
    exact ⟨(KeepsOthers.setCell _ _ _).from _,by rw [lastP_snoc]; exact c2.set _,⟨rfl,pre,x,rfl,hp,HH.out⟩,hB1.setCell (p:=⟨w.heap.size+1+1,0,none⟩) (by show w.heap.size≤w.heap.size+1+1; omega) _⟩
 case done=>
  rintro D ys W hD rfl ⟨⟨⟨c0,c1⟩,c2⟩,hne,c3,hB⟩ hK
  have HE:=hide (lastN_none hne)
  have d2:=c2.cell
  have g2:=c2.frozen
  gi_wp2
  have hK':=(KeepsOthers.setCell W ⟨w.heap.size+1+1,0,none⟩ (.int .i64 (-1))).same D _ hK rfl
  refine ⟨by simp,.inl ⟨_,_,rfl,run_takeDeferred hK',?_⟩⟩
  have hc5:=cell_kept (World.cell?_setCell_same' W ⟨w.heap.size+1+1,0,none⟩ (.int .i64 (-1)) (by rw [d2]; rfl)) (grownBy_putObj' _ D (.deferred none)) (fun r e=>by cases e; exact ⟨_,hK',rfl⟩)
  refine ⟨.int .i64 (-1),?_,by rw [HE.out],(hB.setCell (p:=⟨w.heap.size+1+1,0,none⟩) (by show w.heap.size≤w.heap.size+1+1; omega) _).trans (belowK_b (w:=w) (Nat.le_refl _) _ D _ _ (by omega) hK' rfl rfl)⟩
  simp [results,Tryz.f140,go_sem,hc5]
 case stop=>
  rintro D c pre W hD ⟨r,hr,rfl⟩ ⟨c2,⟨rfl,ini,x,e1,e2,e3⟩,hB⟩ hK
  rw [e1,lastP_snoc] at c2
  have HE:=hide (lastN_some e1 e2 e3)
  gi_wp2
  refine ⟨by simp,.inl ⟨_,_,rfl,run_takeDeferred hK,?_⟩⟩
  have hc5:=cell_kept c2.cell (grownBy_putObj' _ D (.deferred none)) (fun r e=>by cases e; exact ⟨_,hK,rfl⟩)
  refine ⟨.int .i64 (x.1:Int),?_,by rw [HE.out],hB.trans (belowK_b (w:=w) (Nat.le_refl _) W D _ _ (by omega) hK rfl rfl)⟩
  simp [results,Tryz.f140,go_sem,hc5]
theorem c_lastNomination (ct h:Int) (A:Option Addr) (len cap:Nat) (L:List Nomination) (w:World) (hs:SliceOf w 4 Nomination.cells A len cap L):
  Calls Tryz.prog 140 #[.slice A len cap,.int .i64 ct,.int .i64 h] w (Ret (.int .i64 (lastN ct h L)) w):=
 callsIn_wide.1 (last_in ct h A len cap L w hs)
#print axioms c_lastNomination
end Go.Proofs.YtinindjjapblcaaGreatDoor
