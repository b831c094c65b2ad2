/-
  The last nomination for a contract and an hour: slices.Backward, and lastNomination of the program.
-/
import Derived.RangeFuncNested
import Derived.RangeFuncBound
import Derived.RangeFuncCalls
import Derived.RangeFuncLeaves
import Derived.Shelf.Abstract
import Derived.WalkKit
import Derived.OwnWalkIn
import Derived.TacticsInMore
import Derived.LoopNIn
import Derived.LoopIn
import Derived.Test.YtfkpghdmljjegaaGreatVd05
import Derived.Test.YtfkpghdmljjegaaGreatVd06
import Derived.Test.YtfkpghdmljjegaaGreatVd16
import Derived.Test.YtfkpghdmljjegaaGreatVd17
import Derived.Test.YtfkpghdmljjegaaGreatVd02
import Derived.Test.YtfkpghdmljjegaaGreatVd03
namespace Go.Proofs.YtfkpghdmljjegaaGreat
open Go.RowKit Go.Shelf
attribute [local go_sem] Oper.semAt_some
def nomV (p:Nomination):Value:= .agg #[.int .i64 p.contract,.int .i64 p.hour,.int .i64 p.sent,.int .i64 p.amount]
def bwL (L:List Nomination) (r:Nat):List (Nat×Nomination):=(List.range (L.length-r)).map fun j=>(L.length-1-j,(L[L.length-1-j]?).getD ⟨0,0,0,0⟩)
theorem bwL_step {L:List Nomination} {m:Nat} {p:Nomination} (h:L[m]? =some p):bwL L m=bwL L (m+1)++[(m,p)]:=by
 have hm:=(List.getElem?_eq_some_iff.1 h).1
 unfold bwL
 rw [show L.length-m=(L.length-(m+1))+1 by omega,List.range_succ,List.map_append,List.map_singleton,show L.length-1-(L.length-(m+1))=m by omega,h]
 rfl
theorem bwL_all (L:List Nomination):bwL L L.length=[]:=by simp [bwL]
theorem bwL_len (L:List Nomination) (r:Nat):(bwL L r).length=L.length-r:=by simp [bwL]
abbrev FW:Fence:=Fence.wide
set_option maxRecDepth 100000 in
set_option maxHeartbeats 4000000 in
theorem bw1_in (n:Nat) (hn:1≤n) (l Bs n₀ b off len cap:Nat) (L:List Nomination) (hlen:len=L.length) (hcap:len≤cap) (hmax:cap≤9223372036854775807) (hBn:Bs<n₀) (hb:b<n₀) (J Jx:List (Nat×Nomination)→World→Prop)
  (hY:∀pre x W,J pre W→pre.length<len→YieldAt FW (n-1) Tryz.prog l #[.int .i64 (x.1:Int),nomV x.2] W fun e W'=>
   (e= .returned (.bool true)∧J (pre++[x]) W'∧Below n₀ W W')∨(e= .returned (.bool false)∧Jx (pre++[x]) W'))
  (W:World) (hBs:W.cell? ⟨Bs,0,none⟩=some (.slice (some ⟨b,off,none⟩) len cap)) (hc:∀(i:Nat) (x:Nomination),L[i]? =some x→∀(j:Nat) (u:Value),x.cells[j]? =some u→W.cell? ⟨b,off+i*4+j,none⟩=some u) (h0:J [] W):
  CallsIn FW n Tryz.prog 310 #[.func (.yield l) #[] #[],.pointer (some ⟨Bs,0,none⟩)] W fun e W'=>(∃v,e= .returned v)∧
   ((∃ys,ys=bwL L 0∧J ys W')∨(∃pre,(∃r,r≤len∧pre=bwL L r)∧Jx pre W')):=by
 have HL:=hide hlen
 clear hlen
 refine callsIn_of_wp Tryz.func310 rfl trivial ?_ rfl
 simp only [Tryz.ntmps310,List.size_toArray,List.length_cons,List.length_nil,Nat.reduceAdd,Nat.reduceSub,Array.replicate_succ,Array.replicate_zero,List.push_toArray,List.append_toArray,List.nil_append,List.cons_append]
 gi_wp2
 gi_loopw [3] (fun i wr=>∃(r:Nat) (z:Int),r≤len∧i= .int .i64 z∧z+1≤(r:Int)∧(r:Int)≤z+1∧J (bwL L r) wr∧Below n₀ W wr) (fun i _=>(intOf i+1).toNat)
 case atStart=>exact ⟨len,_,Nat.le_refl _,rfl,by omega,by omega,by rw [HL.out,bwL_all]; exact h0,Below.refl _ _⟩
 case round=>
  obtain ⟨r,z,hr,rfl,hz1,hz2,hJs,hnx⟩:=hrel
  have hBx:wr.cell? ⟨Bs,0,none⟩=some (.slice (some ⟨b,off,none⟩) len cap):=(hnx.cell (p:=⟨Bs,0,none⟩) hBn).trans hBs
  cases r with
  | zero=>
   obtain rfl:z= -1:=by omega
   gi_wp2
   go_end0
   exact ⟨⟨_,rfl⟩,.inl ⟨_,rfl,hJs⟩⟩
  | succ m=>
   obtain rfl:z=(m:Int):=by omega
   have hmL:m<L.length:=by rw [←HL.out]; omega
   have hxm:L[m]? =some L[m]:=List.getElem?_eq_getElem hmL
   generalize hpp:L[m]=p at hxm
   clear hpp
   have HX:=hide hxm
   have hm:m<len:=by omega
   obtain ⟨fn,tmps,assign,body,hy,hR⟩:=hY _ (m,p) wr hJs (by rw [bwL_len, ←HL.out]; omega)
   dsimp only [nomV] at hy
   have k0:=(hnx.cell (p:=⟨b,off+m*4+0,none⟩) hb).trans (hc m p hxm 0 _ rfl)
   have k1:=(hnx.cell (p:=⟨b,off+m*4+1,none⟩) hb).trans (hc m p hxm 1 _ rfl)
   have k2:=(hnx.cell (p:=⟨b,off+m*4+2,none⟩) hb).trans (hc m p hxm 2 _ rfl)
   have k3:=(hnx.cell (p:=⟨b,off+m*4+3,none⟩) hb).trans (hc m p hxm 3 _ rfl)
   simp only [Nat.add_zero] at k0
   clear hxm
   gi_wp2
   refine hR.mono ?_
   rintro e W3 (⟨rfl,hJ3,hk3⟩ | ⟨rfl,hJx3⟩)
   ·gi_wp2
    go_roundw
    case rel=>exact ⟨m,_,by omega,rfl,by omega,by omega,by rw [bwL_step HX.out]; exact hJ3,hnx.trans hk3⟩
    case measure=>simp [intOf]
   ·gi_wp2
    refine bodyPost_ret (results_none rfl _ _ _) rfl ?_
    exact ⟨⟨_,rfl⟩,.inr ⟨_,⟨m,by omega,(bwL_step HX.out).symm⟩,hJx3⟩⟩
set_option maxRecDepth 100000 in
set_option maxHeartbeats 1000000 in
theorem bw1_nil_in (n:Nat) (l Bs:Nat) (A:Option Addr) (c:Nat) (J:List (Nat×Nomination)→World→Prop) (W:World) (hBs:W.cell? ⟨Bs,0,none⟩=some (.slice A 0 c)) (h0:J [] W):
  CallsIn FW n Tryz.prog 310 #[.func (.yield l) #[] #[],.pointer (some ⟨Bs,0,none⟩)] W fun e W'=>(∃v,e= .returned v)∧J [] W':=by
 refine callsIn_of_wp Tryz.func310 rfl trivial ?_ rfl
 simp only [Tryz.ntmps310,List.size_toArray,List.length_cons,List.length_nil,Nat.reduceAdd,Nat.reduceSub,Array.replicate_succ,Array.replicate_zero,List.push_toArray,List.append_toArray,List.nil_append,List.cons_append]
 gi_wp2
 gi_loopw [3] (fun i wr=>i= .int .i64 (-1)∧J [] wr) (fun _ _=>0)
 case atStart=>exact ⟨rfl,h0⟩
 case round=>
  obtain ⟨rfl,hJs⟩:=hrel
  gi_wp2
  go_end0
  exact ⟨⟨_,rfl⟩,hJs⟩
set_option maxHeartbeats 1000000 in
theorem bw_in (n:Nat) (a:Option Addr) (len cap:Nat) (w:World):
  CallsIn FW n Tryz.prog 296 #[.slice a len cap] w fun e w'=>e= .returned (.func (.func 310) #[] #[.pointer (some ⟨w.heap.size,0,none⟩)])∧w'=w.alloc (.cells #[.slice a len cap] 49):=by
 refine callsIn_of_wp Tryz.func296 rfl trivial ?_ rfl
 simp only [Tryz.ntmps296,List.size_toArray,List.length_cons,List.length_nil,Nat.reduceAdd,Nat.reduceSub,Array.replicate_succ,Array.replicate_zero,List.push_toArray,List.append_toArray,List.nil_append,List.cons_append]
 gi_wp2
 go_ret
 exact ⟨rfl,rfl⟩
theorem bw_stops (n:Nat) (hn:1≤n) (Bs n₀:Nat) (A:Option Addr) (len cap:Nat) (L:List Nomination) (w:World) (hBs:Bs<n₀) (hn₀:n₀≤w.heap.size) (hc:w.cell? ⟨Bs,0,none⟩=some (.slice A len cap)) (w0:World) (hs0:SliceOf w0 4 Nomination.cells A len cap L) (hw0:w0.heap.size≤n₀) (hx:Ext w0 w):
  SeqStopsK FW n Tryz.prog 310 #[.pointer (some ⟨Bs,0,none⟩)] (fun x:Nat×Nomination=> #[Value.int .i64 (x.1:Int),nomV x.2]) (Below n₀) (fun ys=>ys=bwL L 0)
   (fun pre=>∃r,r≤len∧pre=bwL L r) len w:=fun l J Jx W hW _ _ hY h0=>by
 have hc':=(hW.cell (p:=⟨Bs,0,none⟩) (by show Bs<_; omega)).trans hc
 obtain ⟨hl,hcp,hmx,hcells⟩:=hs0
 rcases Nat.eq_zero_or_pos len with h | h
 ·subst h
  have hL0:L=[]:=List.eq_nil_of_length_eq_zero hl.symm
  subst hL0
  exact (bw1_nil_in n l Bs A cap J W hc' h0).mono fun e W' ⟨he,hj⟩=>⟨he,.inl ⟨_,rfl,hj⟩⟩
 ·obtain ⟨b,off,hA,hb,hcs⟩:=hcells h
  subst hA
  refine (bw1_in n hn l Bs n₀ b off len cap L hl hcp hmx hBs (by omega) J Jx hY W hc' (fun i x hx' j u hu=> ?_) h0).mono ?_
  ·exact ((hW.cell (p:=⟨b,off+i*4+j,none⟩) (by have:=hx.size; show b<_; omega)).trans (hx.cell b _ hb)).trans (hcs i x hx' j u hu)
  ·rintro e W' ⟨he,⟨ys,rfl,hj⟩ | ⟨pre,⟨k,hk,rfl⟩,hj⟩⟩
   ·exact ⟨he,.inl ⟨_,rfl,hj⟩⟩
   ·exact ⟨he,.inr ⟨_,⟨k,hk,rfl⟩,hj⟩⟩
def hitN (ct h:Int) (p:Nomination):Bool:=(p.contract==ct)&&(p.hour==h)
def lastN (ct h:Int) (L:List Nomination):Int:=match (bwL L 0).find? (fun x=>hitN ct h x.2) with
 | some x=>x.1
 | none=> -1
theorem find_noneL {ct h:Int} {l:List (Nat×Nomination)} (hn:∀p∈l,hitN ct h p.2=false):l.find? (fun x=>hitN ct h x.2)=none:=by
 rw [List.find?_eq_none]; intro x hx; simp [hn x hx]
theorem lastN_none {ct h:Int} {L:List Nomination} (hn:∀p∈bwL L 0,hitN ct h p.2=false):lastN ct h L= -1:=by unfold lastN; rw [find_noneL hn]
theorem bwL_pre (L:List Nomination) (r:Nat):∃rest,bwL L 0=bwL L r++rest:=by
 refine ⟨(bwL L 0).drop (L.length-r),?_⟩
 have:bwL L r=(bwL L 0).take (L.length-r):=by
  unfold bwL
  rw [←List.map_take,List.take_range]
  congr 2
  omega
 rw [this,List.take_append_drop]
theorem lastN_some {ct h:Int} {L:List Nomination} {r:Nat} {ini:List (Nat×Nomination)} {x:Nat×Nomination} (hr:bwL L r=ini++[x]) (hn:∀p∈ini,hitN ct h p.2=false) (hx:hitN ct h x.2=true):lastN ct h L=x.1:=by
 obtain ⟨rest,he⟩:=bwL_pre L r
 unfold lastN
 rw [he,hr,List.append_assoc,List.find?_append,find_noneL hn]
 simp [hx]
def lastP (pre:List (Nat×Nomination)):Int:=match pre.getLast? with
 | some x=>x.1
 | none=> -1
theorem lastP_snoc (ini:List (Nat×Nomination)) (x:Nat×Nomination):lastP (ini++[x])=x.1:=by simp [lastP]
theorem own_cells {β:Type} (B:Nat) (t:TypeId) (f:β→Array Value):Own (fun s W=>W.heap[B]? =some (.cells (f s) t (0,0))):=fun s X Y row hs hg hrow=>by
 have hlt:B<X.heap.size:=(Array.getElem?_eq_some_iff.1 hs).1
 exact (hg.block B hlt (fun e'=>by obtain ⟨o,ho,hc⟩:=hrow B e'.symm; rw [hs] at ho; cases ho; cases hc)).trans hs
set_option maxRecDepth 100000 in
set_option maxHeartbeats 8000000 in
theorem last_in (ct h:Int) (A:Option Addr) (len cap:Nat) (L:List Nomination) (w:World) (hs:SliceOf w 4 Nomination.cells A len cap L):
  CallsIn FW 3 Tryz.prog 269 #[.slice A len cap,.int .i64 ct,.int .i64 h] w fun e W'=>e= .returned (.int .i64 (lastN ct h L))∧Below w.heap.size w W':=by
 refine callsIn_of_wp_marks Tryz.func269 rfl trivial ?_ rfl
 simp only [Tryz.ntmps269,List.size_toArray,List.length_cons,List.length_nil,Nat.reduceAdd,Nat.reduceSub,Array.replicate_succ,Array.replicate_zero,List.push_toArray,List.append_toArray,List.nil_append,List.cons_append]
 gi_wp2_with (refine ⟨trivial,?_⟩; gi_at_call 296; refine (bw_in _ _ _ _ _).mono ?_; rintro e w' ⟨rfl,rfl⟩)
 have b0:=(((Boxed.new w 2 (.int .i64 ct)).alloc (.cells #[.int .i64 h] 2)).alloc (.cells #[.int .i64 0] 3)).alloc (.cells #[.slice A len cap] 49)
 have b1:=((Boxed.new (w.alloc (.cells #[.int .i64 ct] 2)) 2 (.int .i64 h)).alloc (.cells #[.int .i64 0] 3)).alloc (.cells #[.slice A len cap] 49)
 have b2:=(Boxed.new ((w.alloc (.cells #[.int .i64 ct] 2)).alloc (.cells #[.int .i64 h] 2)) 3 (.int .i64 0)).alloc (.cells #[.slice A len cap] 49)
 have b3:=Boxed.new (((w.alloc (.cells #[.int .i64 ct] 2)).alloc (.cells #[.int .i64 h] 2)).alloc (.cells #[.int .i64 0] 3)) 49 (.slice A len cap)
 simp only [World.size_alloc] at b1 b2 b3
 have hB0:Below w.heap.size w ((((w.alloc (.cells #[.int .i64 ct] 2)).alloc (.cells #[.int .i64 h] 2)).alloc (.cells #[.int .i64 0] 3)).alloc (.cells #[.slice A len cap] 49)):=((((Below.refl _ w).alloc (Nat.le_refl _) _).alloc (by simp) _).alloc (by simp; omega) _).alloc (by simp; omega) _
 have hsz:((((w.alloc (.cells #[.int .i64 ct] 2)).alloc (.cells #[.int .i64 h] 2)).alloc (.cells #[.int .i64 0] 3)).alloc (.cells #[.slice A len cap] 49)).heap.size=w.heap.size+4:=by simp
 obtain ⟨W0,hW0⟩:∃W0,((((w.alloc (.cells #[.int .i64 ct] 2)).alloc (.cells #[.int .i64 h] 2)).alloc (.cells #[.int .i64 0] 3)).alloc (.cells #[.slice A len cap] 49))=W0:=⟨_,rfl⟩
 rw [hW0] at b0 b1 b2 b3 hB0 hsz ⊢
 clear hW0
 refine wpIn_rangeFunc_ownH rfl (by omega) (gf:=310) (lb:= #[.pointer (some ⟨w.heap.size+1+1+1,0,none⟩)]) rfl trivial (enters_of Tryz.func310 (by kernel_rfl) rfl)
  (bw_stops 2 (by omega) (w.heap.size+1+1+1) W0.heap.size A len cap L W0 (by omega) (Nat.le_refl _) b3.cell w hs (by omega) hB0) belowK_t (belowK_b (Nat.le_refl _)) (Below.refl _ _) (fun _=>rfl)
  (fun pre W=>((Boxed W w.heap.size 2 (.int .i64 ct)∧Boxed W (w.heap.size+1) 2 (.int .i64 h))∧Boxed W (w.heap.size+1+1) 3 (.int .i64 0))∧(∀p∈pre,hitN ct h p.2=false)∧Boxed W (w.heap.size+1+1+1) 49 (.slice A len cap)∧Below w.heap.size w W)
  (fun c pre W=>Boxed W (w.heap.size+1+1) 3 (.int .i64 (lastP pre))∧(c= .ret∧∃ini x,pre=ini++[x]∧(∀p∈ini,hitN ct h p.2=false)∧hitN ct h x.2=true)∧Below w.heap.size w W)
  (OwnFrom.and (OwnFrom.and (OwnFrom.and (Own.from (boxed_own _ _ _) _) (Own.from (boxed_own _ _ _) _)) (Own.from (boxed_own _ _ _) _)) (OwnFrom.and (ownFrom_pure _ _) (OwnFrom.and (Own.from (boxed_own _ _ _) _) (ownFrom_below (Nat.le_refl _) (by omega)))))
  (fun c=>OwnFrom.and (Own.from (boxed_own _ _ _) _) (OwnFrom.and (ownFrom_pure _ _) (ownFrom_below (Nat.le_refl _) (by omega))))
  ⟨⟨⟨b0,b1⟩,b2⟩,by simp,b3,hB0⟩
  (fun x a' W=>∃Bx,W0.heap.size≤Bx∧W.heap[Bx]? =some (.cells #[.int .i64 x.2.contract,.int .i64 x.2.hour,.int .i64 x.2.sent,.int .i64 x.2.amount] 157 (0,0))∧a'={tmps:= #[.slice A len cap,.int .i64 ct,.int .i64 h,undef,.pointer (some ⟨w.heap.size,0,none⟩),.pointer (some ⟨w.heap.size+1,0,none⟩),.pointer (some ⟨w.heap.size+1+1,0,none⟩),.int .i64 (x.1:Int),.pointer (some ⟨Bx,0,none⟩),.slice A len cap,.func (.func 310) #[] #[.pointer (some ⟨w.heap.size+1+1+1,0,none⟩)],.int .i64 (x.1:Int),nomV x.2,undef,undef,undef,undef,undef,undef,undef,undef,undef,undef,undef],defers:=[]})
  (fun x a' _ X Y row hs hg hr=>by obtain ⟨Bx,h1,h2,h3⟩:=hs; exact ⟨Bx,h1,own_cells Bx _ (fun (_:Unit)=> #[.int .i64 x.2.contract,.int .i64 x.2.hour,.int .i64 x.2.sent,.int .i64 x.2.amount]) () X Y row h2 hg (fun r e=>(hr r e).2),h3⟩)
  ?assign ?body ?done ?stop
 case assign=>
  rintro l pre x W K ⟨⟨⟨c0,c1⟩,c2⟩,hp,c3,hB1⟩ hK
  have hz:=c3.lt
  unfold nomV
  gi_wp2
  exact hK _ _ ((KeepsOthers.alloc _ _).from _) ((Below.refl _ W).alloc (by omega) _) ⟨⟨⟨c0.alloc _,c1.alloc _⟩,c2.alloc _⟩,hp,c3.alloc _,hB1.alloc hB1.size _⟩ ⟨W.heap.size,by omega,World.alloc_heap_new W _,rfl⟩
 case body=>
  rintro l pre x a' W hl ⟨r,hr⟩ ⟨⟨⟨c0,c1⟩,c2⟩,hp,c3,hB1⟩ ⟨Bx,hBx,bX,rfl⟩ hlt
  have d0:=c0.cell
  have d1:=c1.cell
  have d2:=c2.cell
  have g2:=c2.frozen
  have y0:W.cell? ⟨Bx,0,none⟩=some (.int .i64 x.2.contract):=by simp [World.cell?,bX]
  have y1:W.cell? ⟨Bx,1,none⟩=some (.int .i64 x.2.hour):=by simp [World.cell?,bX]
  cases e0:(x.2.contract==ct)
  ·have HH:=hide (show hitN ct h x.2=false by unfold hitN; rw [e0]; rfl)
   gi_wp2
   exact ⟨KeepsFrom.refl _ _,Below.refl _ _,⟨⟨c0,c1⟩,c2⟩,fun p hp'=>(List.mem_append.1 hp').elim (hp p) (fun e=>by simp at e; subst e; exact HH.out),c3,hB1⟩
  ·cases e1:(x.2.hour==h)
   ·have HH:=hide (show hitN ct h x.2=false by unfold hitN; rw [e0,e1]; rfl)
    gi_wp2
    exact ⟨KeepsFrom.refl _ _,Below.refl _ _,⟨⟨c0,c1⟩,c2⟩,fun p hp'=>(List.mem_append.1 hp').elim (hp p) (fun e=>by simp at e; subst e; exact HH.out),c3,hB1⟩
   ·have HH:=hide (show hitN ct h x.2=true by unfold hitN; rw [e0,e1]; rfl)
    gi_wp2
    exact ⟨(KeepsOthers.setCell _ _ _).from _,by rw [lastP_snoc]; exact c2.set _,⟨rfl,pre,x,rfl,hp,HH.out⟩,hB1.setCell (p:=⟨w.heap.size+1+1,0,none⟩) (by show w.heap.size≤w.heap.size+1+1; omega) _⟩
 case done=>
  rintro D ys W hD rfl ⟨⟨⟨c0,c1⟩,c2⟩,hne,c3,hB⟩ hK
  have HE:=hide (lastN_none hne)
  have d2:=c2.cell
  have g2:=c2.frozen
  gi_wp2
  have hK':=(KeepsOthers.setCell W ⟨w.heap.size+1+1,0,none⟩ (.int .i64 (-1))).same D _ hK rfl
  refine ⟨by simp,.inl ⟨_,_,rfl,run_takeDeferred hK',?_⟩⟩
  have hc5:=cell_kept (World.cell?_setCell_same' W ⟨w.heap.size+1+1,0,none⟩ (.int .i64 (-1)) (by rw [d2]; rfl)) (grownBy_putObj' _ D (.deferred none)) (fun r e=>by cases e; exact ⟨_,hK',rfl⟩)
  refine ⟨.int .i64 (-1),?_,by rw [HE.out],(hB.setCell (p:=⟨w.heap.size+1+1,0,none⟩) (by show w.heap.size≤w.heap.size+1+1; omega) _).trans (belowK_b (w:=w) (Nat.le_refl _) _ D _ _ (by omega) hK' rfl rfl)⟩
  simp [results,Tryz.f269,go_sem,hc5]
 case stop=>
  rintro D c pre W hD ⟨r,hr,rfl⟩ ⟨c2,⟨rfl,ini,x,e1,e2,e3⟩,hB⟩ hK
  rw [e1,lastP_snoc] at c2
  have HE:=hide (lastN_some e1 e2 e3)
  gi_wp2
  refine ⟨by simp,.inl ⟨_,_,rfl,run_takeDeferred hK,?_⟩⟩
  have hc5:=cell_kept c2.cell (grownBy_putObj' _ D (.deferred none)) (fun r e=>by cases e; exact ⟨_,hK,rfl⟩)
  refine ⟨.int .i64 (x.1:Int),?_,by rw [HE.out],hB.trans (belowK_b (w:=w) (Nat.le_refl _) W D _ _ (by omega) hK rfl rfl)⟩
  simp [results,Tryz.f269,go_sem,hc5]
theorem c_lastNomination (ct h:Int) (A:Option Addr) (len cap:Nat) (L:List Nomination) (w:World) (hs:SliceOf w 4 Nomination.cells A len cap L):
  Calls Tryz.prog 269 #[.slice A len cap,.int .i64 ct,.int .i64 h] w (Ret (.int .i64 (lastN ct h L)) w):=
 callsIn_wide.1 (last_in ct h A len cap L w hs)
#print axioms c_lastNomination
end Go.Proofs.YtfkpghdmljjegaaGreat
namespace Go.Proofs.YtfkpghdmljjegaaGreat
open Go.RowKit
def hits (L:List Nomination) (x:Nomination):List Nomination:=L.filter (hitN x.contract x.hour)
def accB (xs:List Contract) (L:List Nomination) (x:Nomination):Bool:=
 (match L.getLast? with | none=>true | some y=> !decide (x.sent<y.sent))&&
 (match (hits L x).getLast? with | none=>true | some q=> !(decide (x.hour-6<x.sent)&&decide ((match xs[x.contract.toNat]? with | some p=>p.amount.tdiv 2 | none=>0)<absI (x.amount-q.amount))))
def accR (n1:Int) (ns:List Node) (ps:List Pipe) (xs:List Contract) (L:List Nomination) (x:Nomination):List Nomination×Int:=
 if nomC n1 ns ps xs L≠0 then ([],nomC n1 ns ps xs L) else if nomB xs x=false then ([],2) else if accB xs L x=false then ([],7) else if L.length=200 then ([],3) else (L++[x],0)
end Go.Proofs.YtfkpghdmljjegaaGreat
namespace Go.Proofs.YtfkpghdmljjegaaGreat
open Go.RowKit
theorem nomC_facts {n1:Int} {ns:List Node} {ps:List Pipe} {xs:List Contract} {L:List Nomination} (h:nomC n1 ns ps xs L=0):bookB n1 xs=true∧L.length≤200∧∀q∈L,nomB xs q=true:=by
 have h1:nomsOk n1 ns ps xs L=true:=by rw [←nomC_ok,h]; rfl
 simp only [nomsOk,Bool.and_eq_true,nomsB,decide_eq_true_eq,List.all_eq_true,List.mem_range] at h1
 obtain ⟨⟨_,h2⟩,h3,h4⟩:=h1
 refine ⟨h2,h3,fun q hq=> ?_⟩
 obtain ⟨j,hj,rfl⟩:=List.mem_iff_getElem.1 hq
 have:=h4 j hj
 rw [nomOk_at (List.getElem?_eq_getElem hj),Bool.and_eq_true] at this
 exact this.1
theorem nomB_facts {n1:Int} {xs:List Contract} {x:Nomination} (hb:bookB n1 xs=true) (h:nomB xs x=true):∃(k:Nat) (p:Contract),x.contract=k∧k<xs.length∧xs[k]? =some p∧1≤p.amount∧p.amount≤30000∧0≤x.amount∧x.amount≤30000∧0≤x.hour∧x.hour<48∧ -48≤x.sent∧x.sent≤48:=by
 unfold nomB at h
 split at h
 ·rename_i p hp
  simp only [Bool.and_eq_true,inB_true] at h
  obtain ⟨⟨⟨h1,h2⟩,h3⟩,h4⟩:=h
  have hc:=hb
  simp only [bookB,Bool.and_eq_true,List.all_eq_true] at hc
  have hpc:=hc.2 p (List.mem_of_getElem? hp)
  simp only [conB,Bool.and_eq_true,inB_true,decide_eq_true_eq] at hpc
  have hlt:=(List.getElem?_eq_some_iff.1 hp).1
  exact ⟨x.contract.toNat,p,by omega,hlt,hp,by omega,by omega,by omega,by omega,by omega,by omega,by omega,by omega⟩
 ·cases h
theorem acc_last_no {xs:List Contract} {L:List Nomination} {x y:Nomination} (h:L.getLast? =some y) (hs:decide (x.sent<y.sent)=true):accB xs L x=false:=by unfold accB; rw [h]; simp only; rw [hs]; rfl
theorem acc_none {xs:List Contract} {L:List Nomination} {x:Nomination} (h:∀y,L.getLast? =some y→decide (x.sent<y.sent)=false) (hh:hits L x=[]):accB xs L x=true:=by
 unfold accB; rw [hh]
 cases hl:L.getLast? with
 | none=>rfl
 | some y=>simp only; rw [h y hl]; rfl
theorem acc_some {xs:List Contract} {L:List Nomination} {x q:Nomination} {p:Contract} {k:Nat} (h:∀y,L.getLast? =some y→decide (x.sent<y.sent)=false) (hh:(hits L x).getLast? =some q) (hk:x.contract=k) (hp:xs[k]? =some p):accB xs L x= !(decide (x.hour-6<x.sent)&&decide (p.amount.tdiv 2<absI (x.amount-q.amount))):=by
 unfold accB; rw [hh,hk,Int.toNat_natCast,hp]
 cases hl:L.getLast? with
 | none=>rfl
 | some y=>simp only; rw [h y hl]; rfl
theorem absD_le {a b c:Int} (h0:0≤a) (h1:a≤c) (h2:0≤b) (h3:b≤c):0≤absI (a-b)∧absI (a-b)≤c:=by
 unfold absI; split <;> omega
theorem nom_one_slice {w:World} {g:Nat} {x:Nomination} (h:Row w g 157 [.int .i64 x.contract,.int .i64 x.hour,.int .i64 x.sent,.int .i64 x.amount]):SliceOf w 4 Nomination.cells (some ⟨g,0,none⟩) 1 1 [x]:=
 RowOf.slice (t:=157) (xs:=[x]) (f:=Nomination.cells) h nomination_len rfl (by omega)
structure NomIn (w:World) (b:Nat) (x:Nomination):Prop where
 lt:b<w.heap.size
 y0:w.cell? ⟨b,0,none⟩=some (.int .i64 x.contract)
 y1:w.cell? ⟨b,1,none⟩=some (.int .i64 x.hour)
 y2:w.cell? ⟨b,2,none⟩=some (.int .i64 x.sent)
 y3:w.cell? ⟨b,3,none⟩=some (.int .i64 x.amount)
theorem NomIn.ext {w w':World} {b:Nat} {x:Nomination} (h:NomIn w b x) (hx:Ext w w'):NomIn w' b x:=
 ⟨Nat.lt_of_lt_of_le h.lt hx.size,(hx.cell _ _ h.lt).trans h.y0,(hx.cell _ _ h.lt).trans h.y1,(hx.cell _ _ h.lt).trans h.y2,(hx.cell _ _ h.lt).trans h.y3⟩
theorem NomIn.new (w:World) (x:Nomination) (t:TypeId):NomIn (w.alloc (.cells #[.int .i64 x.contract,.int .i64 x.hour,.int .i64 x.sent,.int .i64 x.amount] t)) w.heap.size x:=by
 have hR:=Row.new w t [.int .i64 x.contract,.int .i64 x.hour,.int .i64 x.sent,.int .i64 x.amount]
 exact ⟨by simp,hR.cell 0,hR.cell 1,hR.cell 2,hR.cell 3⟩
end Go.Proofs.YtfkpghdmljjegaaGreat
namespace Go.Proofs.YtfkpghdmljjegaaGreat
open Go.RowKit
theorem amt_one (y:Int):∀u∈intC y,u.oneCell'=true:=by intro u hu; simp [intC] at hu; subst hu; rfl
def amtsN (ct h:Int) (L:List Nomination):List Int:=(L.filter (hitN ct h)).map Nomination.amount
theorem amts_step {ct h:Int} {L:List Nomination} {k:Nat} {p:Nomination} (hk:L[k]? =some p):amtsN ct h (L.take (k+1))=amtsN ct h (L.take k)++if hitN ct h p=true then [p.amount] else []:=by
 unfold amtsN
 rw [List.take_add_one,hk,List.filter_append,List.map_append]
 congr 1
 cases hh:hitN ct h p <;> simp [hh]
theorem amts_len (ct h:Int) (L:List Nomination):(amtsN ct h L).length≤L.length:=by unfold amtsN; rw [List.length_map]; exact List.length_filter_le _ _
set_option maxHeartbeats 4000000 in
theorem c_l21History (ct h:Int) (B:Option Addr) (m d:Nat) (L:List Nomination) (w:World) (hL:SliceOf w 4 Nomination.cells B m d L) (h200:m≤200):
  Calls Tryz.prog 298 #[.slice B m d,.int .i64 ct,.int .i64 h] w (RetA 2 intC (amtsN ct h L) w):=by
 have hmm:=hL.max
 have hcap:=hL.cap
 have HLn:=hide hL.len
 go_enter Tryz.func298,Tryz.ntmps298
 go_wp2_with fail
 go_loopw [7,8] (fun v i wr=>∃(k:Nat) (E:List Int),k≤m∧i= .int .i64 k∧E.length≤k∧Hid (E=amtsN ct h (L.take k))∧OwnL wr w.heap.size 2 1 intC v E∧Ext w wr) (fun _ i _=>m-(intOf i).toNat)
 case atStart=>exact ⟨0,[],Nat.zero_le _,rfl,by simp,hide rfl,OwnL.empty w _ _ _ _ (Nat.le_refl _),Ext.alloc _ _⟩
 case round=>
  obtain ⟨k,E,hk,rfl,hE,HE,hown,hx⟩:=hrel
  have hxz:=hx.size
  by_cases hlt:k<m
  ·obtain ⟨b,off,p,rfl,hb,hxk,hc⟩:=(hL.ext hx).get hlt
   have HST:=hide (amts_step (ct:=ct) (h:=h) hxk)
   clear hxk
   have hc0:=hc 0 _ rfl
   have hc1:=hc 1 _ rfl
   have hc3:=hc 3 _ rfl
   clear hc
   simp only [Nat.add_zero] at hc0
   cases e0:(p.contract==ct)
   ·have HN:=hide (show amtsN ct h (L.take (k+1))=E by rw [HST.out, ←HE.out,hitN,e0]; simp)
    go_wp2_with fail
    go_roundw
    case rel=>exact ⟨k+1,E,by omega,by go_num,by omega,hide HN.out.symm,hown,hx⟩
    case measure=>simp [intOf]; omega
   ·cases e1:(p.hour==h)
    ·have HN:=hide (show amtsN ct h (L.take (k+1))=E by rw [HST.out, ←HE.out,hitN,e0,e1]; simp)
     go_wp2_with fail
     go_roundw
     case rel=>exact ⟨k+1,E,by omega,by go_num,by omega,hide HN.out.symm,hown,hx⟩
     case measure=>simp [intOf]; omega
    ·have HN:=hide (show amtsN ct h (L.take (k+1))=E++[p.amount] by rw [HST.out, ←HE.out,hitN,e0,e1]; simp)
     go_wp2_with (at_builtin; go_must (refine wpList_append_one rfl _ _ 24 rfl w.heap.size 2 _ 1 8 Tryz.underlying24 int_info rfl (by decide) intC intC_len amt_one _ _ rfl (hown.ext (Ext.alloc _ _)) _ p.amount rfl _ rfl (by first | rfl | simp) (by omega) (by omega) (by first | omega | (simp; omega)) ?_))
     intro v1 w4 hown4 hext4
     have hx4:=hext4 w (Nat.le_refl _) (hx.and_alloc _)
     go_wp2_with fail
     go_roundw
     case rel=>exact ⟨k+1,_,by omega,by go_num,by simp; omega,hide HN.out.symm,hown4,hx4⟩
     case measure=>simp [intOf]; omega
  ·obtain rfl:m=k:=by omega
   have HE2:=hide (show E=amtsN ct h L by rw [HE.out,HLn.out,List.take_length])
   obtain ⟨A',c',rfl,ho,hb⟩:=hown.toA intC_len (by omega)
   go_wp2_with fail
   go_ret
   rw [←HE2.out]
   exact ⟨A',_,c',rfl,ho,hb,hx⟩
end Go.Proofs.YtfkpghdmljjegaaGreat
namespace Go.Proofs.YtfkpghdmljjegaaGreat
open Go.RowKit
set_option maxHeartbeats 1000000 in
theorem c_l20Code (A1 A2:Option Addr) (n1 c1 n2 c2:Nat) (ns:List Node) (ps:List Pipe) (A:Option Addr) (n c:Nat) (xs:List Contract) (w:World) (hs1:SliceOf w 3 Node.cells A1 n1 c1 ns) (hs2:SliceOf w 5 Pipe.cells A2 n2 c2 ps) (hs:SliceOf w 8 Contract.cells A n c xs) (hnm:∀x∈ns,x.name.size≤1048576):
  Calls Tryz.prog 232 #[.agg #[.slice A1 n1 c1,.slice A2 n2 c2],.slice A n c] w (Ret (.int .i64 (bookC n1 ns ps xs)) w):=by
 have hm1:=hs1.max
 have hp1:=hs1.cap
 have HNM:=hide hnm
 clear hnm
 go_enter Tryz.func232,Tryz.ntmps232
 go_wp2_with fail
 refine (c_specIsNetwork A1 A2 n1 c1 n2 c2 ns ps _ (hs1.ext (Ext.alloc _ _)) (hs2.ext (Ext.alloc _ _)) HNM.out).mono ?_
 cases hN:netB ns ps
 ·have HR:=hide (show bookC n1 ns ps xs=1 by unfold bookC; rw [hN]; rfl)
  rintro e w1 ⟨rfl,hx1⟩
  go_wp2_with fail
  go_ret
  exact Ret.int HR.out hx1.box
 rintro e w1 ⟨rfl,hx1⟩
 have hcl:=hx1.cell
 go_wp2_with fail
 refine (c_l20Book A1 A2 n1 c1 n2 c2 A n c xs _ (by omega) (hs.ext hx1.box)).mono ?_
 cases hB:bookB n1 xs
 ·have HR:=hide (show bookC n1 ns ps xs=3 by unfold bookC; rw [hN,hB]; rfl)
  rintro e w2 ⟨rfl,hx2⟩
  go_wp2_with fail
  go_ret
  exact Ret.int HR.out (hx1.box.trans hx2)
 ·have HR:=hide (show bookC n1 ns ps xs=0 by unfold bookC; rw [hN,hB]; rfl)
  rintro e w2 ⟨rfl,hx2⟩
  go_wp2_with fail
  go_ret
  exact Ret.int HR.out (hx1.box.trans hx2)
set_option maxHeartbeats 1000000 in
theorem c_l21Code (A1 A2:Option Addr) (n1 c1 n2 c2:Nat) (ns:List Node) (ps:List Pipe) (A:Option Addr) (n c:Nat) (xs:List Contract) (B:Option Addr) (m d:Nat) (L:List Nomination) (w:World) (hs1:SliceOf w 3 Node.cells A1 n1 c1 ns) (hs2:SliceOf w 5 Pipe.cells A2 n2 c2 ps) (hs:SliceOf w 8 Contract.cells A n c xs) (hL:SliceOf w 4 Nomination.cells B m d L) (hnm:∀x∈ns,x.name.size≤1048576):
  Calls Tryz.prog 176 #[.agg #[.slice A1 n1 c1,.slice A2 n2 c2],.slice A n c,.slice B m d] w (Ret (.int .i64 (nomC n1 ns ps xs L)) w):=by
 have HNM:=hide hnm
 clear hnm
 go_enter Tryz.func176,Tryz.ntmps176
 go_wp2_with fail
 refine (c_l20Code A1 A2 n1 c1 n2 c2 ns ps A n c xs _ (hs1.ext (Ext.alloc _ _)) (hs2.ext (Ext.alloc _ _)) (hs.ext (Ext.alloc _ _)) HNM.out).mono ?_
 by_cases hz:bookC n1 ns ps xs=0
 ·have hbk:=book_zero hz
  have HOK:=hide (book_hours hbk.2)
  clear hbk
  rw [hz]
  rintro e w1 ⟨rfl,hx1⟩
  go_wp2_with fail
  refine (c_l21List A n c xs B m d L _ (hs.ext hx1.box) (hL.ext hx1.box) HOK.out).mono ?_
  cases hb:nomsB xs L
  ·have HR:=hide (show nomC n1 ns ps xs L=5 by unfold nomC; rw [if_pos hz,hb]; rfl)
   clear hz
   rintro e w2 ⟨rfl,hx2⟩
   go_wp2_with fail
   go_ret
   exact Ret.int HR.out (hx1.box.trans hx2)
  ·have HR:=hide (show nomC n1 ns ps xs L=0 by unfold nomC; rw [if_pos hz,hb]; rfl)
   clear hz
   rintro e w2 ⟨rfl,hx2⟩
   go_wp2_with fail
   go_ret
   exact Ret.int HR.out (hx1.box.trans hx2)
 ·have HR:=hide (show nomC n1 ns ps xs L=bookC n1 ns ps xs by unfold nomC; rw [if_neg hz])
  have hz1:(bookC n1 ns ps xs==0)=false:=by simpa using hz
  clear hz
  generalize bookC n1 ns ps xs=Z at *
  rintro e w1 ⟨rfl,hx1⟩
  go_wp2_with fail
  go_ret
  exact Ret.int HR.out hx1.box
end Go.Proofs.YtfkpghdmljjegaaGreat
namespace Go.Proofs.YtfkpghdmljjegaaGreat
open Go.RowKit
theorem amts_last {ct h:Int} {L:List Nomination} {q:Nomination} (hq:(L.filter (hitN ct h)).getLast? =some q):∃k,(amtsN ct h L).length=k+1∧(amtsN ct h L)[k]? =some q.amount:=by
 have hl:(amtsN ct h L).getLast? =some q.amount:=by unfold amtsN; rw [List.getLast?_map,hq]; rfl
 rw [List.getLast?_eq_getElem?] at hl
 have:=(List.getElem?_eq_some_iff.1 hl).1
 exact ⟨(amtsN ct h L).length-1,by omega,hl⟩
set_option maxHeartbeats 8000000 in
theorem c_l21Acceptable (A:Option Addr) (n c:Nat) (xs:List Contract) (B:Option Addr) (m d:Nat) (L:List Nomination) (w:World) (hs:SliceOf w 8 Contract.cells A n c xs) (hL:SliceOf w 4 Nomination.cells B m d L) (x:Nomination) (n1:Int) (hbk:bookB n1 xs=true) (hall:∀q∈L,nomB xs q=true) (hb:nomB xs x=true) (h200:L.length≤200):
  Calls Tryz.prog 272 #[.slice A n c,.slice B m d,.agg #[.int .i64 x.contract,.int .i64 x.hour,.int .i64 x.sent,.int .i64 x.amount]] w (Ret (.bool (accB xs L x)) w):=by
 obtain ⟨W0,HW⟩:∃W0,Hid ((w.alloc (.cells #[.int .i64 x.contract,.int .i64 x.hour,.int .i64 x.sent,.int .i64 x.amount] 157))=W0):=⟨_,hide rfl⟩
 have hin:NomIn W0 w.heap.size x:=by rw [←HW.out]; exact NomIn.new w x 157
 have x0:Ext w W0:=by rw [←HW.out]; exact Ext.alloc _ _
 have hmm:=hL.max
 have hcap:=hL.cap
 have HLn:=hide hL.len
 have hm200:m≤200:=by rw [HLn.out]; exact h200
 obtain ⟨kc,p,hkc,hkl,hpc,hpa,hpb,hxa,hxb,hxh,hxi,hxs,hxt⟩:=nomB_facts hbk hb
 have HKC:=hide hkc
 have HPC:=hide hpc
 have HALL:=hide hall
 have HBK:=hide hbk
 clear hall hbk hkc hpc hb
 have hlast:(m=0∧Hid (L=[]))∨∃(m':Nat) (y:Nomination),m=m'+1∧Hid (L.getLast? =some y)∧Hid (L[m']? =some y):=by
  rcases Nat.eq_zero_or_pos m with h | h
  ·exact .inl ⟨h,hide (List.eq_nil_of_length_eq_zero (by rw [←HLn.out]; exact h))⟩
  ·have hlt:m-1<L.length:=by rw [←HLn.out]; omega
   refine .inr ⟨m-1,L[m-1],by omega,hide ?_,hide (List.getElem?_eq_getElem hlt)⟩
   rw [List.getLast?_eq_getElem?, ←HLn.out]; exact List.getElem?_eq_getElem hlt
 have hin':=hin
 obtain ⟨hy,y0,y1,y2,y3⟩:=hin'
 rcases hlast with ⟨rfl,HE⟩ | ⟨m',y,rfl,HG,HY⟩
 ·have HACC:=hide (acc_none (xs:=xs) (L:=L) (x:=x) (fun y hy=>by rw [HE.out] at hy; cases hy) (by unfold hits; rw [HE.out]; rfl))
  have HAM:=hide (show amtsN x.contract x.hour L=[] by rw [HE.out]; rfl)
  go_enter Tryz.func272,Tryz.ntmps272
  go_wp2_with fail
  rw [HW.out]
  refine wp_region_ph [] [0,1,2,3,4,5,6,7,8,9,10,11,12,13,14] (by kernel_rfl) (by kernel_rfl) (by intro c a w d v h; cases d <;> exact h) ?_
  simp only [wpPh,pickL,nthO]
  repeat (go_big_quiet_step (fail))
  refine wpQuiet_nil ?_
  go_wp2_with fail
  refine (c_l21History x.contract x.hour B 0 d L _ (hL.ext x0.drew) (by omega)).mono ?_
  rw [HAM.out]
  rintro e w3 ⟨A3,n3,c3,rfl,ho3,_,hx3⟩
  have hx03:=x0.drew.trans hx3
  obtain rfl:n3=0:=ho3.1
  clear hy y0 y1 y2 y3
  obtain ⟨hy,y0,y1,y2,y3⟩:=hin.ext ((Ext.refl _).drew.trans hx3)
  cases b1:decide (x.sent≤x.hour-6)
  ·go_wp2_with fail
   go_ret
   exact Ret.bool HACC.out hx03
  ·go_wp2_with fail
   go_ret
   exact Ret.bool HACC.out hx03
 ·have hmL:m'<L.length:=by rw [←HLn.out]; omega
  obtain ⟨b,off,y',rfl,hb,hyk,hc⟩:=(hL.ext x0).get (k:=m') (by omega)
  obtain rfl:y=y':=by have:=HY.out.symm.trans hyk; injection this
  have hcy:=hc 2 _ rfl
  clear hc hyk
  cases hsb:decide (x.sent<y.sent)
  case true=>
   have HR:=hide (acc_last_no (xs:=xs) HG.out hsb)
   go_enter Tryz.func272,Tryz.ntmps272
   go_wp2_with fail
   rw [HW.out]
   refine wp_region_ph [] [0,1,2,3,4,5,6,7,8,9,10,11,12,13,14] (by kernel_rfl) (by kernel_rfl) (by intro c a w d v h; cases d <;> exact h) ?_
   simp only [wpPh,pickL,nthO]
   repeat (go_big_quiet_step (fail))
   refine wpQuiet_nil ?_
   go_wp2_with fail
   go_ret
   exact Ret.bool HR.out x0.drew
  have HSB:=hide (show ∀z,L.getLast? =some z→decide (x.sent<z.sent)=false from fun z hz=>by rw [HG.out] at hz; injection hz with hz; subst hz; exact hsb)
  go_enter Tryz.func272,Tryz.ntmps272
  go_wp2_with fail
  rw [HW.out]
  refine wp_region_ph [] [0,1,2,3,4,5,6,7,8,9,10,11,12,13,14] (by kernel_rfl) (by kernel_rfl) (by intro c a w d v h; cases d <;> exact h) ?_
  simp only [wpPh,pickL,nthO]
  repeat (go_big_quiet_step (fail))
  refine wpQuiet_nil ?_
  clear hcy hsb
  go_wp2_with fail
  refine (c_l21History x.contract x.hour _ (m'+1) d L _ (hL.ext x0.drew) (by omega)).mono ?_
  cases hf:(L.filter (hitN x.contract x.hour)).getLast? with
  | none=>
   have hF:L.filter (hitN x.contract x.hour)=[]:=List.getLast?_eq_none_iff.1 hf
   have HACC:=hide (acc_none (xs:=xs) (L:=L) (x:=x) HSB.out hF)
   have HAM:=hide (show amtsN x.contract x.hour L=[] by unfold amtsN; rw [hF]; rfl)
   clear hf hF
   rw [HAM.out]
   rintro e w3 ⟨A3,n3,c3,rfl,ho3,_,hx3⟩
   have hx03:=x0.drew.trans hx3
   obtain rfl:n3=0:=ho3.1
   clear hy y0 y1 y2 y3
   obtain ⟨hy,y0,y1,y2,y3⟩:=hin.ext ((Ext.refl _).drew.trans hx3)
   cases b1:decide (x.sent≤x.hour-6)
   ·go_wp2_with fail
    go_ret
    exact Ret.bool HACC.out hx03
   ·go_wp2_with fail
    go_ret
    exact Ret.bool HACC.out hx03
  | some q=>
   have HACC:=hide (acc_some (xs:=xs) (L:=L) (x:=x) HSB.out hf HKC.out HPC.out)
   obtain ⟨k,hk1,hk2⟩:=amts_last hf
   have hqL:q∈L:=(List.mem_filter.1 (List.mem_of_getLast? hf)).1
   obtain ⟨_,_,_,_,_,_,_,hqa,hqb,_,_,_,_⟩:=nomB_facts HBK.out (HALL.out q hqL)
   have hlen:=amts_len x.contract x.hour L
   clear hf hqL
   rintro e w3 ⟨A3,n3,c3,rfl,ho3,_,hx3⟩
   have hx03:=x0.drew.trans hx3
   obtain rfl:n3=k+1:=ho3.1.trans hk1
   have hs3:=ho3.slice intC_len
   have hm3:=hs3.max
   have hc3:=hs3.cap
   obtain ⟨b3,o3,z,rfl,hb3,hzk,hcz⟩:=hs3.get (k:=k) (by omega)
   obtain rfl:q.amount=z:=by have:=hk2.symm.trans hzk; injection this
   have hcz0:=hcz 0 _ rfl
   simp only [Nat.add_zero,Nat.mul_one] at hcz0
   have hk200:k<200:=by omega
   clear hcz hzk hk2 hk1 hs3 ho3 hlen
   clear hy y0 y1 y2 y3
   obtain ⟨hy,y0,y1,y2,y3⟩:=hin.ext ((Ext.refl _).drew.trans hx3)
   cases b1:decide (x.sent≤x.hour-6)
   ·have HB:=hide (show accB xs L x=decide (absI (x.amount-q.amount)≤p.amount.tdiv 2) by
     rw [HACC.out,show decide (x.hour-6<x.sent)=true by simp at b1 ⊢; omega,Bool.true_and]
     by_cases h:p.amount.tdiv 2<absI (x.amount-q.amount)
     ·rw [decide_eq_true h,decide_eq_false (by omega)]; rfl
     ·rw [decide_eq_false h,decide_eq_true (by omega)]; rfl)
    obtain ⟨ba,oa,p',rfl,hba,ep1,ep2⟩:=(hs.ext hx03).get (k:=kc) (by rw [hs.len]; exact hkl)
    obtain rfl:p=p':=by have:=HPC.out.symm.trans ep1; injection this
    have hcp:=ep2 3 _ rfl
    clear ep1 ep2
    have y0k:w3.cell? ⟨w.heap.size,0,none⟩=some (.int .i64 (kc:Int)):=by rw [←HKC.out]; exact y0
    clear y0
    have hkn:kc<n:=by rw [hs.len]; exact hkl
    have hdd:=absD_le hxa hxb hqa hqb
    have hwq:IntKind.i64.wrap (p.amount.tdiv 2)=p.amount.tdiv 2:=IntWalk.i64_in _ (by rw [Int.tdiv_eq_ediv_of_nonneg (by omega)]; omega)
    go_wp2_with fail
    refine wp_region_ph [([0,1,2,3,4,5,6,7,8,10,11,12,13,14,15,16],9)] [17,18] (by kernel_rfl) (by kernel_rfl) (by intro c a w d v h; cases d <;> exact h) ?_
    simp only [wpPh,pickL,nthO]
    repeat (go_big_quiet_step (fail))
    refine wpQuiet_nil ?_
    go_wp2_with fail
    refine (c_l01Abs _ _ (by omega) (by omega)).mono ?_
    rintro e w' ⟨rfl,rfl⟩
    go_wp2_with fail
    refine ⟨Ext.refl _,?_⟩
    repeat (go_big_quiet_step (fail))
    refine wpQuiet_nil ?_
    go_wp2_with fail
    go_ret
    exact Ret.bool HB.out hx03.drew
   ·have HB:=hide (show accB xs L x=true by rw [HACC.out,show decide (x.hour-6<x.sent)=false by simp at b1 ⊢; omega]; rfl)
    go_wp2_with fail
    go_ret
    exact Ret.bool HB.out hx03
end Go.Proofs.YtfkpghdmljjegaaGreat
