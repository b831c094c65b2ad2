/-
  Numbers in decimal, of the reference: l01Dec.
-/
import Derived.Test.YtinindjjapblcaaGreatDoorWa01
import Derived.Test.YtinindjjapblcaaGreatDoorProg
import Derived.Test.YtinindjjapblcaaGreatDoorWa02
import Derived.Laws.IdiomStrings
import Derived.Laws.BytesString
import Derived.Test.YtinindjjapblcaaGreatDoorWa07
import Derived.Test.YtinindjjapblcaaGreatDoorWa03
import Derived.Test.YtinindjjapblcaaGreatDoorWa06
import Derived.Test.YtinindjjapblcaaGreatDoorWa00
namespace Go.Proofs.YtinindjjapblcaaGreatDoor
open Go.RowKit Go.Lib
end Go.Proofs.YtinindjjapblcaaGreatDoor
namespace Go.Proofs.YtinindjjapblcaaGreatDoor
open Go.RowKit
open Go.Lib (decDigits)
section
variable {w0 w:World} {a n c:Nat} {A:Option Addr}
def DrawnNode (w0:World) (a:Nat) (A:Option Addr) (n c:Nat) (w:World) (e:Ending) (w':World):Prop:=
 ∃x:Node,e= .returned (.agg #[.string x.name,.int .i64 x.low,.int .i64 x.high])∧x.name.size≤100∧Src w0 w' a A n c∧Only a w w'
set_option maxHeartbeats 1000000 in
theorem c_l02DrawNode (i:Nat) (hi:i≤50) (h:Src w0 w a A n c):
  Calls Tryz.prog 203 #[.pointer (some ⟨a,0,none⟩),.int .i64 i] w (DrawnNode w0 a A n c w):=by
 have hal:=h.lt
 have hle:=h.le0
 have hR:=Row.new w 147 [.string ⟨#[]⟩,.int .i64 0,.int .i64 0]
 go_enter Tryz.func203,Tryz.ntmps203
 go_wp2_with fail
 refine (c_next 4000 (h.more (Ext.alloc _ _)) (by omega) (by omega)).mono ?_
 rintro e w1 ⟨x1,rfl,hx1,hx1',hs1,ho1⟩
 have hR1:=hR.only ho1 (by omega)
 have hO1:=(Only.of_ext (Ext.alloc w (.cells #[.string ⟨#[]⟩,.int .i64 0,.int .i64 0] 147)) a).trans ho1
 clear hR
 go_wp2_with fail
 refine (c_l01Dec i (by omega) _).mono ?_
 rintro e w2 ⟨rfl,hx2⟩
 have hl:=decDigits_len (i+1) i (Nat.lt_succ_self _)
 have hsz:¬9223372036854775807<(ByteArray.mk #[110]).size+(mkB (decDigits i)).size:=by rw [mkB_size]; show ¬_<1+_; omega
 have hsz2:((ByteArray.mk #[110])++mkB (decDigits i)).size≤100:=by rw [ByteArray.size_append,mkB_size]; show 1+_≤100; omega
 have hs2:=hs1.more hx2
 have hR2:=hR1.ext hx2
 have hO2:=hO1.trans (Only.of_ext hx2 a)
 clear hs1 hR1 hO1
 go_wp2_with fail
 refine (c_next 60000 hs2 (by omega) (by omega)).mono ?_
 rintro e w3 ⟨x3,rfl,hx3,hx3',hs3,ho3⟩
 have hR3:=hR2.only ho3 (by omega)
 have hO3:=hO2.trans ho3
 clear hs2 hR2 hO2
 have q0:=hR3.cell 0
 have q1:=hR3.cell 1
 have q2:=hR3.cell 2
 simp at q0 q1 q2
 have f0:=hR3.frozen 0
 have f1:=hR3.frozen 1
 have f2:=hR3.frozen 2
 have hl3:=hR3.lt
 have hf:DrawnNode w0 a A n c w (.returned (.agg #[.string ((ByteArray.mk #[110])++mkB (decDigits i)),.int .i64 x1,.int .i64 (x1+2000+x3)])) (putCells w3 w.heap.size 0 [.string ((ByteArray.mk #[110])++mkB (decDigits i)),.int .i64 x1,.int .i64 (x1+2000+x3)]):=
  ⟨⟨_,_,_⟩,rfl,hsz2,hs3.put (by have:=h.ext.size; omega) (by omega) _ _,hO3.putNew (Nat.le_refl _) _ _⟩
 have HF:=hide hf
 clear hf hs3 hO3 hR3
 go_wp2_with fail
 refine bodyPost_ret (v:= .agg #[.string ((ByteArray.mk #[110])++mkB (decDigits i)),.int .i64 x1,.int .i64 (x1+2000+x3)]) (by simp [results,Tryz.results203,go_sem,q0,q1,q2]) rfl ?_
 exact HF.out
def DrawnPipe (w0:World) (a:Nat) (A:Option Addr) (n c:Nat) (w:World) (e:Ending) (w':World):Prop:=
 ∃x:Pipe,e= .returned (.agg #[.int .i64 x.src,.int .i64 x.dst,.int .i64 x.k,.int .i64 x.volume,.int .i64 x.limit])∧Src w0 w' a A n c∧Only a w w'
set_option maxHeartbeats 1000000 in
theorem c_l02DrawPipe (y z:Int) (h:Src w0 w a A n c):
  Calls Tryz.prog 190 #[.pointer (some ⟨a,0,none⟩),.int .i64 y,.int .i64 z] w (DrawnPipe w0 a A n c w):=by
 have hal:=h.lt
 have hle:=h.le0
 have hR:=Row.new w 149 [.int .i64 0,.int .i64 0,.int .i64 0,.int .i64 0,.int .i64 0]
 go_enter Tryz.func190,Tryz.ntmps190
 go_wp2_with fail
 refine (c_next 2 (h.more (Ext.alloc _ _)) (by omega) (by omega)).mono ?_
 rintro e w1 ⟨x1,rfl,hx1,hx1',hs1,ho1⟩
 have hR1:=hR.only ho1 (by omega)
 have hO1:=(Only.of_ext (Ext.alloc w (.cells ([.int .i64 0,.int .i64 0,.int .i64 0,.int .i64 0,.int .i64 0]).toArray 149)) a).trans ho1
 clear hR
 by_cases h0:x1=0
 ·subst h0
  go_wp2_with fail
  refine (c_next 9 hs1 (by omega) (by omega)).mono ?_
  rintro e w3 ⟨x3,rfl,hx3,hx3',hs3,ho3⟩
  go_wp2_with fail
  refine (c_next 100 hs3 (by omega) (by omega)).mono ?_
  rintro e w4 ⟨x4,rfl,hx4,hx4',hs4,ho4⟩
  go_wp2_with fail
  refine (c_next 200 hs4 (by omega) (by omega)).mono ?_
  rintro e w5 ⟨x5,rfl,hx5,hx5',hs5,ho5⟩
  have hR5:=((hR1.only ho3 (by omega)).only ho4 (by omega)).only ho5 (by omega)
  have hO5:=((hO1.trans ho3).trans ho4).trans ho5
  have q0:=hR5.cell 0
  have q1:=hR5.cell 1
  have q2:=hR5.cell 2
  have q3:=hR5.cell 3
  have q4:=hR5.cell 4
  simp at q0 q1 q2 q3 q4
  have f0:=hR5.frozen 0
  have f1:=hR5.frozen 1
  have f2:=hR5.frozen 2
  have f3:=hR5.frozen 3
  have f4:=hR5.frozen 4
  have hl5:=hR5.lt
  have hf:DrawnPipe w0 a A n c w (.returned (.agg #[.int .i64 z,.int .i64 y,.int .i64 (1+x3),.int .i64 x4,.int .i64 (1+x5)])) (putCells w5 w.heap.size 0 [.int .i64 z,.int .i64 y,.int .i64 (1+x3),.int .i64 x4,.int .i64 (1+x5)]):=⟨⟨_,_,_,_,_⟩,rfl,hs5.put (by have:=h.ext.size; omega) (by omega) _ _,hO5.putNew (Nat.le_refl _) _ _⟩
  have HF:=hide hf
  clear hf hs5 hO5 hR5 hs1 hs3 hs4 hR1 hO1
  go_wp2_with fail
  refine bodyPost_ret (v:= .agg #[.int .i64 z,.int .i64 y,.int .i64 (1+x3),.int .i64 x4,.int .i64 (1+x5)]) (by simp [results,Tryz.results190,go_sem,q0,q1,q2,q3,q4]) rfl ?_
  exact HF.out
 ·have b0:(x1==0)=false:=by rw [beq_eq_false_iff_ne]; exact h0
  go_wp2_with fail
  refine (c_next 9 hs1 (by omega) (by omega)).mono ?_
  rintro e w3 ⟨x3,rfl,hx3,hx3',hs3,ho3⟩
  go_wp2_with fail
  refine (c_next 100 hs3 (by omega) (by omega)).mono ?_
  rintro e w4 ⟨x4,rfl,hx4,hx4',hs4,ho4⟩
  go_wp2_with fail
  refine (c_next 200 hs4 (by omega) (by omega)).mono ?_
  rintro e w5 ⟨x5,rfl,hx5,hx5',hs5,ho5⟩
  have hR5:=((hR1.only ho3 (by omega)).only ho4 (by omega)).only ho5 (by omega)
  have hO5:=((hO1.trans ho3).trans ho4).trans ho5
  have q0:=hR5.cell 0
  have q1:=hR5.cell 1
  have q2:=hR5.cell 2
  have q3:=hR5.cell 3
  have q4:=hR5.cell 4
  simp at q0 q1 q2 q3 q4
  have f0:=hR5.frozen 0
  have f1:=hR5.frozen 1
  have f2:=hR5.frozen 2
  have f3:=hR5.frozen 3
  have f4:=hR5.frozen 4
  have hl5:=hR5.lt
  have hf:DrawnPipe w0 a A n c w (.returned (.agg #[.int .i64 y,.int .i64 z,.int .i64 (1+x3),.int .i64 x4,.int .i64 (1+x5)])) (putCells w5 w.heap.size 0 [.int .i64 y,.int .i64 z,.int .i64 (1+x3),.int .i64 x4,.int .i64 (1+x5)]):=⟨⟨_,_,_,_,_⟩,rfl,hs5.put (by have:=h.ext.size; omega) (by omega) _ _,hO5.putNew (Nat.le_refl _) _ _⟩
  have HF:=hide hf
  clear hf hs5 hO5 hR5 hs1 hs3 hs4 hR1 hO1
  go_wp2_with fail
  refine bodyPost_ret (v:= .agg #[.int .i64 y,.int .i64 z,.int .i64 (1+x3),.int .i64 x4,.int .i64 (1+x5)]) (by simp [results,Tryz.results190,go_sem,q0,q1,q2,q3,q4]) rfl ?_
  exact HF.out
end
end Go.Proofs.YtinindjjapblcaaGreatDoor
namespace Go.Proofs.YtinindjjapblcaaGreatDoor
open Go.RowKit
structure RS where
 A:Option Addr
 n:Nat
 c:Nat
 xs:List Reading
def RS.cells (r:RS):List Value:=[.slice r.A r.n r.c]
theorem rs_len (r:RS):r.cells.length=1:=rfl
structure Room where
 ns:List Node
 ps:List Pipe
 xs:List Contract
 L:List Nomination
 rs:List RS
structure RoomAt (w:World) (A1 A2 A3 A4 A5:Option Addr) (n1 c1 n2 c2 n3 c3 n4 c4 n5 c5:Nat) (r:Room):Prop where
 s1:SliceOf w 3 Node.cells A1 n1 c1 r.ns
 s2:SliceOf w 5 Pipe.cells A2 n2 c2 r.ps
 s3:SliceOf w 8 Contract.cells A3 n3 c3 r.xs
 s4:SliceOf w 4 Nomination.cells A4 n4 c4 r.L
 s5:SliceOf w 1 RS.cells A5 n5 c5 r.rs
 s6:∀q∈r.rs,SliceOf w 2 Reading.cells q.A q.n q.c q.xs
section
variable {w w':World} {A1 A2 A3 A4 A5:Option Addr} {n1 c1 n2 c2 n3 c3 n4 c4 n5 c5:Nat} {r:Room}
theorem RoomAt.ext (h:RoomAt w A1 A2 A3 A4 A5 n1 c1 n2 c2 n3 c3 n4 c4 n5 c5 r) (hx:Ext w w'):RoomAt w' A1 A2 A3 A4 A5 n1 c1 n2 c2 n3 c3 n4 c4 n5 c5 r:=
 ⟨h.s1.ext hx,h.s2.ext hx,h.s3.ext hx,h.s4.ext hx,h.s5.ext hx,fun q hq=>(h.s6 q hq).ext hx⟩
end
structure RoomIn (w:World) (b:Nat) (A1 A2 A3 A4 A5:Option Addr) (n1 c1 n2 c2 n3 c3 n4 c4 n5 c5:Nat):Prop where
 lt:b<w.heap.size
 x0:w.cell? ⟨b,0,none⟩=some (.slice A1 n1 c1)
 x1:w.cell? ⟨b,1,none⟩=some (.slice A2 n2 c2)
 x2:w.cell? ⟨b,2,none⟩=some (.slice A3 n3 c3)
 x3:w.cell? ⟨b,3,none⟩=some (.slice A4 n4 c4)
 x4:w.cell? ⟨b,4,none⟩=some (.slice A5 n5 c5)
section
variable {w w':World} {b:Nat} {A1 A2 A3 A4 A5:Option Addr} {n1 c1 n2 c2 n3 c3 n4 c4 n5 c5:Nat}
theorem RoomIn.ext (h:RoomIn w b A1 A2 A3 A4 A5 n1 c1 n2 c2 n3 c3 n4 c4 n5 c5) (hx:Ext w w'):RoomIn w' b A1 A2 A3 A4 A5 n1 c1 n2 c2 n3 c3 n4 c4 n5 c5:=
 ⟨Nat.lt_of_lt_of_le h.lt hx.size,(hx.cell _ _ h.lt).trans h.x0,(hx.cell _ _ h.lt).trans h.x1,(hx.cell _ _ h.lt).trans h.x2,(hx.cell _ _ h.lt).trans h.x3,(hx.cell _ _ h.lt).trans h.x4⟩
end
theorem RoomIn.new (w:World) (A1 A2 A3 A4 A5:Option Addr) (n1 c1 n2 c2 n3 c3 n4 c4 n5 c5:Nat) (t:TypeId):RoomIn (w.alloc (.cells #[.slice A1 n1 c1,.slice A2 n2 c2,.slice A3 n3 c3,.slice A4 n4 c4,.slice A5 n5 c5] t)) w.heap.size A1 A2 A3 A4 A5 n1 c1 n2 c2 n3 c3 n4 c4 n5 c5:=by
 have hR:=Row.new w t [.slice A1 n1 c1,.slice A2 n2 c2,.slice A3 n3 c3,.slice A4 n4 c4,.slice A5 n5 c5]
 exact ⟨by simp,hR.cell 0,hR.cell 1,hR.cell 2,hR.cell 3,hR.cell 4⟩
def roomB (n1:Int) (r:Room):Bool:=nomsOk n1 r.ns r.ps r.xs r.L&&inB (r.rs.length:Int) 1 48&&r.rs.all (fun q=>readsB n1 q.xs)
theorem noms_net {n1:Int} {ns:List Node} {ps:List Pipe} {xs:List Contract} {L:List Nomination} (h:nomsOk n1 ns ps xs L=true):netB ns ps=true:=by
 simp only [nomsOk,Bool.and_eq_true] at h; exact h.1.1
theorem c_areReadings (A1 A2:Option Addr) (n1 c1 n2 c2:Nat) (ns:List Node) (ps:List Pipe) (A:Option Addr) (n c:Nat) (L:List Reading) (w:World) (hs1:SliceOf w 3 Node.cells A1 n1 c1 ns) (hs2:SliceOf w 5 Pipe.cells A2 n2 c2 ps) (hs:SliceOf w 2 Reading.cells A n c L) (hN:netB ns ps=true):
  Calls Tryz.prog 87 #[.agg #[.slice A1 n1 c1,.slice A2 n2 c2],.slice A n c] w (Ret (.bool (readsB n1 L)) w):=by
 cases hb:readsB n1 L
 ·go_enter Tryz.func87,Tryz.ntmps87
  go_wp2_with fail
  refine (c_AreReadings A1 A2 n1 c1 n2 c2 ns ps A n c L _ (hs1.ext (Ext.alloc _ _)) (hs2.ext (Ext.alloc _ _)) (hs.ext (Ext.alloc _ _)) hN).mono ?_
  rw [if_neg (by rw [hb]; decide)]
  rintro e w1 ⟨rfl,hx1⟩
  go_wp2_with fail
  go_ret
  exact Ret.bool rfl hx1.box
 ·go_enter Tryz.func87,Tryz.ntmps87
  go_wp2_with fail
  refine (c_AreReadings A1 A2 n1 c1 n2 c2 ns ps A n c L _ (hs1.ext (Ext.alloc _ _)) (hs2.ext (Ext.alloc _ _)) (hs.ext (Ext.alloc _ _)) hN).mono ?_
  rw [if_pos hb]
  rintro e w1 ⟨rfl,hx1⟩
  go_wp2_with fail
  go_ret
  exact Ret.bool rfl hx1.box
theorem c_badRead (A1 A2 A3 A4 A5:Option Addr) (n1 c1 n2 c2 n3 c3 n4 c4 n5 c5:Nat) (r:Room) (b:Nat) (q:RS) (w:World) (hat:RoomAt w A1 A2 A3 A4 A5 n1 c1 n2 c2 n3 c3 n4 c4 n5 c5 r) (hin:RoomIn w b A1 A2 A3 A4 A5 n1 c1 n2 c2 n3 c3 n4 c4 n5 c5) (hN:netB r.ns r.ps=true) (hq:q∈r.rs):
  Calls Tryz.prog 86 #[.slice q.A q.n q.c,.pointer (some ⟨b,0,none⟩)] w (Ret (.bool (!readsB n1 q.xs)) w):=by
 obtain ⟨hlt,x0,x1,x2,x3,x4⟩:=hin
 go_enter Tryz.func86,Tryz.ntmps86
 go_wp2_with fail
 refine (c_areReadings A1 A2 n1 c1 n2 c2 r.ns r.ps q.A q.n q.c q.xs _ hat.s1 hat.s2 (hat.s6 q hq) hN).mono ?_
 rintro e w1 ⟨rfl,hx1⟩
 go_wp2_with fail
 go_ret
 exact Ret.bool rfl hx1
set_option maxHeartbeats 2000000 in
theorem c_IndexReads (A1 A2 A3 A4 A5:Option Addr) (n1 c1 n2 c2 n3 c3 n4 c4 n5 c5:Nat) (r:Room) (b:Nat) (w:World) (hat:RoomAt w A1 A2 A3 A4 A5 n1 c1 n2 c2 n3 c3 n4 c4 n5 c5 r) (hin:RoomIn w b A1 A2 A3 A4 A5 n1 c1 n2 c2 n3 c3 n4 c4 n5 c5) (hN:netB r.ns r.ps=true):
  Calls Tryz.prog 131 #[.slice A5 n5 c5,.func (.func 86) #[] #[.pointer (some ⟨b,0,none⟩)]] w (FoundIdx (r.rs.all (fun q=>readsB n1 q.xs)) w):=by
 have hs:=hat.s5
 have hm:=hs.max
 have hcap:=hs.cap
 go_enter Tryz.func131,Tryz.ntmps131
 go_wp2_with fail
 go_loopw [4,8] (fun z i wr=>∃k:Nat,k≤n5∧z= .int .i64 0∧i= .int .i64 k∧Hid (∀(j:Nat) (p:RS),j<k→r.rs[j]? =some p→readsB n1 p.xs=true)∧Ext w wr) (fun _ i _=>n5-(intOf i).toNat)
 case atStart=>exact ⟨0,Nat.zero_le _,rfl,rfl,hide (fun j p hj=>absurd hj (by omega)),Ext.refl _⟩
 case round=>
  obtain ⟨k,hk,rfl,rfl,HK,hx⟩:=hrel
  by_cases hlt:k<n5
  ·obtain ⟨bb,off,p,hA,hbb,hxk,t⟩:=(hs.ext hx).get hlt
   have t0:=t 0 _ rfl
   simp only [Nat.add_zero,Nat.mul_one] at t0
   have HX:=hide hxk
   have HP:=hide (List.mem_of_getElem? hxk)
   clear hxk t
   have hata:=hat.ext hx
   have hina:=hin.ext hx
   subst hA
   cases hp:readsB n1 p.xs
   ·go_wp2_with (go_at_call 86; refine (c_badRead A1 A2 A3 A4 _ n1 c1 n2 c2 n3 c3 n4 c4 n5 c5 r b p _ hata hina hN HP.out).mono ?_; rw [hp]; rintro e w1 ⟨rfl,hx1⟩)
    go_ret
    refine ⟨k,rfl,?_,hx.trans hx1⟩
    have:r.rs.all (fun q=>readsB n1 q.xs)=false:=by rw [List.all_eq_false]; exact ⟨p,HP.out,by simp [hp]⟩
    rw [this]; simp
   ·go_wp2_with (go_at_call 86; refine (c_badRead A1 A2 A3 A4 _ n1 c1 n2 c2 n3 c3 n4 c4 n5 c5 r b p _ hata hina hN HP.out).mono ?_; rw [hp]; rintro e w1 ⟨rfl,hx1⟩)
    go_roundw
    case rel=>
     refine ⟨k+1,by omega,rfl,by go_num,hide fun j q hj hq=> ?_,hx.trans hx1⟩
     by_cases e:j=k
     ·subst e; rw [HX.out] at hq; injection hq with hq; subst hq; exact hp
     ·exact HK.out j q (by omega) hq
    case measure=>simp [intOf]; omega
  ·go_wp2_with fail
   go_ret
   refine ⟨-1,rfl,?_,hx⟩
   have:r.rs.all (fun q=>readsB n1 q.xs)=true:=by
    rw [List.all_eq_true]; intro q hq
    obtain ⟨j,hj,rfl⟩:=List.mem_iff_getElem.1 hq
    exact HK.out j _ (by have:=hs.len; omega) (List.getElem?_eq_getElem hj)
   rw [this]; simp
theorem c_ContainsReads (A1 A2 A3 A4 A5:Option Addr) (n1 c1 n2 c2 n3 c3 n4 c4 n5 c5:Nat) (r:Room) (b:Nat) (w:World) (hat:RoomAt w A1 A2 A3 A4 A5 n1 c1 n2 c2 n3 c3 n4 c4 n5 c5 r) (hin:RoomIn w b A1 A2 A3 A4 A5 n1 c1 n2 c2 n3 c3 n4 c4 n5 c5) (hN:netB r.ns r.ps=true):
  Calls Tryz.prog 85 #[.slice A5 n5 c5,.func (.func 86) #[] #[.pointer (some ⟨b,0,none⟩)]] w (Ret (.bool (!r.rs.all (fun q=>readsB n1 q.xs))) w):=by
 go_enter Tryz.func85,Tryz.ntmps85
 go_wp2_with fail
 refine (c_IndexReads A1 A2 A3 A4 A5 n1 c1 n2 c2 n3 c3 n4 c4 n5 c5 r b _ hat hin hN).mono ?_
 rintro e w1 ⟨q,rfl,hr,hx1⟩
 have HR:=hide hr
 clear hr
 go_wp2_with fail
 go_ret
 exact Ret.bool HR.out.symm hx1
set_option maxHeartbeats 2000000 in
theorem c_IsRoom (A1 A2 A3 A4 A5:Option Addr) (n1 c1 n2 c2 n3 c3 n4 c4 n5 c5:Nat) (r:Room) (w:World) (hat:RoomAt w A1 A2 A3 A4 A5 n1 c1 n2 c2 n3 c3 n4 c4 n5 c5 r):
  Calls Tryz.prog 35 #[.agg #[.slice A1 n1 c1,.slice A2 n2 c2,.slice A3 n3 c3,.slice A4 n4 c4,.slice A5 n5 c5]] w (Ret (.bool (roomB n1 r)) w):=by
 have hL:=hat.s5.len
 have hm5:=hat.s5.max
 have hc5:=hat.s5.cap
 have hin:=RoomIn.new w A1 A2 A3 A4 A5 n1 c1 n2 c2 n3 c3 n4 c4 n5 c5 32
 cases h1:nomsOk n1 r.ns r.ps r.xs r.L
 ·have HR:=hide (show roomB n1 r=false by simp [roomB,h1])
  clear hL
  go_enter Tryz.func35,Tryz.ntmps35
  go_wp2_with fail
  refine (c_AreNominations A1 A2 n1 c1 n2 c2 r.ns r.ps A3 n3 c3 r.xs A4 n4 c4 r.L _ (hat.s1.ext (Ext.alloc _ _)) (hat.s2.ext (Ext.alloc _ _)) (hat.s3.ext (Ext.alloc _ _)) (hat.s4.ext (Ext.alloc _ _))).mono ?_
  rw [h1]
  rintro e w1 ⟨rfl,hx1⟩
  go_wp2_with fail
  go_ret
  exact Ret.bool HR.out hx1.box
 cases h2:inB (n5:Int) 1 48
 ·have HR:=hide (show roomB n1 r=false by unfold roomB; rw [←hL,h1,h2]; rfl)
  clear hL
  go_enter Tryz.func35,Tryz.ntmps35
  go_wp2_with fail
  refine (c_AreNominations A1 A2 n1 c1 n2 c2 r.ns r.ps A3 n3 c3 r.xs A4 n4 c4 r.L _ (hat.s1.ext (Ext.alloc _ _)) (hat.s2.ext (Ext.alloc _ _)) (hat.s3.ext (Ext.alloc _ _)) (hat.s4.ext (Ext.alloc _ _))).mono ?_
  rw [h1]
  rintro e w1 ⟨rfl,hx1⟩
  obtain ⟨hlt,x0,x1,x2,x3,x4⟩:=hin.ext hx1
  go_wp2_with (go_at_call 84; refine (c_within _ _ _ _).mono ?_; rintro e w' ⟨rfl,rfl⟩)
  go_ret
  exact Ret.bool HR.out hx1.box
 ·have HR:=hide (show roomB n1 r=r.rs.all (fun q=>readsB n1 q.xs) by unfold roomB; rw [←hL,h1,h2]; rfl)
  have hN:=noms_net h1
  have HN:=hide hN
  clear hL hN
  go_enter Tryz.func35,Tryz.ntmps35
  go_wp2_with fail
  refine (c_AreNominations A1 A2 n1 c1 n2 c2 r.ns r.ps A3 n3 c3 r.xs A4 n4 c4 r.L _ (hat.s1.ext (Ext.alloc _ _)) (hat.s2.ext (Ext.alloc _ _)) (hat.s3.ext (Ext.alloc _ _)) (hat.s4.ext (Ext.alloc _ _))).mono ?_
  rw [h1]
  rintro e w1 ⟨rfl,hx1⟩
  have hin1:=hin.ext hx1
  obtain ⟨hlt,x0,x1,x2,x3,x4⟩:=hin1
  go_wp2_with (go_at_call 84; refine (c_within _ _ _ _).mono ?_; rintro e w' ⟨rfl,rfl⟩)
  refine (c_ContainsReads A1 A2 A3 A4 A5 n1 c1 n2 c2 n3 c3 n4 c4 n5 c5 r w.heap.size _ (hat.ext hx1.box) (hin.ext hx1) HN.out).mono ?_
  rintro e w2 ⟨rfl,hx2⟩
  go_wp2_with fail
  go_ret
  exact Ret.bool HR.out (hx1.box.trans hx2)
end Go.Proofs.YtinindjjapblcaaGreatDoor
namespace Go.Proofs.YtinindjjapblcaaGreatDoor
open Go.RowKit
set_option maxHeartbeats 4000000 in
theorem c_specIsRoom (A1 A2 A3 A4 A5:Option Addr) (n1 c1 n2 c2 n3 c3 n4 c4 n5 c5:Nat) (r:Room) (w:World) (hat:RoomAt w A1 A2 A3 A4 A5 n1 c1 n2 c2 n3 c3 n4 c4 n5 c5 r) (hnm:∀x∈r.ns,x.name.size≤1048576):
  Calls Tryz.prog 37 #[.agg #[.slice A1 n1 c1,.slice A2 n2 c2,.slice A3 n3 c3,.slice A4 n4 c4,.slice A5 n5 c5]] w (Ret (.bool (roomB n1 r)) w):=by
 have hL:=hat.s5.len
 have hm1:=hat.s1.max
 have hc1:=hat.s1.cap
 have hm5:=hat.s5.max
 have hc5:=hat.s5.cap
 have hin:=RoomIn.new w A1 A2 A3 A4 A5 n1 c1 n2 c2 n3 c3 n4 c4 n5 c5 32
 have HNM:=hide hnm
 clear hnm
 cases h1:nomsOk n1 r.ns r.ps r.xs r.L
 ·have HR:=hide (show roomB n1 r=false by simp [roomB,h1])
  clear hL
  go_enter Tryz.func37,Tryz.ntmps37
  go_wp2_with fail
  refine (c_specAreNominations A1 A2 n1 c1 n2 c2 r.ns r.ps A3 n3 c3 r.xs A4 n4 c4 r.L _ (hat.s1.ext (Ext.alloc _ _)) (hat.s2.ext (Ext.alloc _ _)) (hat.s3.ext (Ext.alloc _ _)) (hat.s4.ext (Ext.alloc _ _)) HNM.out).mono ?_
  rw [h1]
  rintro e w1 ⟨rfl,hx1⟩
  go_wp2_with fail
  go_ret
  exact Ret.bool HR.out hx1.box
 cases h2:inB (n5:Int) 1 48
 ·have HR:=hide (show roomB n1 r=false by unfold roomB; rw [←hL,h1,h2]; rfl)
  clear hL
  go_enter Tryz.func37,Tryz.ntmps37
  go_wp2_with fail
  refine (c_specAreNominations A1 A2 n1 c1 n2 c2 r.ns r.ps A3 n3 c3 r.xs A4 n4 c4 r.L _ (hat.s1.ext (Ext.alloc _ _)) (hat.s2.ext (Ext.alloc _ _)) (hat.s3.ext (Ext.alloc _ _)) (hat.s4.ext (Ext.alloc _ _)) HNM.out).mono ?_
  rw [h1]
  rintro e w1 ⟨rfl,hx1⟩
  obtain ⟨hlt,x0,x1,x2,x3,x4⟩:=hin.ext hx1
  go_wp2_with (go_at_call 89; refine (c_l01In _ _ _ _).mono ?_; rintro e w' ⟨rfl,rfl⟩)
  go_ret
  exact Ret.bool HR.out hx1.box
 have HR:=hide (show roomB n1 r=r.rs.all (fun q=>readsB n1 q.xs) by unfold roomB; rw [←hL,h1,h2]; rfl)
 have HLN:=hide hL
 clear hL
 go_enter Tryz.func37,Tryz.ntmps37
 go_wp2_with fail
 refine (c_specAreNominations A1 A2 n1 c1 n2 c2 r.ns r.ps A3 n3 c3 r.xs A4 n4 c4 r.L _ (hat.s1.ext (Ext.alloc _ _)) (hat.s2.ext (Ext.alloc _ _)) (hat.s3.ext (Ext.alloc _ _)) (hat.s4.ext (Ext.alloc _ _)) HNM.out).mono ?_
 rw [h1]
 rintro e w1 ⟨rfl,hx1⟩
 clear h1
 obtain ⟨hlt,x0,x1,x2,x3,x4⟩:=hin.ext hx1
 go_wp2_with (go_at_call 89; refine (c_l01In _ _ _ _).mono ?_; rintro e w' ⟨rfl,rfl⟩)
 clear hlt x0 x1 x2 x3 x4 h2
 go_loopw [3] (fun i wr=>∃k:Nat,k≤n5∧i= .int .i64 k∧Hid (∀(j:Nat) (p:RS),j<k→r.rs[j]? =some p→readsB n1 p.xs=true)∧Ext w1 wr) (fun i _=>n5-(intOf i).toNat)
 case atStart=>exact ⟨0,Nat.zero_le _,rfl,hide (fun j p hj=>absurd hj (by omega)),Ext.refl _⟩
 case round=>
  obtain ⟨k,hk,rfl,HK,hx⟩:=hrel
  have hxw:=hx1.box.trans hx
  obtain ⟨hlt',x0,x1,x2,x3,x4⟩:=hin.ext (hx1.trans hx)
  by_cases hlt:k<n5
  ·obtain ⟨bb,off,p,rfl,hbb,hxk,t⟩:=(hat.s5.ext hxw).get hlt
   have t0:=t 0 _ rfl
   simp only [Nat.add_zero,Nat.mul_one] at t0
   have HX:=hide hxk
   have HP:=hide (List.mem_of_getElem? hxk)
   clear hxk t
   go_wp2_with fail
   refine wp_region_ph [([0,1,2,3,4,5,6],7)] [8] (by kernel_rfl) (by kernel_rfl) (by intro c a w d v h; cases d <;> exact h) ?_
   simp only [wpPh,pickL,nthO]
   repeat (go_big_quiet_step (fail))
   refine wpQuiet_nil ?_
   go_wp2_with fail
   refine (c_l28List A1 A2 n1 c1 n2 c2 p.A p.n p.c p.xs _ (by omega) ((hat.s6 p HP.out).ext hxw.drew)).mono ?_
   cases hp:readsB n1 p.xs
   ·have HF:=hide (show roomB n1 r=false by rw [HR.out,List.all_eq_false]; exact ⟨p,HP.out,by simp [hp]⟩)
    rintro e w2 ⟨rfl,hx2⟩
    go_wp2_with fail
    refine ⟨hx2,?_⟩
    repeat (go_big_quiet_step (fail))
    refine wpQuiet_nil ?_
    go_wp2_with fail
    go_ret
    exact Ret.bool HF.out (hxw.drew.trans hx2)
   ·rintro e w2 ⟨rfl,hx2⟩
    go_wp2_with fail
    refine ⟨hx2,?_⟩
    repeat (go_big_quiet_step (fail))
    refine wpQuiet_nil ?_
    go_wp2_with fail
    go_roundw
    case rel=>
     refine ⟨k+1,by omega,by go_num,hide fun j q hj hq=> ?_,hx.drew.trans hx2⟩
     by_cases e:j=k
     ·subst e; rw [HX.out] at hq; injection hq with hq; subst hq; exact hp
     ·exact HK.out j q (by omega) hq
    case measure=>simp [intOf]; omega
  ·have HF:=hide (show roomB n1 r=true by
    rw [HR.out,List.all_eq_true]; intro q hq
    obtain ⟨j,hj,rfl⟩:=List.mem_iff_getElem.1 hq
    exact HK.out j _ (by have:=HLN.out; omega) (List.getElem?_eq_getElem hj))
   go_wp2_with fail
   go_ret
   exact Ret.bool HF.out hxw
end Go.Proofs.YtinindjjapblcaaGreatDoor
namespace Go.Proofs.YtinindjjapblcaaGreatDoor
open Go.RowKit
theorem node_info:(Tryz.prog.info? 147).map (fun i=>(i.zero,i.size,i.bytes))=some (some (.agg #[.string ByteArray.empty,.int .i64 0,.int .i64 0]),3,32):=by kernel_rfl
theorem c_toNode (x:Node) (w:World):
  Calls Tryz.prog 119 #[.agg #[.string x.name,.int .i64 x.low,.int .i64 x.high]] w (Ret (.agg #[.string x.name,.int .i64 x.low,.int .i64 x.high]) w):=by
 go_enter Tryz.func119,Tryz.ntmps119
 go_wp2
 exact bodyPost_ret (v:= .agg #[.string x.name,.int .i64 x.low,.int .i64 x.high]) (by simp [results,Tryz.results119,go_sem]) rfl ⟨rfl,(((Ext.refl _).and_alloc _).and_alloc _).and_alloc _⟩
theorem c_eqNode (x:Node) (w:World):
  Calls Tryz.prog 123 #[.agg #[.string x.name,.int .i64 x.low,.int .i64 x.high],.agg #[.string x.name,.int .i64 x.low,.int .i64 x.high]] w (Ret (.bool true) w):=by
 go_enter Tryz.func123,Tryz.ntmps123
 go_wp2
 go_ret
 exact Ret.bool rfl (((Ext.refl _).and_alloc _).and_alloc _)
set_option maxHeartbeats 1000000 in
theorem c_toNodeS (A:Option Addr) (n c:Nat) (ts:List Node) (w:World) (hs:SliceOf w 3 Node.cells A n c ts) (hn:n≤1048576):
  Calls Tryz.prog 67 #[.slice A n c] w (NewRow 147 Node.cells ts w):=by
 have hmk:=fun W=>run_make_flat (P:=Tryz.prog) 24 147 _ _ 3 32 Tryz.underlying24 node_info (f:=Node.cells) ⟨ByteArray.empty,0,0⟩ rfl rfl rfl (by omega) n (by omega) (by omega) W
 have hR0:=Row.new w 147 ((List.replicate n (⟨ByteArray.empty,0,0⟩:Node)).flatMap Node.cells)
 go_enter Tryz.func67,Tryz.ntmps67
 go_wp2_with fail
 go_loopw [4] (fun i wr=>∃(k:Nat) (L:List Node),k≤n∧i= .int .i64 k∧L.length=n∧RowOf wr w.heap.size 147 Node.cells L∧Hid (∀j,j<k→L[j]? =ts[j]?)∧Ext w wr) (fun i _=>n-(intOf i).toNat)
 case atStart=>exact ⟨0,_,Nat.zero_le _,rfl,List.length_replicate,hR0,hide (fun j hj=>absurd hj (by omega)),Ext.alloc _ _⟩
 case round=>
  obtain ⟨k,L,hk,rfl,hL,hrow,HK,hx⟩:=hrel
  clear hR0 hmk
  have hgs:=hrow.lt
  by_cases hlt:k<n
  ·obtain ⟨b,off,x,rfl,hb,hxk,hc⟩:=(hs.ext hx).get hlt
   have hc0:=hc 0 _ rfl
   have hc1:=hc 1 _ rfl
   have hc2:=hc 2 _ rfl
   clear hc
   simp only [Nat.add_zero] at hc0
   have Hx:=hide hxk
   have HL:=hide hL
   clear hxk hL
   go_wp2_with (go_at_call 119; refine (c_toNode x _).mono ?_; rintro e w1 ⟨rfl,hx1⟩; have hrow1:=hrow.ext hx1; obtain ⟨v0,hv0⟩:=hrow1.there node_len (i:=k) (by rw [HL.out]; exact hlt) (j:=0) (by omega); have hf0:=hrow1.frozen (k*3); obtain ⟨v1,hv1⟩:=hrow1.there node_len (i:=k) (by rw [HL.out]; exact hlt) (j:=1) (by omega); have hf1:=hrow1.frozen (k*3+1); obtain ⟨v2,hv2⟩:=hrow1.there node_len (i:=k) (by rw [HL.out]; exact hlt) (j:=2) (by omega); have hf2:=hrow1.frozen (k*3+2); rw [Nat.add_zero] at hv0)
   go_roundw
   case rel=>
    refine ⟨k+1,L.set k x,by omega,by go_num,by simpa using HL.out,hrow1.put node_len (by rw [HL.out]; exact hlt) x,hide ?_,(hx.trans hx1).put (Nat.le_refl _) (k*3) x.cells⟩
    intro j hj
    rw [List.getElem?_set]
    by_cases e:k=j
    ·subst e; rw [if_pos rfl,if_pos (by rw [HL.out]; exact hlt),Hx.out]
    ·rw [if_neg e]; exact HK.out j (by omega)
   case measure=>simp [intOf]; omega
  ·go_wp2
   go_ret
   have hLts:L=ts:=by
    apply List.ext_getElem?
    intro j
    by_cases hj:j<n
    ·exact HK.out j (by omega)
    ·rw [List.getElem?_eq_none (by omega),List.getElem?_eq_none (by have:=hs.len; omega)]
   subst hLts
   refine ⟨w.heap.size,?_,Nat.le_refl _,hrow,hx⟩
   rw [hL]; rfl
set_option maxHeartbeats 1000000 in
theorem c_eqNodeS (A A':Option Addr) (n c n' c':Nat) (ts:List Node) (w:World) (hs:SliceOf w 3 Node.cells A n c ts) (hs':SliceOf w 3 Node.cells A' n' c' ts):
  Calls Tryz.prog 72 #[.slice A n c,.slice A' n' c'] w (Ret (.bool true) w):=by
 have hl:=hs.len
 obtain rfl:n=n':=by rw [hs.len,hs'.len]
 have hm:=hs.max
 have hcp:=hs.cap
 clear hl
 go_enter Tryz.func72,Tryz.ntmps72
 go_wp2_with fail
 go_loopw [5] (fun i wr=>∃(k:Nat),k≤n∧i= .int .i64 k∧Ext w wr) (fun i _=>n-(intOf i).toNat)
 case atStart=>exact ⟨0,Nat.zero_le _,rfl,Ext.refl _⟩
 case round=>
  obtain ⟨k,hk,rfl,hx⟩:=hrel
  by_cases hlt:k<n
  ·obtain ⟨b,off,x,rfl,hb,hxk,hc⟩:=(hs.ext hx).get hlt
   obtain ⟨b',off',x',rfl,hb',hxk',hc'⟩:=(hs'.ext hx).get hlt
   obtain rfl:x=x':=by rw [hxk] at hxk'; injection hxk'
   have hc0:=hc 0 _ rfl
   have hc1:=hc 1 _ rfl
   have hc2:=hc 2 _ rfl
   have hd0:=hc' 0 _ rfl
   have hd1:=hc' 1 _ rfl
   have hd2:=hc' 2 _ rfl
   clear hc hc' hxk hxk'
   simp only [Nat.add_zero] at hc0 hd0
   go_wp2_with fail
   refine wp_region_later (by kernel_rfl) (by kernel_rfl) ?_
   repeat (go_big_quiet_step ((go_at_call 123; exact quiet_later (c_eqNode x _))))
   refine wpQuiet_nil ?_
   intro w1 hx1
   go_wp2
   go_roundw
   case rel=>exact ⟨k+1,by omega,by go_num,hx.trans hx1⟩
   case measure=>simp [intOf]; omega
  ·go_wp2
   go_ret
   exact Ret.bool rfl hx
end Go.Proofs.YtinindjjapblcaaGreatDoor
namespace Go.Proofs.YtinindjjapblcaaGreatDoor
open Go.RowKit
theorem node_one' (y:Node):∀u∈y.cells,u.oneCell'=true:=by intro u hu; simp [Node.cells] at hu; rcases hu with rfl | rfl | rfl <;> rfl
theorem pipe_one' (y:Pipe):∀u∈y.cells,u.oneCell'=true:=by intro u hu; simp [Pipe.cells] at hu; rcases hu with rfl | rfl | rfl | rfl | rfl <;> rfl
theorem new_one {α:Type} {size:Nat} {f:α→List Value} (hf:∀x,(f x).length=size) (W:World) (t:TypeId) (x:α):SliceOf (W.alloc (.cells (f x).toArray t)) size f (some ⟨W.heap.size,0,none⟩) 1 1 [x]:=by
 have h:RowOf (W.alloc (.cells (f x).toArray t)) W.heap.size t f [x]:=by
  have h0:=Row.new W t (f x)
  unfold RowOf
  rw [List.flatMap_cons,List.flatMap_nil,List.append_nil]
  exact h0
 exact h.slice hf rfl (by omega)
def Short (ns:List Node):Prop:=∀x∈ns,x.name.size≤100
theorem Short.snoc {ns:List Node} (h:Short ns) {x:Node} (hx:x.name.size≤100):Short (ns++[x]):=by
 intro y hy
 rcases List.mem_append.1 hy with hy | hy
 ·exact h y hy
 ·obtain rfl:=List.mem_singleton.1 hy; exact hx
structure NSt (w0 w:World) (a:Nat) (A:Option Addr) (n c:Nat) (v1 v2:Value) (ns:List Node) (ps:List Pipe) (wr:World):Prop where
 lt:a<w.heap.size
 src:Src w0 wr a A n c
 only:Only a w wr
 res:Row wr w.heap.size 27 [.slice none 0 0,.slice none 0 0]
 o1:OwnL wr (w.heap.size+1) 147 3 Node.cells v1 ns
 o2:OwnL wr (w.heap.size+1) 149 5 Pipe.cells v2 ps
 nm:Short ns
def DrawnNet (w0:World) (a:Nat) (A:Option Addr) (n c:Nat) (w:World) (e:Ending) (w':World):Prop:=
 ∃(v1 v2:Value) (ns:List Node) (ps:List Pipe),e= .returned (.agg #[v1,v2])∧Src w0 w' a A n c∧Only a w w'∧OwnL w' (w.heap.size+1) 147 3 Node.cells v1 ns∧OwnL w' (w.heap.size+1) 149 5 Pipe.cells v2 ps∧1≤ns.length∧ns.length≤7∧ps.length≤12∧Short ns
section
variable {w0 w wr wr':World} {a n c:Nat} {A:Option Addr} {v1 v2 v':Value} {ns:List Node} {ps:List Pipe}
theorem OwnL.onlyA {α:Type} {base g:Nat} {e:TypeId} {size:Nat} {f:α→List Value} {v:Value} {L:List α} (h:OwnL w base e size f v L) (hx:Only g w wr) (hg:g<base):OwnL wr base e size f v L:=h.only hx hg
theorem NSt.draw (h:NSt w0 w a A n c v1 v2 ns ps wr) (hs:Src w0 wr' a A n c) (ho:Only a wr wr'):NSt w0 w a A n c v1 v2 ns ps wr':=
 have hl:=h.lt
 ⟨h.lt,hs,h.only.trans ho,h.res.only ho (by omega),h.o1.only ho (by omega),h.o2.only ho (by omega),h.nm⟩
theorem NSt.more (h:NSt w0 w a A n c v1 v2 ns ps wr) (hx:Ext wr wr'):NSt w0 w a A n c v1 v2 ns ps wr':=h.draw (h.src.more hx) (Only.of_ext hx a)
theorem NSt.app1 (h:NSt w0 w a A n c v1 v2 ns ps wr) (hg:wr.grownBy wr' v1.ownBlock) {ns':List Node} (ho:OwnL wr' (w.heap.size+1) 147 3 Node.cells v' ns') (hn:Short ns'):NSt w0 w a A n c v' v2 ns' ps wr':=by
 have hl:=h.lt
 have hle:=h.src.le0
 have hb:=fun k (hk:v1.ownBlock=some k)=>h.o1.block_le hk
 refine ⟨h.lt,h.src.grow hg (fun k hk=>by have:=hb k hk; omega),h.only.grown hg (fun k hk=> .inl (by have:=hb k hk; omega)),h.res.grown hg (fun e=>by have:=hb _ e; omega),ho,h.o2.grown hg (fun k hk=> ?_),hn⟩
 exact fun e=>OwnL.apart h.o1 h.o2 (by decide) k hk e
theorem NSt.app2 (h:NSt w0 w a A n c v1 v2 ns ps wr) (hg:wr.grownBy wr' v2.ownBlock) {ps':List Pipe} (ho:OwnL wr' (w.heap.size+1) 149 5 Pipe.cells v' ps'):NSt w0 w a A n c v1 v' ns ps' wr':=by
 have hl:=h.lt
 have hle:=h.src.le0
 have hb:=fun k (hk:v2.ownBlock=some k)=>h.o2.block_le hk
 refine ⟨h.lt,h.src.grow hg (fun k hk=>by have:=hb k hk; omega),h.only.grown hg (fun k hk=> .inl (by have:=hb k hk; omega)),h.res.grown hg (fun e=>by have:=hb _ e; omega),h.o1.grown hg (fun k hk=> ?_),ho,h.nm⟩
 exact fun e=>OwnL.apart h.o2 h.o1 (by decide) k hk e
theorem NSt.fin (h:NSt w0 w a A n c v1 v2 ns ps wr) (h1:1≤ns.length) (h2:ns.length≤7) (h3:ps.length≤12):
  DrawnNet w0 a A n c w (.returned (.agg #[v1,v2])) (putCells wr w.heap.size 0 [v1,v2]):=by
 have hl:=h.lt
 have hle:=h.src.le0
 exact ⟨v1,v2,ns,ps,rfl,h.src.put (by omega) (by omega) _ _,h.only.putNew (Nat.le_refl _) _ _,h.o1.put h.res (by decide) _ _,h.o2.put h.res (by decide) _ _,h1,h2,h3,h.nm⟩
set_option maxHeartbeats 2000000 in
theorem c_l02Draw (h:Src w0 w a A n c):
  Calls Tryz.prog 189 #[.pointer (some ⟨a,0,none⟩)] w (DrawnNet w0 a A n c w):=by
 have hal:=h.lt
 have hle:=h.le0
 have hR:=Row.new w 27 [.slice none 0 0,.slice none 0 0]
 go_enter Tryz.func189,Tryz.ntmps189
 go_wp2_with fail
 refine (c_next 7 (h.more (Ext.alloc _ _)) (by omega) (by omega)).mono ?_
 rintro e w1 ⟨x1,rfl,hx1,hx1',hs1,ho1⟩
 obtain ⟨q,rfl⟩:=Int.eq_ofNat_of_zero_le hx1
 have hq:q≤6:=by omega
 have hz1:=ho1.size
 simp at hz1
 have hD1:NSt w0 w a A n c (.slice (some ⟨w1.heap.size,0,none⟩) 0 0) (.slice (some ⟨w1.heap.size+1,0,none⟩) 0 0) [] [] ((w1.alloc (.cells #[] 147)).alloc (.cells #[] 149)):=by
  refine ⟨hal,(hs1.more (Ext.alloc _ _)).more (Ext.alloc _ _),((((Only.of_ext (Ext.alloc w _) a).trans ho1).trans (Only.of_ext (Ext.alloc _ _) a)).trans (Only.of_ext (Ext.alloc _ _) a)),((hR.only ho1 (by omega)).ext (Ext.alloc _ _)).ext (Ext.alloc _ _),(OwnL.empty w1 _ _ _ _ (by omega)).ext (Ext.alloc _ _),?_,by intro x hx; cases hx⟩
  have h2:=OwnL.empty (w1.alloc (.cells #[] 147)) (w.heap.size+1) 149 5 Pipe.cells (by simp; omega)
  rw [World.size_alloc] at h2
  exact h2
 clear hR hs1 ho1
 have e1:(1:Int)+(q:Int)=((q+1:Nat):Int):=by omega
 go_wp2_with fail
 go_loopw [4,5,6] (fun u1 u2 i wr=>∃(k:Nat) (ns:List Node) (ps:List Pipe),k≤q+1∧i= .int .i64 k∧ns.length=k∧ps.length≤k∧NSt w0 w a A n c u1 u2 ns ps wr) (fun _ _ i _=>q+1-(intOf i).toNat)
 case atStart=>exact ⟨0,[],[],Nat.zero_le _,rfl,rfl,Nat.le_refl _,hD1⟩
 case round=>
  obtain ⟨k,ns,ps,hk,rfl,hns,hps,hD⟩:=hrel
  clear hD1
  have hszr:=hD.res.lt
  by_cases hlt:k<q+1
  ·have d1:decide ((k:Int)<(q:Int)+1)=true:=decide_eq_true (by omega)
   go_wp2_with fail
   refine (c_l02DrawNode k (by omega) hD.src).mono ?_
   rintro e w2 ⟨x,rfl,hxn,hs2,ho2⟩
   have hD2:=hD.draw hs2 ho2
   have hsz2:=hD2.res.lt
   clear hD hs2 ho2
   go_wp2_with (at_builtin; go_must (refine wpList_append_grow rfl _ _ 24 rfl (w.heap.size+1) 147 _ 3 32 Tryz.underlying24 node_info rfl (by decide) Node.cells node_len node_one' _ _ rfl (hD2.o1.ext (Ext.alloc _ _)) _ 1 1 [x] rfl (new_one node_len w2 147 x) (by simp; omega) (by omega) (by first | exact Nat.le_refl _ | omega | (simp; done) | (simp; omega)) ?_))
   intro v3 w3 hown3 hg3
   have hD3:=(hD2.more (Ext.alloc w2 (.cells #[.string x.name,.int .i64 x.low,.int .i64 x.high] 147))).app1 hg3 hown3 (hD2.nm.snoc hxn)
   clear hD2 hown3 hg3
   by_cases h0:k=0
   ·subst h0
    go_wp2_with fail
    go_roundw
    case rel=>exact ⟨1,_,_,by omega,by go_num,by rw [List.length_append,hns]; rfl,by omega,hD3⟩
    case measure=>simp [intOf]
   ·have d2:decide ((0:Int)<(k:Int))=true:=decide_eq_true (by omega)
    go_wp2_with fail
    refine (c_next 16 hD3.src (by omega) (by omega)).mono ?_
    rintro e w4 ⟨x4,rfl,hx4,hx4',hs4,ho4⟩
    have hD4:=hD3.draw hs4 ho4
    clear hD3 hs4 ho4
    by_cases h4:0<x4
    ·have d4:decide (0<x4)=true:=decide_eq_true h4
     go_wp2_with fail
     refine (c_next (k:Int) hD4.src (by omega) (by omega)).mono ?_
     rintro e w5 ⟨x5,rfl,hx5,hx5',hs5,ho5⟩
     have hD5:=hD4.draw hs5 ho5
     clear hD4 hs5 ho5
     go_wp2_with fail
     refine (c_l02DrawPipe x5 k hD5.src).mono ?_
     rintro e w6 ⟨p,rfl,hs6,ho6⟩
     have hD6:=hD5.draw hs6 ho6
     have hsz6:=hD6.res.lt
     clear hD5 hs6 ho6
     go_wp2_with (at_builtin; go_must (refine wpList_append_grow rfl _ _ 25 rfl (w.heap.size+1) 149 _ 5 40 Tryz.underlying25 pipe_info rfl (by decide) Pipe.cells pipe_len pipe_one' _ _ rfl (hD6.o2.ext (Ext.alloc _ _)) _ 1 1 [p] rfl (new_one pipe_len w6 149 p) (by simp; omega) (by omega) (by first | exact Nat.le_refl _ | omega | (simp; done) | (simp; omega)) ?_))
     intro v7 w7 hown7 hg7
     have hD7:=(hD6.more (Ext.alloc w6 (.cells #[.int .i64 p.src,.int .i64 p.dst,.int .i64 p.k,.int .i64 p.volume,.int .i64 p.limit] 149))).app2 hg7 hown7
     clear hD6 hown7 hg7
     go_wp2_with fail
     go_roundw
     case rel=>exact ⟨k+1,_,_,by omega,by go_num,by simp; omega,by simp; omega,hD7⟩
     case measure=>simp [intOf]; omega
    ·have d4:decide (0<x4)=false:=decide_eq_false h4
     go_wp2_with fail
     go_roundw
     case rel=>exact ⟨k+1,_,_,by omega,by go_num,by simp; omega,by omega,hD4⟩
     case measure=>simp [intOf]; omega
  ·obtain rfl:k=q+1:=by omega
   have d1:decide (((q+1:Nat):Int)<(q:Int)+1)=false:=decide_eq_false (by omega)
   go_wp2_with fail
   refine (c_next 3 hD.src (by omega) (by omega)).mono ?_
   rintro e w2 ⟨x2,rfl,hx2,hx2',hs2,ho2⟩
   have hD2:=hD.draw hs2 ho2
   clear hD hs2 ho2
   go_wp2_with fail
   go_loopw [5,7] (fun u2 i wr=>∃(j:Nat) (ps:List Pipe),j≤2∧i= .int .i64 j∧ps.length+j≤9∧NSt w0 w a A n c u4 u2 ns ps wr) (fun _ i _=>(intOf i).toNat)
   case atStart=>
    refine ⟨x2.toNat,ps,by omega,by rw [Int.toNat_of_nonneg hx2],by omega,hD2⟩
   case round=>
    obtain ⟨j,ps,hj,rfl,hps,hD⟩:=hrel
    clear hD2
    have hszr:=hD.res.lt
    by_cases hgo:0<j∧1≤q
    ·obtain ⟨hj0,hq1⟩:=hgo
     have d2:decide ((0:Int)<(j:Int))=true:=decide_eq_true (by omega)
     have d3:decide ((1:Int)<(q:Int)+1)=true:=decide_eq_true (by omega)
     go_wp2_with fail
     refine (c_next ((q:Int)+1) hD.src (by omega) (by omega)).mono ?_
     rintro e w3 ⟨x3,rfl,hx3,hx3',hs3,ho3⟩
     have hD3:=hD.draw hs3 ho3
     clear hD hs3 ho3
     have e2:IntKind.i64.wrap ((q:Int)+1-1)=(q:Int):=by rw [IntWalk.i64_in _ (by omega)]; omega
     go_wp2_with fail
     refine (c_next _ hD3.src (by omega) (by omega)).mono ?_
     rintro e w4 ⟨x4,rfl,hx4,hx4',hs4,ho4⟩
     have hD4:=hD3.draw hs4 ho4
     clear hD3 hs4 ho4
     go_wp2_with fail
     refine (c_l02DrawPipe _ _ hD4.src).mono ?_
     rintro e w6 ⟨p,rfl,hs6,ho6⟩
     have hD6:=hD4.draw hs6 ho6
     have hsz6:=hD6.res.lt
     clear hD4 hs6 ho6
     go_wp2_with (at_builtin; go_must (refine wpList_append_grow rfl _ _ 25 rfl (w.heap.size+1) 149 _ 5 40 Tryz.underlying25 pipe_info rfl (by decide) Pipe.cells pipe_len pipe_one' _ _ rfl (hD6.o2.ext (Ext.alloc _ _)) _ 1 1 [p] rfl (new_one pipe_len w6 149 p) (by simp; omega) (by omega) (by first | exact Nat.le_refl _ | omega | (simp; done) | (simp; omega)) ?_))
     intro v7 w7 hown7 hg7
     have hD7:=(hD6.more (Ext.alloc w6 (.cells #[.int .i64 p.src,.int .i64 p.dst,.int .i64 p.k,.int .i64 p.volume,.int .i64 p.limit] 149))).app2 hg7 hown7
     clear hD6 hown7 hg7
     go_wp2_with fail
     go_roundw
     case rel=>exact ⟨j-1,_,by omega,by go_num,by simp; omega,hD7⟩
     case measure=>simp [intOf]; omega
    ·obtain ⟨A1,c1,e4,_,_⟩:=hD.o1.form
     rw [hns] at e4
     subst e4
     obtain ⟨A2,c2,rfl,_,_⟩:=hD.o2.form
     have hF:=hide (hD.fin (by omega) (by omega) (by omega))
     have r0:=hD.res.cell 0
     have r1:=hD.res.cell 1
     simp at r0 r1
     have f0:=hD.res.frozen 0
     have f1:=hD.res.frozen 1
     clear hD
     by_cases hj0:j=0
     ·subst hj0
      go_wp2_with fail
      refine bodyPost_ret (v:= .agg #[.slice A1 (q+1) c1,.slice A2 ps.length c2]) (by simp [results,Tryz.results189,go_sem,r0,r1]) rfl ?_
      exact hF.out
     ·have d2:decide ((0:Int)<(j:Int))=true:=decide_eq_true (by omega)
      have d3:decide ((1:Int)<(q:Int)+1)=false:=decide_eq_false (by omega)
      go_wp2_with fail
      refine bodyPost_ret (v:= .agg #[.slice A1 (q+1) c1,.slice A2 ps.length c2]) (by simp [results,Tryz.results189,go_sem,r0,r1]) rfl ?_
      exact hF.out
end
end Go.Proofs.YtinindjjapblcaaGreatDoor
