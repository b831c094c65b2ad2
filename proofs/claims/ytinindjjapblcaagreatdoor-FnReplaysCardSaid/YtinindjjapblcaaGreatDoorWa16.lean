/-
  The reference's draw of an event.
-/
import Derived.Test.YtinindjjapblcaaGreatDoorWa01
import Derived.Test.YtinindjjapblcaaGreatDoorWa02
import Derived.Test.YtinindjjapblcaaGreatDoorWa15
import Derived.Test.YtinindjjapblcaaGreatDoorWa08
namespace Go.Proofs.YtinindjjapblcaaGreatDoor
open Go.RowKit
theorem SrcAt.ext {w w':World} {a n c:Nat} {A:Option Addr} (h:SrcAt w a A n c) (hx:Ext w w'):SrcAt w' a A n c:=
 let ⟨p,s,hr,r⟩:=h; ⟨p,s,hr.ext hx,r⟩
theorem SrcAt.only {w w':World} {a g n c:Nat} {A:Option Addr} (h:SrcAt w a A n c) (hx:Only g w w') (hne:a≠g):SrcAt w' a A n c:=
 let ⟨p,s,hr,r⟩:=h; ⟨p,s,hr.only hx hne,r⟩
theorem SrcAt.lt {w:World} {a n c:Nat} {A:Option Addr} (h:SrcAt w a A n c):a<w.heap.size:=let ⟨_,_,hr,_⟩:=h; hr.lt
theorem SrcAt.kept {w w':World} {a n c base:Nat} {A:Option Addr} (h:SrcAt w a A n c) (hx:Kept base w w') (hb:a<base):SrcAt w' a A n c:=
 let ⟨p,s,hr,r⟩:=h; ⟨p,s,hr.kept hx hb,r⟩
def DrawnEv (a:Nat) (A:Option Addr) (n c:Nat) (w:World) (e:Ending) (w':World):Prop:=
 ∃p:Event,e= .returned (.agg #[.int .i64 p.kind,.int .i64 p.a,.int .i64 p.b,.int .i64 p.c,.int .i64 p.d])∧SrcAt w' a A n c∧Only a w w'
structure ESt (w0 w:World) (a:Nat) (A:Option Addr) (n c b3:Nat) (x1 x2 x3 x4 x5:Int) (wr:World):Prop where
 le0:w0.heap.size≤a
 lt1:a<w.heap.size
 lt2:w.heap.size<b3
 size:b3<wr.heap.size
 ext:Ext w0 wr
 src:SrcAt wr a A n c
 only:Only a w wr
 row2:Row wr w.heap.size 54 [.int .i64 0,.int .i64 0,.int .i64 0,.int .i64 0,.int .i64 0]
 row3:Row wr b3 54 [.int .i64 x1,.int .i64 x2,.int .i64 x3,.int .i64 x4,.int .i64 x5]
section
variable {w0 w wr wr':World} {a n c b3:Nat} {A:Option Addr} {x1 x2 x3 x4 x5:Int}
theorem ESt.draw (h:ESt w0 w a A n c b3 x1 x2 x3 x4 x5 wr) (ho:Only a wr wr') (hs:SrcAt wr' a A n c):ESt w0 w a A n c b3 x1 x2 x3 x4 x5 wr':=
 ⟨h.le0,h.lt1,h.lt2,Nat.lt_of_lt_of_le h.size ho.size,h.ext.only ho h.le0,hs,h.only.trans ho,h.row2.only ho (by have:=h.lt1; omega),h.row3.only ho (by have:=h.lt1; have:=h.lt2; omega)⟩
theorem ESt.more (h:ESt w0 w a A n c b3 x1 x2 x3 x4 x5 wr) (hx:Ext wr wr'):ESt w0 w a A n c b3 x1 x2 x3 x4 x5 wr':=h.draw (Only.of_ext hx a) (h.src.ext hx)
theorem ESt.set3 (h:ESt w0 w a A n c b3 x1 x2 x3 x4 x5 wr) (i:Nat) (u:Value) {y1 y2 y3 y4 y5:Int} (he:[.int .i64 x1,.int .i64 x2,.int .i64 x3,.int .i64 x4,.int .i64 x5].set i u=[.int .i64 y1,.int .i64 y2,.int .i64 y3,.int .i64 y4,.int .i64 y5]):ESt w0 w a A n c b3 y1 y2 y3 y4 y5 (wr.setCell ⟨b3,i,none⟩ u):=by
 obtain ⟨l0,l1,l2,sz,ex,sr,on,r2,r3⟩:=h
 have ho:Only b3 wr (wr.setCell ⟨b3,i,none⟩ u):=(Only.refl b3 wr).setCell rfl u
 refine ⟨l0,l1,l2,Nat.lt_of_lt_of_le sz ho.size,ex.setCell (p:=⟨b3,i,none⟩) (by show w0.heap.size≤b3; omega) u,sr.only ho (by omega),?_,r2.only ho (by omega),he ▸ r3.set_ i u⟩
 exact ⟨ho.os.trans on.os,ho.tape.trans on.tape,ho.output.trans on.output,Nat.le_trans on.size ho.size,fun k hk hne=>(ho.block k (Nat.lt_of_lt_of_le hk on.size) (by simp; omega)).trans (on.block k hk hne)⟩
theorem ESt.fin (h:ESt w0 w a A n c b3 x1 x2 x3 x4 x5 wr):DrawnEv a A n c w (.returned (.agg #[.int .i64 x1,.int .i64 x2,.int .i64 x3,.int .i64 x4,.int .i64 x5])) (putCells wr w.heap.size 0 [.int .i64 x1,.int .i64 x2,.int .i64 x3,.int .i64 x4,.int .i64 x5]):=by
 obtain ⟨l0,l1,l2,sz,ex,sr,on,r2,r3⟩:=h
 have hk:Only w.heap.size wr (putCells wr w.heap.size 0 [.int .i64 x1,.int .i64 x2,.int .i64 x3,.int .i64 x4,.int .i64 x5]):=(Only.refl _ _).put _ _
 refine ⟨⟨x1,x2,x3,x4,x5⟩,rfl,sr.only hk (by omega),?_⟩
 exact ⟨hk.os.trans on.os,hk.tape.trans on.tape,hk.output.trans on.output,Nat.le_trans on.size hk.size,fun k hk1 hne=>(hk.block k (Nat.lt_of_lt_of_le hk1 on.size) (by simp; omega)).trans (on.block k hk1 hne)⟩
end
set_option maxHeartbeats 2000000 in
theorem c_l32DrawOne (a:Nat) (A:Option Addr) (n c:Nat) (bs:List Int) (w0 w:World) (hbs:SliceOf w0 1 byteC A n c bs) (hbd:∀z∈bs,0≤z∧z≤255) (hx0:Ext w0 w) (ha:w0.heap.size≤a) (hsrc:SrcAt w a A n c) (hn:n≤1048576):
  Calls Tryz.prog 113 #[.pointer (some ⟨a,0,none⟩)] w (DrawnEv a A n c w):=by
 have nxt:=fun (m:Int) (w:World) hx0 hsrc=>c_l01Next a m A n c bs w0 w hbs hbd hx0 ha hsrc hn
 have NX:=hide nxt
 clear nxt
 have hal:=hsrc.lt
 go_enter Tryz.func113,Tryz.ntmps113
 go_wp2_with fail
 refine (NX.out 3 _ (hx0.and_alloc _) (hsrc.ext (Ext.alloc _ _)) (by omega) (by omega)).mono ?_
 rintro e w1 ⟨x1,rfl,hx1,hx1',hs1,ho1⟩
 have hE1:=(hx0.and_alloc _).only ho1 ha
 go_wp2_with fail
 refine (NX.out 4 _ hE1 hs1 (by omega) (by omega)).mono ?_
 rintro e w2 ⟨x2,rfl,hx2,hx2',hs2,ho2⟩
 have hE2:=hE1.only ho2 ha
 go_wp2_with fail
 refine (NX.out 8 _ hE2 hs2 (by omega) (by omega)).mono ?_
 rintro e w3 ⟨x3,rfl,hx3,hx3',hs3,ho3⟩
 have hE3:=hE2.only ho3 ha
 go_wp2_with fail
 refine (NX.out 12 _ hE3 hs3 (by omega) (by omega)).mono ?_
 rintro e w4 ⟨x4,rfl,hx4,hx4',hs4,ho4⟩
 have hE4:=hE3.only ho4 ha
 go_wp2_with fail
 refine (NX.out 60 _ hE4 hs4 (by omega) (by omega)).mono ?_
 rintro e w5 ⟨x5,rfl,hx5,hx5',hs5,ho5⟩
 have hE5:=hE4.only ho5 ha
 have hR2:=((((Row.new w 54 [.int .i64 0,.int .i64 0,.int .i64 0,.int .i64 0,.int .i64 0]).only ho1 (by omega)).only ho2 (by omega)).only ho3 (by omega)).only ho4 (by omega) |>.only ho5 (by omega)
 have hO5:=(((((Only.of_ext (Ext.alloc w _) a).trans ho1).trans ho2).trans ho3).trans ho4).trans ho5
 have hsz5:=hR2.lt
 have hD:ESt w0 w a A n c w5.heap.size (1+x1) x2 x3 (x4-8) x5 (w5.alloc (.cells #[.int .i64 (1+x1),.int .i64 x2,.int .i64 x3,.int .i64 (x4-8),.int .i64 x5] 54)):=
  ⟨ha,hal,hsz5,by simp,hE5.and_alloc _,hs5.ext (Ext.alloc _ _),hO5.trans (Only.of_ext (Ext.alloc _ _) _),hR2.alloc _,Row.new w5 _ _⟩
 clear hE1 hE2 hE3 hE4 hE5 hR2 hO5 ho1 ho2 ho3 ho4 ho5 hs1 hs2 hs3 hs4 hs5
 go_wp2_with fail
 refine (NX.out 60 _ hD.ext hD.src (by omega) (by omega)).mono ?_
 rintro e w6 ⟨x6,rfl,hx6,hx6',hs6,ho6⟩
 have hD5:=hD.draw ho6 hs6
 have hz6:=ho6.size
 simp at hz6
 have hlt6:=hD5.size
 clear hD ho6 hs6
 by_cases h0:x6=0
 ·subst h0
  have hD6:=hD5.more (Ext.alloc w6 (.cells #[.int .i64 0,.int .i64 4] 2))
  go_wp2_with fail
  refine (NX.out 2 _ hD6.ext hD6.src (by omega) (by omega)).mono ?_
  rintro e w7 ⟨y,rfl,hy1,hy2,hs7,ho7⟩
  have hD7:=hD6.draw ho7 hs7
  have hR7:=(Row.new w6 2 [.int .i64 0,.int .i64 4]).only ho7 (by omega)
  obtain ⟨j,rfl⟩:=Int.eq_ofNat_of_zero_le hy1
  have hj:j<2:=by omega
  obtain ⟨z,hz⟩:∃z,w7.cell? ⟨w6.heap.size,j,none⟩=some (.int .i64 z):=by
   rw [hR7.cell]; rcases (show j=0∨j=1 by omega) with rfl | rfl <;> exact ⟨_,rfl⟩
  have p0:=hD7.row3.cell 0
  have p1:=hD7.row3.cell 1
  have p2:=hD7.row3.cell 2
  have p3:=hD7.row3.cell 3
  have p4:=hD7.row3.cell 4
  simp at p0 p1 p2 p3 p4
  have g0:=hD7.row3.frozen 0
  have g1:=hD7.row3.frozen 1
  have g2:=hD7.row3.frozen 2
  have g3:=hD7.row3.frozen 3
  have g4:=hD7.row3.frozen 4
  have hl7:=hD7.row3.lt
  have q0:=hD7.row2.cell 0
  have q1:=hD7.row2.cell 1
  have q2:=hD7.row2.cell 2
  have q3:=hD7.row2.cell 3
  have q4:=hD7.row2.cell 4
  simp at q0 q1 q2 q3 q4
  have f0:=hD7.row2.frozen 0
  have f1:=hD7.row2.frozen 1
  have f2:=hD7.row2.frozen 2
  have f3:=hD7.row2.frozen 3
  have f4:=hD7.row2.frozen 4
  have hl2:=hD7.row2.lt
  have hD8:=hD7.set3 0 (.int .i64 z) rfl
  have hb7:=hR7.lt
  have HF:=hide hD8.fin
  clear hR7 ho7 hD6 hs7 hD7 hD8
  go_wp2_with fail
  refine bodyPost_ret (v:= .agg #[.int .i64 z,.int .i64 x2,.int .i64 x3,.int .i64 (x4-8),.int .i64 x5]) (by simp [results,Tryz.results113,go_sem,q0,q1,q2,q3,q4]) rfl ?_
  exact HF.out
 ·by_cases h1:x6=1
  ·subst h1
   have hD6:=hD5.more (Ext.alloc w6 (.cells #[.int .i64 30000,.int .i64 30001,.int .i64 (-30000)] 2))
   go_wp2_with fail
   refine (NX.out 3 _ hD6.ext hD6.src (by omega) (by omega)).mono ?_
   rintro e w7 ⟨y,rfl,hy1,hy2,hs7,ho7⟩
   have hD7:=hD6.draw ho7 hs7
   have hR7:=(Row.new w6 2 [.int .i64 30000,.int .i64 30001,.int .i64 (-30000)]).only ho7 (by omega)
   obtain ⟨j,rfl⟩:=Int.eq_ofNat_of_zero_le hy1
   have hj:j<3:=by omega
   obtain ⟨z,hz⟩:∃z,w7.cell? ⟨w6.heap.size,j,none⟩=some (.int .i64 z):=by
    rw [hR7.cell]; rcases (show j=0∨j=1∨j=2 by omega) with rfl | rfl | rfl <;> exact ⟨_,rfl⟩
   have p0:=hD7.row3.cell 0
   have p1:=hD7.row3.cell 1
   have p2:=hD7.row3.cell 2
   have p3:=hD7.row3.cell 3
   have p4:=hD7.row3.cell 4
   simp at p0 p1 p2 p3 p4
   have g0:=hD7.row3.frozen 0
   have g1:=hD7.row3.frozen 1
   have g2:=hD7.row3.frozen 2
   have g3:=hD7.row3.frozen 3
   have g4:=hD7.row3.frozen 4
   have hl7:=hD7.row3.lt
   have q0:=hD7.row2.cell 0
   have q1:=hD7.row2.cell 1
   have q2:=hD7.row2.cell 2
   have q3:=hD7.row2.cell 3
   have q4:=hD7.row2.cell 4
   simp at q0 q1 q2 q3 q4
   have f0:=hD7.row2.frozen 0
   have f1:=hD7.row2.frozen 1
   have f2:=hD7.row2.frozen 2
   have f3:=hD7.row2.frozen 3
   have f4:=hD7.row2.frozen 4
   have hl2:=hD7.row2.lt
   have hD8:=hD7.set3 2 (.int .i64 z) rfl
   have hb7:=hR7.lt
   have HF:=hide hD8.fin
   clear hR7 ho7 hD6 hs7 hD7 hD8
   go_wp2_with fail
   refine bodyPost_ret (v:= .agg #[.int .i64 (1+x1),.int .i64 x2,.int .i64 z,.int .i64 (x4-8),.int .i64 x5]) (by simp [results,Tryz.results113,go_sem,q0,q1,q2,q3,q4]) rfl ?_
   exact HF.out
  ·have b0:(x6==0)=false:=by rw [beq_eq_false_iff_ne]; exact h0
   have b1:(x6==1)=false:=by rw [beq_eq_false_iff_ne]; exact h1
   have q0:=hD5.row2.cell 0
   have q1:=hD5.row2.cell 1
   have q2:=hD5.row2.cell 2
   have q3:=hD5.row2.cell 3
   have q4:=hD5.row2.cell 4
   simp at q0 q1 q2 q3 q4
   have k0:=hD5.row3.cell 0
   have k1:=hD5.row3.cell 1
   have k2:=hD5.row3.cell 2
   have k3:=hD5.row3.cell 3
   have k4:=hD5.row3.cell 4
   simp at k0 k1 k2 k3 k4
   have f0:=hD5.row2.frozen 0
   have f1:=hD5.row2.frozen 1
   have f2:=hD5.row2.frozen 2
   have f3:=hD5.row2.frozen 3
   have f4:=hD5.row2.frozen 4
   have hl2:=hD5.row2.lt
   have hl3:=hD5.row3.lt
   have HF:=hide hD5.fin
   go_wp2_with fail
   refine bodyPost_ret (v:= .agg #[.int .i64 (1+x1),.int .i64 x2,.int .i64 x3,.int .i64 (x4-8),.int .i64 x5]) (by simp [results,Tryz.results113,go_sem,q0,q1,q2,q3,q4]) rfl ?_
   exact HF.out
end Go.Proofs.YtinindjjapblcaaGreatDoor
namespace Go.Proofs.YtinindjjapblcaaGreatDoor
open Go.RowKit
def DrawnE (w0:World) (a:Nat) (A:Option Addr) (n c:Nat) (w:World) (e:Ending) (w':World):Prop:=
 ∃p:Event,e= .returned (.agg #[.int .i64 p.kind,.int .i64 p.a,.int .i64 p.b,.int .i64 p.c,.int .i64 p.d])∧Src w0 w' a A n c∧Only a w w'
section
variable {w0 w:World} {a n c:Nat} {A:Option Addr}
theorem c_drawEv (h:Src w0 w a A n c):Calls Tryz.prog 113 #[.pointer (some ⟨a,0,none⟩)] w (DrawnE w0 a A n c w):=by
 obtain ⟨bs,hbs,hbd⟩:=h.code
 refine (c_l32DrawOne a A n c bs w0 w hbs hbd h.ext h.le0 h.src h.hn).mono ?_
 rintro e w' ⟨p,rfl,hs,ho⟩
 exact ⟨p,rfl,h.draw ho hs,ho⟩
set_option maxHeartbeats 4000000 in
theorem c_l33DrawEvent (A1 A2 A3 A4 A5:Option Addr) (n1 c1 n2 c2 n3 c3 n4 c4 n5 c5:Nat) (xs:List Contract) (hB:SliceOf w 8 Contract.cells A3 n3 c3 xs) (hBa:∀b,blkOf A3 n3=some b→b≠a) (hcs:∀x∈xs,CSm x) (m1:n1≤1000) (m3:n3≤1000) (m5:n5≤1000) (h:Src w0 w a A n c):
  Calls Tryz.prog 61 #[.pointer (some ⟨a,0,none⟩),.agg #[.slice A1 n1 c1,.slice A2 n2 c2,.slice A3 n3 c3,.slice A4 n4 c4,.slice A5 n5 c5]] w (DrawnE w0 a A n c w):=by
 have hal:=h.lt
 have hle:=h.le0
 have HCS:=hide hcs
 have HBA:=hide hBa
 clear hcs hBa
 obtain ⟨W0,HW⟩:∃W0,Hid ((w.alloc (.cells #[.slice A1 n1 c1,.slice A2 n2 c2,.slice A3 n3 c3,.slice A4 n4 c4,.slice A5 n5 c5] 32)).alloc (.cells #[.int .i64 0,.int .i64 0,.int .i64 0,.int .i64 0,.int .i64 0] 54)=W0):=⟨_,hide rfl⟩
 have hin:RoomIn W0 w.heap.size A1 A2 A3 A4 A5 n1 c1 n2 c2 n3 c3 n4 c4 n5 c5:=by rw [←HW.out]; exact (RoomIn.new w A1 A2 A3 A4 A5 n1 c1 n2 c2 n3 c3 n4 c4 n5 c5 32).ext (Ext.alloc _ _)
 have hR:Row W0 (w.heap.size+1) 54 [.int .i64 0,.int .i64 0,.int .i64 0,.int .i64 0,.int .i64 0]:=by rw [←HW.out]; exact Row.newG _ _ (by simp)
 have x0:Ext w W0:=by rw [←HW.out]; exact (Ext.alloc _ _).and_alloc _
 obtain ⟨hlt,y0,y1,y2,y3,y4⟩:=id hin
 have e1:IntKind.i64.wrap ((n5:Int)-1)=(n5:Int)-1:=IntWalk.i64_in _ (by omega)
 go_enter Tryz.func61,Tryz.ntmps61
 go_wp2_with fail
 rw [HW.out]
 refine (c_next 5 (h.more x0) (by omega) (by omega)).mono ?_
 rintro e w1 ⟨x,rfl,hx0,hx1,hs1,ho1⟩
 have hO1:=(Only.of_ext x0 a).trans ho1
 have hR1:=hR.only ho1 (by omega)
 have hN1:RoomIn w1 w.heap.size A1 A2 A3 A4 A5 n1 c1 n2 c2 n3 c3 n4 c4 n5 c5:=⟨Nat.lt_of_lt_of_le hlt ho1.size,(ho1.cell hlt (by omega)).trans y0,(ho1.cell hlt (by omega)).trans y1,(ho1.cell hlt (by omega)).trans y2,(ho1.cell hlt (by omega)).trans y3,(ho1.cell hlt (by omega)).trans y4⟩
 clear hin hR y0 y1 y2 y3 y4
 obtain ⟨hlt1,y0,y1,y2,y3,y4⟩:=id hN1
 by_cases h0:x=0
 ·subst h0
  have q0:=hR1.cell 0
  have q1:=hR1.cell 1
  have q2:=hR1.cell 2
  have q3:=hR1.cell 3
  have q4:=hR1.cell 4
  simp at q0 q1 q2 q3 q4
  have qf:=hR1.frozen
  have ql:=hR1.lt
  have hf:DrawnE w0 a A n c w (.returned (.agg #[.int .i64 (3),.int .i64 ((n5:Int)-1),.int .i64 (0),.int .i64 (0),.int .i64 (0)])) (putCells w1 (w.heap.size+1) 0 [.int .i64 (3),.int .i64 ((n5:Int)-1),.int .i64 (0),.int .i64 (0),.int .i64 (0)]):=
   ⟨⟨_,_,_,_,_⟩,rfl,hs1.put (by omega) (by omega) _ _,hO1.putNew (by omega) _ _⟩
  have HF:=hide hf
  clear hf
  go_wp2_with fail
  refine bodyPost_ret (v:= .agg #[.int .i64 (3),.int .i64 ((n5:Int)-1),.int .i64 (0),.int .i64 (0),.int .i64 (0)]) (by simp [results,Tryz.results61,go_sem,q0,q1,q2,q3,q4]) rfl ?_
  exact HF.out
 have b0:(x==0)=false:=by rw [beq_eq_false_iff_ne]; exact h0
 by_cases h12:x=1∨x=2
 ·have key:(x==1)=true∨((x==1)=false∧(x==2)=true):=by
   rcases h12 with rfl | rfl
   ·exact .inl rfl
   ·exact .inr ⟨rfl,rfl⟩
  rcases key with b1 | ⟨b1,b2⟩
  ·go_wp2_with fail
   refine (c_next 40 hs1 (by omega) (by omega)).mono ?_
   rintro e w2 ⟨z,rfl,hz0,hz1,hs2,ho2⟩
   have hO2:=hO1.trans ho2
   have hR2:=hR1.only ho2 (by omega)
   have hz2:=ho2.size
   have j0:=(ho2.cell hlt1 (by omega)).trans y0
   have e2:IntKind.i64.wrap (z-20)=z-20:=IntWalk.i64_in _ (by omega)
   go_wp2_with fail
   refine (c_next n1 hs2 (by omega) (by omega)).mono ?_
   rintro e w3 ⟨u,rfl,hu0,hu1,hs3,ho3⟩
   have hO3:=hO2.trans ho3
   have hR3:=hR2.only ho3 (by omega)
   have q0:=hR3.cell 0
   have q1:=hR3.cell 1
   have q2:=hR3.cell 2
   have q3:=hR3.cell 3
   have q4:=hR3.cell 4
   simp at q0 q1 q2 q3 q4
   have qf:=hR3.frozen
   have ql:=hR3.lt
   have hf:DrawnE w0 a A n c w (.returned (.agg #[.int .i64 (2),.int .i64 (u),.int .i64 (z-20),.int .i64 (0),.int .i64 (0)])) (putCells w3 (w.heap.size+1) 0 [.int .i64 (2),.int .i64 (u),.int .i64 (z-20),.int .i64 (0),.int .i64 (0)]):=
    ⟨⟨_,_,_,_,_⟩,rfl,hs3.put (by omega) (by omega) _ _,hO3.putNew (by omega) _ _⟩
   have HF:=hide hf
   clear hf
   go_wp2_with fail
   refine bodyPost_ret (v:= .agg #[.int .i64 (2),.int .i64 (u),.int .i64 (z-20),.int .i64 (0),.int .i64 (0)]) (by simp [results,Tryz.results61,go_sem,q0,q1,q2,q3,q4]) rfl ?_
   exact HF.out
  ·go_wp2_with fail
   refine (c_next 40 hs1 (by omega) (by omega)).mono ?_
   rintro e w2 ⟨z,rfl,hz0,hz1,hs2,ho2⟩
   have hO2:=hO1.trans ho2
   have hR2:=hR1.only ho2 (by omega)
   have hz2:=ho2.size
   have j0:=(ho2.cell hlt1 (by omega)).trans y0
   have e2:IntKind.i64.wrap (z-20)=z-20:=IntWalk.i64_in _ (by omega)
   go_wp2_with fail
   refine (c_next n1 hs2 (by omega) (by omega)).mono ?_
   rintro e w3 ⟨u,rfl,hu0,hu1,hs3,ho3⟩
   have hO3:=hO2.trans ho3
   have hR3:=hR2.only ho3 (by omega)
   have q0:=hR3.cell 0
   have q1:=hR3.cell 1
   have q2:=hR3.cell 2
   have q3:=hR3.cell 3
   have q4:=hR3.cell 4
   simp at q0 q1 q2 q3 q4
   have qf:=hR3.frozen
   have ql:=hR3.lt
   have hf:DrawnE w0 a A n c w (.returned (.agg #[.int .i64 (2),.int .i64 (u),.int .i64 (z-20),.int .i64 (0),.int .i64 (0)])) (putCells w3 (w.heap.size+1) 0 [.int .i64 (2),.int .i64 (u),.int .i64 (z-20),.int .i64 (0),.int .i64 (0)]):=
    ⟨⟨_,_,_,_,_⟩,rfl,hs3.put (by omega) (by omega) _ _,hO3.putNew (by omega) _ _⟩
   have HF:=hide hf
   clear hf
   go_wp2_with fail
   refine bodyPost_ret (v:= .agg #[.int .i64 (2),.int .i64 (u),.int .i64 (z-20),.int .i64 (0),.int .i64 (0)]) (by simp [results,Tryz.results61,go_sem,q0,q1,q2,q3,q4]) rfl ?_
   exact HF.out
 have b1:(x==1)=false:=by rw [beq_eq_false_iff_ne]; omega
 have b2:(x==2)=false:=by rw [beq_eq_false_iff_ne]; omega
 by_cases h3:x=3
 ·subst h3
  go_wp2_with fail
  refine (c_l21DrawOne (-10) A3 n3 c3 xs (hB.turn (S:=fun b=>b=a) (Turn.of_only hO1 (fun _=>rfl)) HBA.out) HBA.out HCS.out m3 hs1).mono ?_
  rintro e w2 ⟨z,rfl,hs2,ho2⟩
  have hO2:=hO1.trans ho2
  have hR2:=hR1.only ho2 (by omega)
  have hx3:Ext w2 (w2.alloc (.cells #[.int .i64 z.contract,.int .i64 z.hour,.int .i64 z.sent,.int .i64 z.amount] 79)):=Ext.alloc _ _
  have hZ:=Row.new w2 79 [.int .i64 z.contract,.int .i64 z.hour,.int .i64 z.sent,.int .i64 z.amount]
  obtain ⟨W3,HW3⟩:∃W3,Hid (w2.alloc (.cells #[.int .i64 z.contract,.int .i64 z.hour,.int .i64 z.sent,.int .i64 z.amount] 79)=W3):=⟨_,hide rfl⟩
  have hs3:=hs2.more hx3
  have hO3:=hO2.trans (Only.of_ext hx3 a)
  have hR3:=hR2.ext hx3
  have q0:=hR3.cell 0
  have q1:=hR3.cell 1
  have q2:=hR3.cell 2
  have q3:=hR3.cell 3
  have q4:=hR3.cell 4
  simp at q0 q1 q2 q3 q4
  have qf:=hR3.frozen
  have ql:=hR3.lt
  have hf:DrawnE w0 a A n c w (.returned (.agg #[.int .i64 (1),.int .i64 (z.contract),.int .i64 (z.hour),.int .i64 (z.sent),.int .i64 (z.amount)])) (putCells (w2.alloc (.cells #[.int .i64 z.contract,.int .i64 z.hour,.int .i64 z.sent,.int .i64 z.amount] 79)) (w.heap.size+1) 0 [.int .i64 (1),.int .i64 (z.contract),.int .i64 (z.hour),.int .i64 (z.sent),.int .i64 (z.amount)]):=
   ⟨⟨_,_,_,_,_⟩,rfl,hs3.put (by omega) (by omega) _ _,hO3.putNew (by omega) _ _⟩
  have HF:=hide hf
  clear hf
  go_wp2_with fail
  refine bodyPost_ret (v:= .agg #[.int .i64 (1),.int .i64 (z.contract),.int .i64 (z.hour),.int .i64 (z.sent),.int .i64 (z.amount)]) (by simp [results,Tryz.results61,go_sem,q0,q1,q2,q3,q4]) rfl ?_
  exact HF.out
 ·have b3:(x==3)=false:=by rw [beq_eq_false_iff_ne]; exact h3
  go_wp2_with fail
  refine (c_drawEv hs1).mono ?_
  rintro e w2 ⟨p,rfl,hs2,ho2⟩
  have hO2:=hO1.trans ho2
  have hR2:=hR1.only ho2 (by omega)
  have q0:=hR2.cell 0
  have q1:=hR2.cell 1
  have q2:=hR2.cell 2
  have q3:=hR2.cell 3
  have q4:=hR2.cell 4
  simp at q0 q1 q2 q3 q4
  have qf:=hR2.frozen
  have ql:=hR2.lt
  have hf:DrawnE w0 a A n c w (.returned (.agg #[.int .i64 (p.kind),.int .i64 (p.a),.int .i64 (p.b),.int .i64 (p.c),.int .i64 (p.d)])) (putCells w2 (w.heap.size+1) 0 [.int .i64 (p.kind),.int .i64 (p.a),.int .i64 (p.b),.int .i64 (p.c),.int .i64 (p.d)]):=
   ⟨⟨_,_,_,_,_⟩,rfl,hs2.put (by omega) (by omega) _ _,hO2.putNew (by omega) _ _⟩
  have HF:=hide hf
  clear hf
  go_wp2_with fail
  refine bodyPost_ret (v:= .agg #[.int .i64 (p.kind),.int .i64 (p.a),.int .i64 (p.b),.int .i64 (p.c),.int .i64 (p.d)]) (by simp [results,Tryz.results61,go_sem,q0,q1,q2,q3,q4]) rfl ?_
  exact HF.out
end
end Go.Proofs.YtinindjjapblcaaGreatDoor
