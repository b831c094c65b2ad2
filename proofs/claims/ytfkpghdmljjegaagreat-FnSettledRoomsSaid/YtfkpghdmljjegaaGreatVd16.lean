/-
  The reference's draw of an event.
-/
import Derived.Test.YtfkpghdmljjegaaGreatVd01
import Derived.Test.YtfkpghdmljjegaaGreatVd02
import Derived.Test.YtfkpghdmljjegaaGreatVd15
import Derived.Test.YtfkpghdmljjegaaGreatVd14
import Derived.Test.YtfkpghdmljjegaaGreatVd07
import Derived.Test.YtfkpghdmljjegaaGreatVd03
import Derived.Test.YtfkpghdmljjegaaGreatVd00
import Derived.OpenShut
import Derived.ProofKit
import Derived.ShutString
import Derived.ChangeOld
import Derived.Lib.SmallJoins
import Derived.Deep.Slices
import Derived.Deep.Fields
import Derived.ChangeSame
import Derived.Laws.IdiomStrings
import Derived.Laws.BytesString
import Derived.Test.YtfkpghdmljjegaaGreatProg
namespace Go.Proofs.YtfkpghdmljjegaaGreat
open Go.RowKit
def DrawnEv (a:Nat) (A:Option Addr) (n c:Nat) (w:World) (e:Ending) (w':World):Prop:=
 ∃p:Event,e= .returned (.agg #[.int .i64 p.kind,.int .i64 p.a,.int .i64 p.b,.int .i64 p.c,.int .i64 p.d])∧SrcAt w' a A n c∧Only a w w'
structure ESt (w0 w:World) (a:Nat) (A:Option Addr) (n c b3:Nat) (x1 x2 x3 x4 x5:Int) (wr:World):Prop where
 le0:w0.heap.size≤a
 lt1:a<w.heap.size
 lt2:w.heap.size<b3
 size:b3<wr.heap.size
 ext:Ext w0 wr
 src:SrcAt wr a A n c
 only:Only a w wr
 row2:Row wr w.heap.size 127 [.int .i64 0,.int .i64 0,.int .i64 0,.int .i64 0,.int .i64 0]
 row3:Row wr b3 127 [.int .i64 x1,.int .i64 x2,.int .i64 x3,.int .i64 x4,.int .i64 x5]
section
variable {w0 w wr wr':World} {a n c b3:Nat} {A:Option Addr} {x1 x2 x3 x4 x5:Int}
theorem ESt.draw (h:ESt w0 w a A n c b3 x1 x2 x3 x4 x5 wr) (ho:Only a wr wr') (hs:SrcAt wr' a A n c):ESt w0 w a A n c b3 x1 x2 x3 x4 x5 wr':=
 ⟨h.le0,h.lt1,h.lt2,Nat.lt_of_lt_of_le h.size ho.size,h.ext.only ho h.le0,hs,h.only.trans ho,h.row2.only ho (by have:=h.lt1; omega),h.row3.only ho (by have:=h.lt1; have:=h.lt2; omega)⟩
theorem ESt.more (h:ESt w0 w a A n c b3 x1 x2 x3 x4 x5 wr) (hx:Ext wr wr'):ESt w0 w a A n c b3 x1 x2 x3 x4 x5 wr':=h.draw (Only.of_ext hx a) (h.src.ext hx)
theorem ESt.set3 (h:ESt w0 w a A n c b3 x1 x2 x3 x4 x5 wr) (i:Nat) (u:Value) {y1 y2 y3 y4 y5:Int} (he:[.int .i64 x1,.int .i64 x2,.int .i64 x3,.int .i64 x4,.int .i64 x5].set i u=[.int .i64 y1,.int .i64 y2,.int .i64 y3,.int .i64 y4,.int .i64 y5]):ESt w0 w a A n c b3 y1 y2 y3 y4 y5 (wr.setCell ⟨b3,i,none⟩ u):=by
 obtain ⟨l0,l1,l2,sz,ex,sr,on,r2,r3⟩:=h
 have ho:Only b3 wr (wr.setCell ⟨b3,i,none⟩ u):=(Only.refl b3 wr).setCell rfl u
 refine ⟨l0,l1,l2,Nat.lt_of_lt_of_le sz ho.size,ex.setCell (p:=⟨b3,i,none⟩) (by show w0.heap.size≤b3; omega) u,sr.only ho (by omega),?_,r2.only ho (by omega),he ▸ r3.set_ i u⟩
 exact ⟨ho.os.trans on.os,ho.tape.trans on.tape,ho.output.trans on.output,Nat.le_trans on.size ho.size,fun k hk hne=>(ho.block k (Nat.lt_of_lt_of_le hk on.size) (by simp; omega)).trans (on.block k hk hne)⟩
theorem ESt.fin (h:ESt w0 w a A n c b3 x1 x2 x3 x4 x5 wr):DrawnEv a A n c w (.returned (.agg #[.int .i64 x1,.int .i64 x2,.int .i64 x3,.int .i64 x4,.int .i64 x5])) (putCells wr w.heap.size 0 [.int .i64 x1,.int .i64 x2,.int .i64 x3,.int .i64 x4,.int .i64 x5]):=by
 obtain ⟨l0,l1,l2,sz,ex,sr,on,r2,r3⟩:=h
 have hk:Only w.heap.size wr (putCells wr w.heap.size 0 [.int .i64 x1,.int .i64 x2,.int .i64 x3,.int .i64 x4,.int .i64 x5]):=(Only.refl _ _).put _ _
 refine ⟨⟨x1,x2,x3,x4,x5⟩,rfl,sr.only hk (by omega),?_⟩
 exact ⟨hk.os.trans on.os,hk.tape.trans on.tape,hk.output.trans on.output,Nat.le_trans on.size hk.size,fun k hk1 hne=>(hk.block k (Nat.lt_of_lt_of_le hk1 on.size) (by simp; omega)).trans (on.block k hk1 hne)⟩
end
set_option maxHeartbeats 2000000 in
theorem c_l32DrawOne (a:Nat) (A:Option Addr) (n c:Nat) (bs:List Int) (w0 w:World) (hbs:SliceOf w0 1 byteC A n c bs) (hbd:∀z∈bs,0≤z∧z≤255) (hx0:Ext w0 w) (ha:w0.heap.size≤a) (hsrc:SrcAt w a A n c) (hn:n≤1048576):
  Calls Tryz.prog 221 #[.pointer (some ⟨a,0,none⟩)] w (DrawnEv a A n c w):=by
 have nxt:=fun (m:Int) (w:World) hx0 hsrc=>c_l01Next a m A n c bs w0 w hbs hbd hx0 ha hsrc hn
 have NX:=hide nxt
 clear nxt
 have hal:=hsrc.lt
 go_enter Tryz.func221,Tryz.ntmps221
 go_wp2_with fail
 refine (NX.out 3 _ (hx0.and_alloc _) (hsrc.ext (Ext.alloc _ _)) (by omega) (by omega)).mono ?_
 rintro e w1 ⟨x1,rfl,hx1,hx1',hs1,ho1⟩
 have hE1:=(hx0.and_alloc _).only ho1 ha
 go_wp2_with fail
 refine (NX.out 4 _ hE1 hs1 (by omega) (by omega)).mono ?_
 rintro e w2 ⟨x2,rfl,hx2,hx2',hs2,ho2⟩
 have hE2:=hE1.only ho2 ha
 go_wp2_with fail
 refine (NX.out 8 _ hE2 hs2 (by omega) (by omega)).mono ?_
 rintro e w3 ⟨x3,rfl,hx3,hx3',hs3,ho3⟩
 have hE3:=hE2.only ho3 ha
 go_wp2_with fail
 refine (NX.out 12 _ hE3 hs3 (by omega) (by omega)).mono ?_
 rintro e w4 ⟨x4,rfl,hx4,hx4',hs4,ho4⟩
 have hE4:=hE3.only ho4 ha
 go_wp2_with fail
 refine (NX.out 60 _ hE4 hs4 (by omega) (by omega)).mono ?_
 rintro e w5 ⟨x5,rfl,hx5,hx5',hs5,ho5⟩
 have hE5:=hE4.only ho5 ha
 have hR2:=((((Row.new w 127 [.int .i64 0,.int .i64 0,.int .i64 0,.int .i64 0,.int .i64 0]).only ho1 (by omega)).only ho2 (by omega)).only ho3 (by omega)).only ho4 (by omega) |>.only ho5 (by omega)
 have hO5:=(((((Only.of_ext (Ext.alloc w _) a).trans ho1).trans ho2).trans ho3).trans ho4).trans ho5
 have hsz5:=hR2.lt
 have hD:ESt w0 w a A n c w5.heap.size (1+x1) x2 x3 (x4-8) x5 (w5.alloc (.cells #[.int .i64 (1+x1),.int .i64 x2,.int .i64 x3,.int .i64 (x4-8),.int .i64 x5] 127)):=
  ⟨ha,hal,hsz5,by simp,hE5.and_alloc _,hs5.ext (Ext.alloc _ _),hO5.trans (Only.of_ext (Ext.alloc _ _) _),hR2.alloc _,Row.new w5 _ _⟩
 clear hE1 hE2 hE3 hE4 hE5 hR2 hO5 ho1 ho2 ho3 ho4 ho5 hs1 hs2 hs3 hs4 hs5
 go_wp2_with fail
 refine (NX.out 60 _ hD.ext hD.src (by omega) (by omega)).mono ?_
 rintro e w6 ⟨x6,rfl,hx6,hx6',hs6,ho6⟩
 have hD5:=hD.draw ho6 hs6
 have hz6:=ho6.size
 simp at hz6
 have hlt6:=hD5.size
 clear hD ho6 hs6
 by_cases h0:x6=0
 ·subst h0
  have hD6:=hD5.more (Ext.alloc w6 (.cells #[.int .i64 0,.int .i64 4] 2))
  go_wp2_with fail
  refine (NX.out 2 _ hD6.ext hD6.src (by omega) (by omega)).mono ?_
  rintro e w7 ⟨y,rfl,hy1,hy2,hs7,ho7⟩
  have hD7:=hD6.draw ho7 hs7
  have hR7:=(Row.new w6 2 [.int .i64 0,.int .i64 4]).only ho7 (by omega)
  obtain ⟨j,rfl⟩:=Int.eq_ofNat_of_zero_le hy1
  have hj:j<2:=by omega
  obtain ⟨z,hz⟩:∃z,w7.cell? ⟨w6.heap.size,j,none⟩=some (.int .i64 z):=by
   rw [hR7.cell]; rcases (show j=0∨j=1 by omega) with rfl | rfl <;> exact ⟨_,rfl⟩
  have p0:=hD7.row3.cell 0
  have p1:=hD7.row3.cell 1
  have p2:=hD7.row3.cell 2
  have p3:=hD7.row3.cell 3
  have p4:=hD7.row3.cell 4
  simp at p0 p1 p2 p3 p4
  have g0:=hD7.row3.frozen 0
  have g1:=hD7.row3.frozen 1
  have g2:=hD7.row3.frozen 2
  have g3:=hD7.row3.frozen 3
  have g4:=hD7.row3.frozen 4
  have hl7:=hD7.row3.lt
  have q0:=hD7.row2.cell 0
  have q1:=hD7.row2.cell 1
  have q2:=hD7.row2.cell 2
  have q3:=hD7.row2.cell 3
  have q4:=hD7.row2.cell 4
  simp at q0 q1 q2 q3 q4
  have f0:=hD7.row2.frozen 0
  have f1:=hD7.row2.frozen 1
  have f2:=hD7.row2.frozen 2
  have f3:=hD7.row2.frozen 3
  have f4:=hD7.row2.frozen 4
  have hl2:=hD7.row2.lt
  have hD8:=hD7.set3 0 (.int .i64 z) rfl
  have hb7:=hR7.lt
  have HF:=hide hD8.fin
  clear hR7 ho7 hD6 hs7 hD7 hD8
  go_wp2_with fail
  refine bodyPost_ret (v:= .agg #[.int .i64 z,.int .i64 x2,.int .i64 x3,.int .i64 (x4-8),.int .i64 x5]) (by simp [results,Tryz.results221,go_sem,q0,q1,q2,q3,q4]) rfl ?_
  exact HF.out
 ·by_cases h1:x6=1
  ·subst h1
   have hD6:=hD5.more (Ext.alloc w6 (.cells #[.int .i64 30000,.int .i64 30001,.int .i64 (-30000)] 2))
   go_wp2_with fail
   refine (NX.out 3 _ hD6.ext hD6.src (by omega) (by omega)).mono ?_
   rintro e w7 ⟨y,rfl,hy1,hy2,hs7,ho7⟩
   have hD7:=hD6.draw ho7 hs7
   have hR7:=(Row.new w6 2 [.int .i64 30000,.int .i64 30001,.int .i64 (-30000)]).only ho7 (by omega)
   obtain ⟨j,rfl⟩:=Int.eq_ofNat_of_zero_le hy1
   have hj:j<3:=by omega
   obtain ⟨z,hz⟩:∃z,w7.cell? ⟨w6.heap.size,j,none⟩=some (.int .i64 z):=by
    rw [hR7.cell]; rcases (show j=0∨j=1∨j=2 by omega) with rfl | rfl | rfl <;> exact ⟨_,rfl⟩
   have p0:=hD7.row3.cell 0
   have p1:=hD7.row3.cell 1
   have p2:=hD7.row3.cell 2
   have p3:=hD7.row3.cell 3
   have p4:=hD7.row3.cell 4
   simp at p0 p1 p2 p3 p4
   have g0:=hD7.row3.frozen 0
   have g1:=hD7.row3.frozen 1
   have g2:=hD7.row3.frozen 2
   have g3:=hD7.row3.frozen 3
   have g4:=hD7.row3.frozen 4
   have hl7:=hD7.row3.lt
   have q0:=hD7.row2.cell 0
   have q1:=hD7.row2.cell 1
   have q2:=hD7.row2.cell 2
   have q3:=hD7.row2.cell 3
   have q4:=hD7.row2.cell 4
   simp at q0 q1 q2 q3 q4
   have f0:=hD7.row2.frozen 0
   have f1:=hD7.row2.frozen 1
   have f2:=hD7.row2.frozen 2
   have f3:=hD7.row2.frozen 3
   have f4:=hD7.row2.frozen 4
   have hl2:=hD7.row2.lt
   have hD8:=hD7.set3 2 (.int .i64 z) rfl
   have hb7:=hR7.lt
   have HF:=hide hD8.fin
   clear hR7 ho7 hD6 hs7 hD7 hD8
   go_wp2_with fail
   refine bodyPost_ret (v:= .agg #[.int .i64 (1+x1),.int .i64 x2,.int .i64 z,.int .i64 (x4-8),.int .i64 x5]) (by simp [results,Tryz.results221,go_sem,q0,q1,q2,q3,q4]) rfl ?_
   exact HF.out
  ·have b0:(x6==0)=false:=by rw [beq_eq_false_iff_ne]; exact h0
   have b1:(x6==1)=false:=by rw [beq_eq_false_iff_ne]; exact h1
   have q0:=hD5.row2.cell 0
   have q1:=hD5.row2.cell 1
   have q2:=hD5.row2.cell 2
   have q3:=hD5.row2.cell 3
   have q4:=hD5.row2.cell 4
   simp at q0 q1 q2 q3 q4
   have k0:=hD5.row3.cell 0
   have k1:=hD5.row3.cell 1
   have k2:=hD5.row3.cell 2
   have k3:=hD5.row3.cell 3
   have k4:=hD5.row3.cell 4
   simp at k0 k1 k2 k3 k4
   have f0:=hD5.row2.frozen 0
   have f1:=hD5.row2.frozen 1
   have f2:=hD5.row2.frozen 2
   have f3:=hD5.row2.frozen 3
   have f4:=hD5.row2.frozen 4
   have hl2:=hD5.row2.lt
   have hl3:=hD5.row3.lt
   have HF:=hide hD5.fin
   go_wp2_with fail
   refine bodyPost_ret (v:= .agg #[.int .i64 (1+x1),.int .i64 x2,.int .i64 x3,.int .i64 (x4-8),.int .i64 x5]) (by simp [results,Tryz.results221,go_sem,q0,q1,q2,q3,q4]) rfl ?_
   exact HF.out
end Go.Proofs.YtfkpghdmljjegaaGreat
namespace Go.Proofs.YtfkpghdmljjegaaGreat
open Go.RowKit
def DrawnE (w0:World) (a:Nat) (A:Option Addr) (n c:Nat) (w:World) (e:Ending) (w':World):Prop:=
 ∃p:Event,e= .returned (.agg #[.int .i64 p.kind,.int .i64 p.a,.int .i64 p.b,.int .i64 p.c,.int .i64 p.d])∧Src w0 w' a A n c∧Only a w w'
section
variable {w0 w:World} {a n c:Nat} {A:Option Addr}
theorem c_drawEv (h:Src w0 w a A n c):Calls Tryz.prog 221 #[.pointer (some ⟨a,0,none⟩)] w (DrawnE w0 a A n c w):=by
 obtain ⟨bs,hbs,hbd⟩:=h.code
 refine (c_l32DrawOne a A n c bs w0 w hbs hbd h.ext h.le0 h.src h.hn).mono ?_
 rintro e w' ⟨p,rfl,hs,ho⟩
 exact ⟨p,rfl,h.draw ho hs,ho⟩
set_option maxHeartbeats 4000000 in
theorem c_l33DrawEvent (A1 A2 A3 A4 A5:Option Addr) (n1 c1 n2 c2 n3 c3 n4 c4 n5 c5:Nat) (xs:List Contract) (hB:SliceOf w 8 Contract.cells A3 n3 c3 xs) (hBa:∀b,blkOf A3 n3=some b→b≠a) (hcs:∀x∈xs,CSm x) (m1:n1≤1000) (m3:n3≤1000) (m5:n5≤1000) (h:Src w0 w a A n c):
  Calls Tryz.prog 157 #[.pointer (some ⟨a,0,none⟩),.agg #[.slice A1 n1 c1,.slice A2 n2 c2,.slice A3 n3 c3,.slice A4 n4 c4,.slice A5 n5 c5]] w (DrawnE w0 a A n c w):=by
 have hal:=h.lt
 have hle:=h.le0
 have HCS:=hide hcs
 have HBA:=hide hBa
 clear hcs hBa
 obtain ⟨W0,HW⟩:∃W0,Hid ((w.alloc (.cells #[.slice A1 n1 c1,.slice A2 n2 c2,.slice A3 n3 c3,.slice A4 n4 c4,.slice A5 n5 c5] 82)).alloc (.cells #[.int .i64 0,.int .i64 0,.int .i64 0,.int .i64 0,.int .i64 0] 127)=W0):=⟨_,hide rfl⟩
 have hin:RoomIn W0 w.heap.size A1 A2 A3 A4 A5 n1 c1 n2 c2 n3 c3 n4 c4 n5 c5:=by rw [←HW.out]; exact (RoomIn.new w A1 A2 A3 A4 A5 n1 c1 n2 c2 n3 c3 n4 c4 n5 c5 82).ext (Ext.alloc _ _)
 have hR:Row W0 (w.heap.size+1) 127 [.int .i64 0,.int .i64 0,.int .i64 0,.int .i64 0,.int .i64 0]:=by rw [←HW.out]; exact Row.newG _ _ (by simp)
 have x0:Ext w W0:=by rw [←HW.out]; exact (Ext.alloc _ _).and_alloc _
 obtain ⟨hlt,y0,y1,y2,y3,y4⟩:=id hin
 have e1:IntKind.i64.wrap ((n5:Int)-1)=(n5:Int)-1:=IntWalk.i64_in _ (by omega)
 go_enter Tryz.func157,Tryz.ntmps157
 go_wp2_with fail
 rw [HW.out]
 refine (c_next 5 (h.more x0) (by omega) (by omega)).mono ?_
 rintro e w1 ⟨x,rfl,hx0,hx1,hs1,ho1⟩
 have hO1:=(Only.of_ext x0 a).trans ho1
 have hR1:=hR.only ho1 (by omega)
 have hN1:RoomIn w1 w.heap.size A1 A2 A3 A4 A5 n1 c1 n2 c2 n3 c3 n4 c4 n5 c5:=⟨Nat.lt_of_lt_of_le hlt ho1.size,(ho1.cell hlt (by omega)).trans y0,(ho1.cell hlt (by omega)).trans y1,(ho1.cell hlt (by omega)).trans y2,(ho1.cell hlt (by omega)).trans y3,(ho1.cell hlt (by omega)).trans y4⟩
 clear hin hR y0 y1 y2 y3 y4
 obtain ⟨hlt1,y0,y1,y2,y3,y4⟩:=id hN1
 by_cases h0:x=0
 ·subst h0
  have q0:=hR1.cell 0
  have q1:=hR1.cell 1
  have q2:=hR1.cell 2
  have q3:=hR1.cell 3
  have q4:=hR1.cell 4
  simp at q0 q1 q2 q3 q4
  have qf:=hR1.frozen
  have ql:=hR1.lt
  have hf:DrawnE w0 a A n c w (.returned (.agg #[.int .i64 (3),.int .i64 ((n5:Int)-1),.int .i64 (0),.int .i64 (0),.int .i64 (0)])) (putCells w1 (w.heap.size+1) 0 [.int .i64 (3),.int .i64 ((n5:Int)-1),.int .i64 (0),.int .i64 (0),.int .i64 (0)]):=
   ⟨⟨_,_,_,_,_⟩,rfl,hs1.put (by omega) (by omega) _ _,hO1.putNew (by omega) _ _⟩
  have HF:=hide hf
  clear hf
  go_wp2_with fail
  refine bodyPost_ret (v:= .agg #[.int .i64 (3),.int .i64 ((n5:Int)-1),.int .i64 (0),.int .i64 (0),.int .i64 (0)]) (by simp [results,Tryz.results157,go_sem,q0,q1,q2,q3,q4]) rfl ?_
  exact HF.out
 have b0:(x==0)=false:=by rw [beq_eq_false_iff_ne]; exact h0
 by_cases h12:x=1∨x=2
 ·have key:(x==1)=true∨((x==1)=false∧(x==2)=true):=by
   rcases h12 with rfl | rfl
   ·exact .inl rfl
   ·exact .inr ⟨rfl,rfl⟩
  rcases key with b1 | ⟨b1,b2⟩
  ·go_wp2_with fail
   refine (c_next 40 hs1 (by omega) (by omega)).mono ?_
   rintro e w2 ⟨z,rfl,hz0,hz1,hs2,ho2⟩
   have hO2:=hO1.trans ho2
   have hR2:=hR1.only ho2 (by omega)
   have hz2:=ho2.size
   have j0:=(ho2.cell hlt1 (by omega)).trans y0
   have e2:IntKind.i64.wrap (z-20)=z-20:=IntWalk.i64_in _ (by omega)
   go_wp2_with fail
   refine (c_next n1 hs2 (by omega) (by omega)).mono ?_
   rintro e w3 ⟨u,rfl,hu0,hu1,hs3,ho3⟩
   have hO3:=hO2.trans ho3
   have hR3:=hR2.only ho3 (by omega)
   have q0:=hR3.cell 0
   have q1:=hR3.cell 1
   have q2:=hR3.cell 2
   have q3:=hR3.cell 3
   have q4:=hR3.cell 4
   simp at q0 q1 q2 q3 q4
   have qf:=hR3.frozen
   have ql:=hR3.lt
   have hf:DrawnE w0 a A n c w (.returned (.agg #[.int .i64 (2),.int .i64 (u),.int .i64 (z-20),.int .i64 (0),.int .i64 (0)])) (putCells w3 (w.heap.size+1) 0 [.int .i64 (2),.int .i64 (u),.int .i64 (z-20),.int .i64 (0),.int .i64 (0)]):=
    ⟨⟨_,_,_,_,_⟩,rfl,hs3.put (by omega) (by omega) _ _,hO3.putNew (by omega) _ _⟩
   have HF:=hide hf
   clear hf
   go_wp2_with fail
   refine bodyPost_ret (v:= .agg #[.int .i64 (2),.int .i64 (u),.int .i64 (z-20),.int .i64 (0),.int .i64 (0)]) (by simp [results,Tryz.results157,go_sem,q0,q1,q2,q3,q4]) rfl ?_
   exact HF.out
  ·go_wp2_with fail
   refine (c_next 40 hs1 (by omega) (by omega)).mono ?_
   rintro e w2 ⟨z,rfl,hz0,hz1,hs2,ho2⟩
   have hO2:=hO1.trans ho2
   have hR2:=hR1.only ho2 (by omega)
   have hz2:=ho2.size
   have j0:=(ho2.cell hlt1 (by omega)).trans y0
   have e2:IntKind.i64.wrap (z-20)=z-20:=IntWalk.i64_in _ (by omega)
   go_wp2_with fail
   refine (c_next n1 hs2 (by omega) (by omega)).mono ?_
   rintro e w3 ⟨u,rfl,hu0,hu1,hs3,ho3⟩
   have hO3:=hO2.trans ho3
   have hR3:=hR2.only ho3 (by omega)
   have q0:=hR3.cell 0
   have q1:=hR3.cell 1
   have q2:=hR3.cell 2
   have q3:=hR3.cell 3
   have q4:=hR3.cell 4
   simp at q0 q1 q2 q3 q4
   have qf:=hR3.frozen
   have ql:=hR3.lt
   have hf:DrawnE w0 a A n c w (.returned (.agg #[.int .i64 (2),.int .i64 (u),.int .i64 (z-20),.int .i64 (0),.int .i64 (0)])) (putCells w3 (w.heap.size+1) 0 [.int .i64 (2),.int .i64 (u),.int .i64 (z-20),.int .i64 (0),.int .i64 (0)]):=
    ⟨⟨_,_,_,_,_⟩,rfl,hs3.put (by omega) (by omega) _ _,hO3.putNew (by omega) _ _⟩
   have HF:=hide hf
   clear hf
   go_wp2_with fail
   refine bodyPost_ret (v:= .agg #[.int .i64 (2),.int .i64 (u),.int .i64 (z-20),.int .i64 (0),.int .i64 (0)]) (by simp [results,Tryz.results157,go_sem,q0,q1,q2,q3,q4]) rfl ?_
   exact HF.out
 have b1:(x==1)=false:=by rw [beq_eq_false_iff_ne]; omega
 have b2:(x==2)=false:=by rw [beq_eq_false_iff_ne]; omega
 by_cases h3:x=3
 ·subst h3
  go_wp2_with fail
  refine (c_l21DrawOne (-10) A3 n3 c3 xs (hB.turn (S:=fun b=>b=a) (Turn.of_only hO1 (fun _=>rfl)) HBA.out) HBA.out HCS.out m3 hs1).mono ?_
  rintro e w2 ⟨z,rfl,hs2,ho2⟩
  have hO2:=hO1.trans ho2
  have hR2:=hR1.only ho2 (by omega)
  have hx3:Ext w2 (w2.alloc (.cells #[.int .i64 z.contract,.int .i64 z.hour,.int .i64 z.sent,.int .i64 z.amount] 157)):=Ext.alloc _ _
  have hZ:=Row.new w2 157 [.int .i64 z.contract,.int .i64 z.hour,.int .i64 z.sent,.int .i64 z.amount]
  obtain ⟨W3,HW3⟩:∃W3,Hid (w2.alloc (.cells #[.int .i64 z.contract,.int .i64 z.hour,.int .i64 z.sent,.int .i64 z.amount] 157)=W3):=⟨_,hide rfl⟩
  have hs3:=hs2.more hx3
  have hO3:=hO2.trans (Only.of_ext hx3 a)
  have hR3:=hR2.ext hx3
  have q0:=hR3.cell 0
  have q1:=hR3.cell 1
  have q2:=hR3.cell 2
  have q3:=hR3.cell 3
  have q4:=hR3.cell 4
  simp at q0 q1 q2 q3 q4
  have qf:=hR3.frozen
  have ql:=hR3.lt
  have hf:DrawnE w0 a A n c w (.returned (.agg #[.int .i64 (1),.int .i64 (z.contract),.int .i64 (z.hour),.int .i64 (z.sent),.int .i64 (z.amount)])) (putCells (w2.alloc (.cells #[.int .i64 z.contract,.int .i64 z.hour,.int .i64 z.sent,.int .i64 z.amount] 157)) (w.heap.size+1) 0 [.int .i64 (1),.int .i64 (z.contract),.int .i64 (z.hour),.int .i64 (z.sent),.int .i64 (z.amount)]):=
   ⟨⟨_,_,_,_,_⟩,rfl,hs3.put (by omega) (by omega) _ _,hO3.putNew (by omega) _ _⟩
  have HF:=hide hf
  clear hf
  go_wp2_with fail
  refine bodyPost_ret (v:= .agg #[.int .i64 (1),.int .i64 (z.contract),.int .i64 (z.hour),.int .i64 (z.sent),.int .i64 (z.amount)]) (by simp [results,Tryz.results157,go_sem,q0,q1,q2,q3,q4]) rfl ?_
  exact HF.out
 ·have b3:(x==3)=false:=by rw [beq_eq_false_iff_ne]; exact h3
  go_wp2_with fail
  refine (c_drawEv hs1).mono ?_
  rintro e w2 ⟨p,rfl,hs2,ho2⟩
  have hO2:=hO1.trans ho2
  have hR2:=hR1.only ho2 (by omega)
  have q0:=hR2.cell 0
  have q1:=hR2.cell 1
  have q2:=hR2.cell 2
  have q3:=hR2.cell 3
  have q4:=hR2.cell 4
  simp at q0 q1 q2 q3 q4
  have qf:=hR2.frozen
  have ql:=hR2.lt
  have hf:DrawnE w0 a A n c w (.returned (.agg #[.int .i64 (p.kind),.int .i64 (p.a),.int .i64 (p.b),.int .i64 (p.c),.int .i64 (p.d)])) (putCells w2 (w.heap.size+1) 0 [.int .i64 (p.kind),.int .i64 (p.a),.int .i64 (p.b),.int .i64 (p.c),.int .i64 (p.d)]):=
   ⟨⟨_,_,_,_,_⟩,rfl,hs2.put (by omega) (by omega) _ _,hO2.putNew (by omega) _ _⟩
  have HF:=hide hf
  clear hf
  go_wp2_with fail
  refine bodyPost_ret (v:= .agg #[.int .i64 (p.kind),.int .i64 (p.a),.int .i64 (p.b),.int .i64 (p.c),.int .i64 (p.d)]) (by simp [results,Tryz.results157,go_sem,q0,q1,q2,q3,q4]) rfl ?_
  exact HF.out
end
end Go.Proofs.YtfkpghdmljjegaaGreat
namespace Go.Proofs.YtfkpghdmljjegaaGreat
open Go.RowKit
def RetA {α:Type} (t:TypeId) (f:α→List Value) (L:List α) (w:World) (e:Ending) (w':World):Prop:=
 ∃A n c,e= .returned (.slice A n c)∧OwnA w' t f A n c L∧(∀b,blkOf A n=some b→w.heap.size≤b)∧Ext w w'
theorem OwnL.toA {α:Type} {w:World} {base:Nat} {t:TypeId} {size:Nat} {f:α→List Value} {v:Value} {L:List α} (h:OwnL w base t size f v L) (hf:∀x,(f x).length=size) (hs:0<size):
  ∃A c,v= .slice A L.length c∧OwnA w t f A L.length c L∧∀b,blkOf A L.length=some b→base≤b:=by
 obtain ⟨A,c,g,hv,hg,hn,hc,ho⟩:=h.own hf hs
 exact ⟨A,c,hv,ho.toA hn hc,fun b hb=>by have:=(ho.blk hb).1; omega⟩
def RetL {α:Type} (t:TypeId) (size:Nat) (f:α→List Value) (L:List α) (w:World) (e:Ending) (w':World):Prop:=∃v,e= .returned v∧OwnL w' w.heap.size t size f v L∧Ext w w'
theorem RetL.toA {α:Type} {t:TypeId} {size:Nat} {f:α→List Value} {L:List α} {w w':World} {e:Ending} (h:RetL t size f L w e w') (hf:∀x,(f x).length=size) (hs:0<size):RetA t f L w e w':=by
 obtain ⟨v,rfl,ho,hx⟩:=h
 obtain ⟨A',c',hv,ho,hb⟩:=ho.toA hf hs
 exact ⟨A',_,c',by rw [hv],ho,hb,hx⟩
theorem node_one (y:Node):∀u∈y.cells,u.oneCell'=true:=by intro u hu; simp [Node.cells] at hu; rcases hu with rfl | rfl | rfl <;> rfl
theorem pipe_one (y:Pipe):∀u∈y.cells,u.oneCell'=true:=by intro u hu; simp [Pipe.cells] at hu; rcases hu with rfl | rfl | rfl | rfl | rfl <;> rfl
theorem contract_one (y:Contract):∀u∈y.cells,u.oneCell'=true:=by intro u hu; simp [Contract.cells] at hu; rcases hu with rfl | rfl | rfl | rfl | rfl | rfl | rfl | rfl <;> rfl
theorem nomination_one (y:Nomination):∀u∈y.cells,u.oneCell'=true:=by intro u hu; simp [Nomination.cells] at hu; rcases hu with rfl | rfl | rfl | rfl <;> rfl
theorem reading_one (y:Reading):∀u∈y.cells,u.oneCell'=true:=by intro u hu; simp [Reading.cells] at hu; rcases hu with rfl | rfl <;> rfl
theorem OwnA.far {α:Type} {w:World} {t:TypeId} {f:α→List Value} {A:Option Addr} {n c:Nat} {xs:List α} (h:OwnA w t f A n c xs) {p:Addr} (hp:∀b,blkOf A n=some b→b≠p.block) (u:Value):OwnA (w.setCell p u) t f A n c xs:=
 ⟨h.1,h.2.1,h.2.2.1,fun hn=>let ⟨g,hA,r,hr⟩:=h.2.2.2 hn; ⟨g,hA,r,hr.far (hp g (by unfold blkOf; rw [if_neg (by omega),hA]; rfl)) u⟩⟩
theorem OwnL.blk_ne {α:Type} {w:World} {base:Nat} {e:TypeId} {size:Nat} {f:α→List Value} {v:Value} {L:List α} {g:Nat} {cs:List Value} {t:TypeId} (h:OwnL w base e size f v L) (hr:Row w g t cs) (ht:t≠e):∀k,v.ownBlock=some k→some g≠some k:=by
 intro k hk he
 injection he with he
 subst he
 rcases h.2 with ⟨rfl,_⟩ | ⟨k',cap,cur,rfl,hb,hh,_⟩
 ·simp [Value.ownBlock] at hk
 ·simp [Value.ownBlock] at hk
  subst hk
  unfold Row at hr
  rw [hh] at hr
  simp at hr
  exact ht hr.2.symm
theorem Only.of_grown {w w':World} {g:Nat} (h:w.grownBy w' (some g)):Only g w w':=h
theorem OwnL.far {α:Type} {w:World} {base:Nat} {e:TypeId} {size:Nat} {f:α→List Value} {v:Value} {L:List α} (h:OwnL w base e size f v L) {p:Addr} (hp:p.block<base) (u:Value):OwnL (w.setCell p u) base e size f v L:=by
 obtain ⟨h1,h2⟩:=h
 refine ⟨h1,?_⟩
 rcases h2 with h2 | ⟨k,cap,cur,hv,hb,hh,r⟩
 ·exact .inl h2
 ·exact .inr ⟨k,cap,cur,hv,hb,(Below.heap_setCell w p u k (by omega)).trans hh,r⟩
theorem wp_ext_only {w0 w w':World} {g:Nat} (h:Ext w0 w) (k:w.grownBy w' (some g)) (hg:w0.heap.size≤g):Ext w0 w':=h.only k hg
end Go.Proofs.YtfkpghdmljjegaaGreat
namespace Go.Proofs.YtfkpghdmljjegaaGreat
open Go.RowKit Go.ChangeShapes Go.WideShapes Go.ChangeAt Go.Deep Go.Joins
theorem own:ownKnob Tryz.prog.godebug=none:=by kernel_rfl
theorem laidOut:laidOutB Tryz.prog=true:=by kernel_rfl
end Go.Proofs.YtfkpghdmljjegaaGreat
namespace Go.Proofs.YtfkpghdmljjegaaGreat
open Go.RowKit
def Named (ns:List Node):Prop:=∀x∈ns,x.name.size≤1048576
end Go.Proofs.YtfkpghdmljjegaaGreat
namespace Go.Proofs.YtfkpghdmljjegaaGreat
open Go.RowKit
def OwnRS (w:World) (g:Nat) (q:RS):Prop:=∃g1,g<g1∧q.A=some ⟨g1,0,none⟩∧q.n=q.xs.length∧q.c=q.xs.length∧q.xs.length≤1048576∧RowOf w g1 176 Reading.cells q.xs
theorem OwnRS.ext {w w':World} {g:Nat} {q:RS} (h:OwnRS w g q) (hx:Ext w w'):OwnRS w' g q:=let ⟨g1,a,b,c,d,e,r⟩:=h; ⟨g1,a,b,c,d,e,r.ext hx⟩
theorem OwnRS.set {w:World} {g o:Nat} {q:RS} (h:OwnRS w g q) (u:Value):OwnRS (w.setCell ⟨g,o,none⟩ u) g q:=let ⟨g1,a,b,c,d,e,r⟩:=h; ⟨g1,a,b,c,d,e,r.far (p:=⟨g,o,none⟩) (by show g1≠g; omega) u⟩
theorem OwnRS.slice {w:World} {g:Nat} {q:RS} (h:OwnRS w g q):SliceOf w 2 Reading.cells q.A q.n q.c q.xs:=by
 obtain ⟨g1,_,hA,hn,hc,hl,r⟩:=h
 rw [hA,hc,hn]
 exact r.slice reading_len rfl (by omega)
def RsApart (rs:List RS):Prop:=∀(i j:Nat) (q q':RS),i≠j→rs[i]? =some q→rs[j]? =some q'→q.A≠q'.A
end Go.Proofs.YtfkpghdmljjegaaGreat
namespace Go.Proofs.YtfkpghdmljjegaaGreat
open Go.RowKit
structure RoomSz (r:Room) (n1 n2 n3 n4 n5:Nat):Prop where
 n1:n1≤1048576
 nm:Named r.ns
 n2:n2≤1048576
 n3:n3≤1048576
 n4:n4≤1048576
 n5:n5≤1048576
 n6:∀q∈r.rs,q.n≤1048576
 n7:(r.rs.map RS.n).sum≤1048576
def Room.Like (r r':Room):Prop:=r.ns=r'.ns∧r.ps=r'.ps∧r.xs=r'.xs∧r.L=r'.L∧r.rs.map RS.xs=r'.rs.map RS.xs
theorem Room.Like.symm {r r':Room} (h:r.Like r'):r'.Like r:=⟨h.1.symm,h.2.1.symm,h.2.2.1.symm,h.2.2.2.1.symm,h.2.2.2.2.symm⟩
theorem Room.Like.trans {r r' r'':Room} (h:r.Like r') (k:r'.Like r''):r.Like r'':=⟨h.1.trans k.1,h.2.1.trans k.2.1,h.2.2.1.trans k.2.2.1,h.2.2.2.1.trans k.2.2.2.1,h.2.2.2.2.trans k.2.2.2.2⟩
theorem roomB_like {n1:Int} {r r':Room} (h:r.Like r'):roomB n1 r=roomB n1 r':=by
 obtain ⟨h1,h2,h3,h4,h5⟩:=h
 have hl:=congrArg List.length h5
 simp at hl
 have ha:∀rs:List RS,rs.all (fun q=>readsB n1 q.xs)=(rs.map RS.xs).all (readsB n1):=fun rs=>by rw [List.all_map]; rfl
 unfold roomB
 rw [h1,h2,h3,h4,hl,ha,ha,h5]
end Go.Proofs.YtfkpghdmljjegaaGreat
namespace Go.Proofs.YtfkpghdmljjegaaGreat
open Go.Joins Go.RowKit Go.ChangeShapes Go.WideShapes Go.Deep
section
variable {H:Type} {enc:TypeId×Value→H} {P:Program} {w:World} {base:Nat} {spare:Nat→Bool} {held:Bool}
theorem mk_list {α:Type} {p:Nat→α→Prop} (n:Nat) (h:∀i,i<n→∃x,p i x):∃xs:List α,xs.length=n∧∀i x,xs[i]? =some x→p i x:=by
 induction n with
 | zero=>exact ⟨[],rfl,fun i x hx=>by simp at hx⟩
 | succ n ih=>
  obtain ⟨xs,hl,hp⟩:=ih (fun i hi=>h i (by omega))
  obtain ⟨x,hx⟩:=h n (by omega)
  refine ⟨xs++[x],by simp [hl],fun i y hy=> ?_⟩
  by_cases hi:i<n
  ·rw [List.getElem?_append_left (by omega)] at hy; exact hp i y hy
  ·have hlt:i<(xs++[x]).length:=(List.getElem?_eq_some_iff.1 hy).1
   have:i=n:=by simp [hl] at hlt; omega
   subst this
   rw [List.getElem?_append_right (by omega)] at hy
   simp [hl] at hy
   subst hy
   exact hx
theorem open_nums {t e:TypeId} {k:IntKind} {fuel:Nat} {v:Value} {x:DataW H×List MemPlace} (ht:P.underlying t=some (.slice e)) (he:P.underlying e=some (.int k))
  (hC:P.cellsOf e=1) (h:DataW.trod enc P w base spare held fuel t [v]=some x):
  ∃(A:Option Addr) (n c:Nat) (zs:List Int),v= .slice A n c∧(∀z∈zs,(Lit.int k z).wf=true)∧SliceOf w 1 (fun z=>[Value.int k z]) A n c zs:=by
 rcases open_slice ht h with ⟨h0,_⟩ | ⟨a,len,cap,m,n,D,Pl,hcs,hb,hl,hm,hmm,hx,hi⟩
 ·simp at h0
  exact ⟨none,0,0,[],h0,by simp,by simp [SliceOf]⟩
 ·simp at hcs
  have hlm:len≤m:=by rw [hmm]; split <;> omega
  have hel:∀i,i<len→∃z:Int,(Lit.int k z).wf=true∧w.cell? (a.add i)=some (.int k z):=by
   intro i hil
   obtain ⟨cs',hc,ht'⟩:=hi i (by omega)
   rw [hC,Nat.mul_one] at hc
   obtain ⟨_,hcl,hat⟩:=World.cells?_some hc
   obtain ⟨z,hz,_,hwf⟩:=DataW.trod_int he ht'
   refine ⟨z,hwf,?_⟩
   have:=hat 0 (by omega)
   rw [hz] at this
   simpa [Go.Deep.add_add] using this
  obtain ⟨zs,hzl,hzp⟩:=mk_list len hel
  refine ⟨some a,len,cap,zs,hcs,?_,hzl.symm,hl,hm,fun hn=> ?_⟩
  ·intro z hz
   obtain ⟨i,hi',hii⟩:=List.mem_iff_getElem.1 hz
   exact (hzp i z (by rw [List.getElem?_eq_getElem hi',hii])).1
  ·obtain ⟨z0,hz0⟩:∃z,zs[0]? =some z:=⟨_,List.getElem?_eq_getElem (by omega)⟩
   have hcell:=(hzp 0 z0 hz0).2
   obtain ⟨b,off,spot⟩:=a
   have hspot:spot=none:=by simpa [Addr.add] using World.cell?_spot hcell
   subst hspot
   have hadd:∀k,(Addr.add ⟨b,off,none⟩ k)=⟨b,off+k,none⟩:=fun k=>by unfold Addr.add; split <;> simp_all
   refine ⟨b,off,rfl,?_,fun i z hz j u hu=> ?_⟩
   ·have:=World.block_lt_of_cell? w _ hcell
    rw [hadd] at this
    exact this
   ·have:=(hzp i z hz).2
    rw [hadd] at this
    cases j with
    | zero=>simp at hu; subst hu; simpa using this
    | succ j=>simp at hu
theorem SliceOf.map {α β:Type} {size:Nat} {f:α→List Value} {f':β→List Value} {A:Option Addr} {n c:Nat} {xs:List α} (h:SliceOf w size f A n c xs) (g:α→β) (hg:∀x∈xs,f' (g x)=f x):
  SliceOf w size f' A n c (xs.map g):=by
 obtain ⟨h1,h2,h3,h4⟩:=h
 refine ⟨by simpa using h1,h2,h3,fun hn=> ?_⟩
 obtain ⟨b,off,hA,hb,hc⟩:=h4 hn
 refine ⟨b,off,hA,hb,fun i y hy j u hu=> ?_⟩
 rw [List.getElem?_map] at hy
 cases hx:xs[i]? with
 | none=>rw [hx] at hy; simp at hy
 | some x=>
  rw [hx] at hy
  simp at hy
  subst hy
  exact hc i x hx j u (by rw [←hg x (List.mem_of_getElem? hx)]; exact hu)
end
end Go.Proofs.YtfkpghdmljjegaaGreat
namespace Go.Proofs.YtfkpghdmljjegaaGreat
open Go.Joins Go.RowKit Go.ChangeShapes Go.WideShapes Go.Deep
section
variable {H:Type} {enc:TypeId×Value→H} {P:Program} {w:World} {base:Nat} {spare:Nat→Bool} {held:Bool}
theorem pick_list {β:Type} {f':β→List Value} {p:β→Prop} (xss:List (List Value)) (hp:∀vs∈xss,∃y:β,f' y=vs∧p y):∃ys:List β,ys.map f'=xss∧∀y∈ys,p y:=by
 induction xss with
 | nil=>exact ⟨[],rfl,by simp⟩
 | cons vs rest ih=>
  obtain ⟨ys,h1,h2⟩:=ih (fun v hv=>hp v (List.mem_cons_of_mem _ hv))
  obtain ⟨y,h3,h4⟩:=hp vs (List.mem_cons_self ..)
  refine ⟨y::ys,by rw [List.map_cons,h1,h3],fun z hz=> ?_⟩
  rcases List.mem_cons.1 hz with rfl | hz
  ·exact h4
  ·exact h2 z hz
theorem SliceOf.pick {β:Type} {size:Nat} {f':β→List Value} {p:β→Prop} {A:Option Addr} {n c:Nat} {xss:List (List Value)} (h:SliceOf w size id A n c xss) (hp:∀vs∈xss,∃y:β,f' y=vs∧p y):
  ∃ys:List β,SliceOf w size f' A n c ys∧∀y∈ys,p y:=by
 obtain ⟨ys,hy,hq⟩:=pick_list xss hp
 subst hy
 obtain ⟨h1,h2,h3,h4⟩:=h
 refine ⟨ys,⟨by simpa using h1,h2,h3,fun hn=> ?_⟩,hq⟩
 obtain ⟨b,off,hA,hb,hc⟩:=h4 hn
 refine ⟨b,off,hA,hb,fun i y hy j u hu=>hc i (f' y) ?_ j u hu⟩
 rw [List.getElem?_map,hy]; rfl
end
end Go.Proofs.YtfkpghdmljjegaaGreat
namespace Go.Proofs.YtfkpghdmljjegaaGreat
open Go.RowKit Go.ChangeShapes Go.WideShapes Go.ChangeAt Go.Deep Go.Joins
def CopiedRoom (r:Room) (w:World) (e:Ending) (w':World):Prop:=
 ∃g1 g2 g3 g4 g5 rs',e= .returned (.agg #[.slice (some ⟨g1,0,none⟩) r.ns.length r.ns.length,.slice (some ⟨g2,0,none⟩) r.ps.length r.ps.length,.slice (some ⟨g3,0,none⟩) r.xs.length r.xs.length,.slice (some ⟨g4,0,none⟩) r.L.length r.L.length,.slice (some ⟨g5,0,none⟩) r.rs.length r.rs.length])∧
  w.heap.size≤g1∧g1<g2∧g2<g3∧g3<g4∧g4<g5∧RowOf w' g1 223 Node.cells r.ns∧RowOf w' g2 181 Pipe.cells r.ps∧RowOf w' g3 153 Contract.cells r.xs∧RowOf w' g4 157 Nomination.cells r.L∧
  RowOf w' g5 60 RS.cells rs'∧rs'.map RS.xs=r.rs.map RS.xs∧(∀q∈rs',OwnRS w' g5 q)∧RsApart rs'∧Ext w w'
theorem OwnRS.far {w:World} {g:Nat} {q:RS} (h:OwnRS w g q) {p:Addr} (hp:p.block≤g) (u:Value):OwnRS (w.setCell p u) g q:=let ⟨g1,a,b,c,d,e,r⟩:=h; ⟨g1,a,b,c,d,e,r.far (by omega) u⟩
section
variable {H:Type} {enc:TypeId×Value→H} {w:World} {base:Nat} {spare:Nat→Bool} {held:Bool}
end
end Go.Proofs.YtfkpghdmljjegaaGreat
namespace Go.Proofs.YtfkpghdmljjegaaGreat
open Go.RowKit Go.ChangeShapes Go.WideShapes Go.ChangeAt Go.Deep Go.Joins
def roomOk (r:Room):Bool:=roomB r.ns.length r
def RoomLen (r:Room):Prop:=r.ns.length≤1048576∧Named r.ns∧r.ps.length≤1048576∧r.xs.length≤1048576∧r.L.length≤1048576∧r.rs.length≤1048576∧(∀q∈r.rs,q.xs.length≤1048576)∧((r.rs.map RS.xs).map List.length).sum≤1048576
section
variable {w w':World} {A1 A2 A3 A4 A5:Option Addr} {n1 c1 n2 c2 n3 c3 n4 c4 n5 c5:Nat} {r r':Room}
theorem RoomLen.like (h:RoomLen r) (hl:r'.Like r):RoomLen r':=by
 obtain ⟨h1,h2,h3,h4,h5⟩:=hl
 obtain ⟨k1,k2,k3,k4,k5,k6,k7,k8⟩:=h
 have hlen:=congrArg List.length h5
 simp at hlen
 refine ⟨by rw [h1]; exact k1,by rw [h1]; exact k2,by rw [h2]; exact k3,by rw [h3]; exact k4,by rw [h4]; exact k5,by rw [hlen]; exact k6,fun q hq=> ?_,by rw [h5]; exact k8⟩
 have:q.xs∈r.rs.map RS.xs:=by rw [←h5]; exact List.mem_map_of_mem hq
 obtain ⟨q',hq',he⟩:=List.mem_map.1 this
 rw [←he]; exact k7 q' hq'
theorem RoomAt.ok (h:RoomAt w A1 A2 A3 A4 A5 n1 c1 n2 c2 n3 c3 n4 c4 n5 c5 r') (hl:r'.Like r):roomB n1 r'=roomOk r:=by
 unfold roomOk
 rw [h.s1.len,hl.1,roomB_like hl]
end
def RoomOf (r:Room) (w:World) (e:Ending) (w':World):Prop:=∃(A1 A2 A3 A4 A5:Option Addr) (n1 c1 n2 c2 n3 c3 n4 c4 n5 c5:Nat) (r':Room),e= .returned (.agg #[.slice A1 n1 c1,.slice A2 n2 c2,.slice A3 n3 c3,.slice A4 n4 c4,.slice A5 n5 c5])∧RoomAt w' A1 A2 A3 A4 A5 n1 c1 n2 c2 n3 c3 n4 c4 n5 c5 r'∧r'.Like r∧Ext w w'
theorem CopiedRoom.of {r:Room} {w w':World} {e:Ending} (hl:RoomLen r) (h:CopiedRoom r w e w'):RoomOf r w e w':=by
 obtain ⟨g1,g2,g3,g4,g5,rs',rfl,_,_,_,_,_,r1,r2,r3,r4,r5,hm,ho,_,hx⟩:=h
 obtain ⟨k1,_,k2,k3,k4,k5,_⟩:=hl
 have hlen:=congrArg List.length hm
 simp at hlen
 exact ⟨_,_,_,_,_,_,_,_,_,_,_,_,_,_,_,⟨r.ns,r.ps,r.xs,r.L,rs'⟩,rfl,⟨r1.slice node_len rfl (by omega),r2.slice pipe_len rfl (by omega),r3.slice contract_len rfl (by omega),r4.slice nomination_len rfl (by omega),r5.slice rs_len hlen.symm (by omega),fun q hq=>(ho q hq).slice⟩,⟨rfl,rfl,rfl,rfl,hm⟩,hx⟩
end Go.Proofs.YtfkpghdmljjegaaGreat
namespace Go.Proofs.YtfkpghdmljjegaaGreat
open Go.RowKit
def mtGo (k:Nat) (out:ByteArray):ByteArray:=if _h:k=0 then out else mtGo (k/10) (⟨#[48+UInt8.ofNat (k % 10)]⟩++out)
termination_by k
decreasing_by omega
def mtext (k:Int):ByteArray:=if k≤0 then ⟨#[109,48]⟩ else ⟨#[109]⟩++mtGo k.toNat ByteArray.empty
end Go.Proofs.YtfkpghdmljjegaaGreat
namespace Go.Proofs.YtfkpghdmljjegaaGreat
open Go.RowKit
def markNode (a:Int) (n:Nat):List Node:=(List.range n).map fun (i:Nat)=>⟨mtext (a+3*(i:Int)),a+3*(i:Int)+1,a+3*(i:Int)+2⟩
end Go.Proofs.YtfkpghdmljjegaaGreat
namespace Go.Proofs.YtfkpghdmljjegaaGreat
open Go.RowKit
def markRS:Int→List RS→List RS
 | _,[]=>[]
 | a,q::t=>⟨q.A,q.n,q.c,markReading a q.n⟩::markRS (a+2*q.n) t
theorem SliceOf.same {α β:Type} {w:World} {size:Nat} {f:α→List Value} {f':β→List Value} {A:Option Addr} {n c:Nat} {xs:List α} {ys:List β} (h:SliceOf w size f A n c xs) (he:ys.map f'=xs.map f):SliceOf w size f' A n c ys:=by
 obtain ⟨h1,h2,h3,h4⟩:=h
 have hl:=congrArg List.length he
 simp at hl
 refine ⟨by rw [hl]; exact h1,h2,h3,fun hn=> ?_⟩
 obtain ⟨b,off,hA,hb,hc⟩:=h4 hn
 refine ⟨b,off,hA,hb,fun i y hy j u hu=> ?_⟩
 have h5:=congrArg (fun l=>l[i]?) he
 simp only [List.getElem?_map,hy,Option.map_some] at h5
 cases hx:xs[i]? with
 | none=>rw [hx] at h5; cases h5
 | some x=>
  rw [hx] at h5
  simp only [Option.map_some,Option.some.injEq] at h5
  exact hc i x hx j u (by rw [←h5]; exact hu)
theorem OwnA.same {α β:Type} {w:World} {t:TypeId} {f:α→List Value} {f':β→List Value} {A:Option Addr} {n c:Nat} {xs:List α} {ys:List β} (h:OwnA w t f A n c xs) (he:ys.map f'=xs.map f):OwnA w t f' A n c ys:=by
 have hl:=congrArg List.length he
 simp at hl
 have hf:ys.flatMap f'=xs.flatMap f:=by rw [List.flatMap_def,List.flatMap_def,he]
 refine ⟨by rw [hl]; exact h.1,h.2.1,h.2.2.1,fun hn=> ?_⟩
 rw [hf]
 exact h.2.2.2 hn
def rsBlk (rs:List RS) (b:Nat):Prop:=∃q∈rs,blkOf q.A q.n=some b
structure MarkedRS (rs:List RS) (a:Int) (w:World) (e:Ending) (w':World):Prop where
 e:e= .returned (.int .i64 (a+2*((rs.map RS.n).sum:Nat)))
 own:∀q∈markRS a rs,OwnA w' 176 Reading.cells q.A q.n q.c q.xs
 turn:Turn (rsBlk rs) w w'
end Go.Proofs.YtfkpghdmljjegaaGreat
