/-
  The reference's draw of a room: the walk.
-/
import Derived.Test.YtinindjjapblcaaGreatDoorWa28
import Derived.Test.YtinindjjapblcaaGreatDoorWa36
namespace Go.Proofs.YtinindjjapblcaaGreatDoor
open Go.RowKit
section
variable {w0 w:World} {a n c:Nat} {A:Option Addr}
theorem newR_valid {ns:List Node} {ps:List Pipe} {xs:List Contract} {k:Int} (h:(netB ns ps&&bookB k xs)=true):roomB k (newR ns ps xs)=true:=by
 rw [Bool.and_eq_true] at h
 simp [roomB,newR,nomsOk,h.1,h.2,nomsB,inB,readsB]
theorem roomB_pos {k:Int} {r:Room} (h:roomB k r=true):0<r.rs.length:=by
 simp only [roomB,Bool.and_eq_true,inB_true] at h
 omega
set_option maxRecDepth 8000 in
set_option maxHeartbeats 8000000 in
theorem c_l33Draw (h:Src w0 w a A n c):
  Calls Tryz.prog 33 #[.pointer (some ⟨a,0,none⟩)] w (DrawnRoom w0 a A n c w):=by
 have hal:=h.lt
 have hle:=h.le0
 have hR:=Row.new w 32 [.slice none 0 0,.slice none 0 0,.slice none 0 0,.slice none 0 0,.slice none 0 0]
 have hxa:=Ext.alloc w (.cells ([.slice none 0 0,.slice none 0 0,.slice none 0 0,.slice none 0 0,.slice none 0 0]).toArray 32)
 go_enter Tryz.func33,Tryz.ntmps33
 go_wp2_with fail
 refine (c_l20Draw (h.more hxa)).mono ?_
 rintro e w1 ⟨v1,v2,v3,ns,ps,xs,rfl,hs1,ho1,o1,o2,o3,b1,b2,b3,hnm,hcs⟩
 have hR1:=hR.only ho1 (by omega)
 have hO1:=(Only.of_ext hxa a).trans ho1
 rw [World.size_alloc] at o1 o2 o3
 obtain ⟨A1,c1,rfl,h1⟩:=o1.sl node_len (by omega)
 obtain ⟨A2,c2,rfl,h2⟩:=o2.sl pipe_len (by omega)
 obtain ⟨A3,c3,rfl,h3⟩:=o3.sl contract_len (by omega)
 have HNM:=hide (show ∀x∈ns,x.name.size≤1048576 from fun x hx=>Nat.le_trans (hnm x hx) (by omega))
 have HSH:=hide hnm
 have HCS:=hide hcs
 clear hR hxa ho1 h hnm hcs
 have hxb:Ext w1 (w1.alloc (.cells #[.slice A1 ns.length c1,.slice A2 ps.length c2] 27)):=Ext.alloc _ _
 have hN:=Row.new w1 27 [.slice A1 ns.length c1,.slice A2 ps.length c2]
 obtain ⟨W2,HW2⟩:∃W2,Hid (w1.alloc (.cells #[.slice A1 ns.length c1,.slice A2 ps.length c2] 27)=W2):=⟨_,hide rfl⟩
 have hN:Row W2 w1.heap.size 27 [.slice A1 ns.length c1,.slice A2 ps.length c2]:=by rw [←HW2.out]; exact hN
 have hxb:Ext w1 W2:=by rw [←HW2.out]; exact hxb
 have hz12:w1.heap.size<W2.heap.size:=hN.lt
 have hrl:=hR1.lt
 cases hb:(netB ns ps&&bookB ns.length xs)
 ·have HRR:=hide (newRR_no hb)
  go_wp2_with fail
  rw [HW2.out]
  refine (c_specNewRoomL A1 A2 ns.length c1 ps.length c2 ns ps A3 xs.length c3 xs _ (h1.ext hxb) (h2.ext hxb) (h3.ext hxb) (by omega) (by omega) (by omega) HNM.out).mono ?_
  rw [HRR.out]
  rintro e w3 ⟨C1,C2,C3,C4,C5,l1,f1,l2,f2,l3,f3,l4,f4,l5,f5,r3,rfl,-,hx3⟩
  have hN3:=hN.ext hx3
  have m0:=hN3.cell 0
  have m1:=hN3.cell 1
  simp at m0 m1
  have ml:=hN3.lt
  have hX3:=hxb.trans hx3
  have hR3:=hR1.ext hX3
  have hs3:=hs1.more hX3
  have hO3:=hO1.trans (Only.of_ext hX3 a)
  have q0:=(hR3).cell 0
  have q1:=(hR3).cell 1
  have q2:=(hR3).cell 2
  have q3:=(hR3).cell 3
  have q4:=(hR3).cell 4
  simp at q0 q1 q2 q3 q4
  have qf:=(hR3).frozen
  have ql:=(hR3).lt
  have hxz:Ext (putCells w3 w.heap.size 0 [.slice A1 ns.length c1,.slice A2 ps.length c2,.slice A3 xs.length c3,.slice none 0 0,.slice none 0 0]) ((putCells w3 w.heap.size 0 [.slice A1 ns.length c1,.slice A2 ps.length c2,.slice A3 xs.length c3,.slice none 0 0,.slice none 0 0]).alloc (.cells #[.slice C1 l1 f1,.slice C2 l2 f2,.slice C3 l3 f3,.slice C4 l4 f4,.slice C5 l5 f5] 32)):=Ext.alloc _ _
  have u1:=((o1.ext hX3).put hR3 (by decide) 0 [.slice A1 ns.length c1,.slice A2 ps.length c2,.slice A3 xs.length c3,.slice none 0 0,.slice none 0 0]).ext hxz
  have u2:=((o2.ext hX3).put hR3 (by decide) 0 [.slice A1 ns.length c1,.slice A2 ps.length c2,.slice A3 xs.length c3,.slice none 0 0,.slice none 0 0]).ext hxz
  have u3:=((o3.ext hX3).put hR3 (by decide) 0 [.slice A1 ns.length c1,.slice A2 ps.length c2,.slice A3 xs.length c3,.slice none 0 0,.slice none 0 0]).ext hxz
  have s4:=(hs3.put (g:=w.heap.size) (by omega) (by omega) 0 [.slice A1 ns.length c1,.slice A2 ps.length c2,.slice A3 xs.length c3,.slice none 0 0,.slice none 0 0]).more hxz
  have p4:=(hO3.putNew (Nat.le_refl w.heap.size) 0 [.slice A1 ns.length c1,.slice A2 ps.length c2,.slice A3 xs.length c3,.slice none 0 0,.slice none 0 0]).trans (Only.of_ext hxz a)
  have HF:Hid (DrawnRoom w0 a A n c w (.returned (.agg #[.slice A1 ns.length c1,.slice A2 ps.length c2,.slice A3 xs.length c3,.slice none 0 0,.slice none 0 0])) ((putCells w3 w.heap.size 0 [.slice A1 ns.length c1,.slice A2 ps.length c2,.slice A3 xs.length c3,.slice none 0 0,.slice none 0 0]).alloc (.cells #[.slice C1 l1 f1,.slice C2 l2 f2,.slice C3 l3 f3,.slice C4 l4 f4,.slice C5 l5 f5] 32))):=by
   refine hide ⟨A1,A2,A3,none,none,_,c1,_,c2,_,c3,0,0,0,0,⟨ns,ps,xs,[],[]⟩,rfl,s4,p4,⟨u1.slE node_len (by decide),u2.slE pipe_len (by decide),u3.slE contract_len (by decide),SliceOf.nil.2 (by simp [maxLen]),SliceOf.nil.2 (by simp [maxLen]),fun q hq=>by simp at hq⟩,?_,⟨b1,HSH.out,b2,b3,HCS.out⟩,by simp,by simp,fun q hq=>by simp at hq⟩
   rintro b (hb | ⟨q,hq,hb⟩)
   ·simp only [List.mem_cons,List.not_mem_nil,or_false] at hb
    rcases hb with hb | hb | hb | hb | hb
    ·have:=(u1.toA' node_len (by decide)).2 b hb.symm; omega
    ·have:=(u2.toA' pipe_len (by decide)).2 b hb.symm; omega
    ·have:=(u3.toA' contract_len (by decide)).2 b hb.symm; omega
    ·exact absurd hb.symm (blk_zero _ _)
    ·exact absurd hb.symm (blk_zero _ _)
   ·simp at hq
  clear u1 u2 u3 s4 p4 hR3 hs3 hO3 o1 o2 o3 h1 h2 h3 hxz
  go_wp2_with fail
  refine bodyPost_ret (v:= .agg #[.slice A1 ns.length c1,.slice A2 ps.length c2,.slice A3 xs.length c3,.slice none 0 0,.slice none 0 0]) (by simp [results,Tryz.results33,go_sem,q0,q1,q2,q3,q4,ql]) rfl ?_
  exact HF.out
 have HRR:=hide (newRR_yes hb)
 have HVB:=hide (newR_valid hb)
 go_wp2_with fail
 rw [HW2.out]
 refine (c_specNewRoomL A1 A2 ns.length c1 ps.length c2 ns ps A3 xs.length c3 xs _ (h1.ext hxb) (h2.ext hxb) (h3.ext hxb) (by omega) (by omega) (by omega) HNM.out).mono ?_
 rw [HRR.out]
 rintro e w3 ⟨C1,C2,C3,C4,C5,l1,f1,l2,f2,l3,f3,l4,f4,l5,f5,r3,rfl,hR3,hx3⟩
 obtain ⟨hR3,hlk3⟩:=hR3 rfl
 have hx4:Ext w3 (w3.alloc (.cells #[.slice C1 l1 f1,.slice C2 l2 f2,.slice C3 l3 f3,.slice C4 l4 f4,.slice C5 l5 f5] 32)):=Ext.alloc _ _
 have hX4:=(hxb.trans hx3).trans hx4
 have hK0:KSt w0 w a A n c w3.heap.size C1 C2 C3 C4 C5 l1 f1 l2 f2 l3 f3 l4 f4 l5 f5 r3 (w3.alloc (.cells #[.slice C1 l1 f1,.slice C2 l2 f2,.slice C3 l3 f3,.slice C4 l4 f4,.slice C5 l5 f5] 32)):=by
  have hsz:=hx3.size
  refine ⟨hal,hs1.more hX4,hO1.trans (Only.of_ext hX4 a),hR1.ext hX4,Row.new w3 32 [.slice C1 l1 f1,.slice C2 l2 f2,.slice C3 l3 f3,.slice C4 l4 f4,.slice C5 l5 f5],by omega,(hR3.ext hx4).wider (by omega) hx4.size,?_⟩
  exact SizR.like (r:=newR ns ps xs) ⟨b1,HSH.out,b2,b3,HCS.out⟩ hlk3.1 hlk3.2.1 hlk3.2.2.1
 have HOK0:Hid (roomB l1 r3=true):=by
  have hk:l1=ns.length:=by rw [hR3.own.o1.1,hlk3.1]; rfl
  rw [hk]
  exact hide (by rw [roomB_like hlk3]; exact HVB.out)
 obtain ⟨W4,HW4⟩:∃W4,Hid (w3.alloc (.cells #[.slice C1 l1 f1,.slice C2 l2 f2,.slice C3 l3 f3,.slice C4 l4 f4,.slice C5 l5 f5] 32)=W4):=⟨_,hide rfl⟩
 rw [HW4.out] at hK0
 clear hN hx4 hX4 hlk3 hR3 hs1 hO1 hR1 o1 o2 o3 h1 h2 h3 hx3 hxb
 go_wp2_with fail
 rw [HW4.out]
 refine (c_next 12 hK0.src (by omega) (by omega)).mono ?_
 rintro e w5 ⟨x5,rfl,hx5,hx5',hs5,ho5⟩
 obtain ⟨j0,rfl⟩:=Int.eq_ofNat_of_zero_le hx5
 have hK5:=hK0.draw hs5 ho5
 clear hK0 hs5 ho5
 obtain ⟨gr,hgr⟩:∃gr,w3.heap.size=gr:=⟨_,rfl⟩
 rw [hgr] at hK5
 rw [hgr]
 clear hgr
 go_wp2_with fail
 go_loopw [7] (fun i wr=>∃(j:Nat) (C1 C2 C3 C4 C5:Option Addr) (l1 f1 l2 f2 l3 f3 l4 f4 l5 f5:Nat) (r:Room),j≤11∧i= .int .i64 j∧KSt w0 w a A n c gr C1 C2 C3 C4 C5 l1 f1 l2 f2 l3 f3 l4 f4 l5 f5 r wr∧Hid (roomB l1 r=true)) (fun i _=>(intOf i).toNat)
 case atStart=>exact ⟨j0,C1,C2,C3,C4,C5,l1,f1,l2,f2,l3,f3,l4,f4,l5,f5,r3,by omega,rfl,hK5,HOK0⟩
 case round=>
  clear hK5 HOK0
  obtain ⟨j,C1,C2,C3,C4,C5,l1,f1,l2,f2,l3,f3,l4,f4,l5,f5,r,hj,rfl,hK,HOK⟩:=hrel
  have hft:=roomFits HOK.out
  have hfL:=hft.L
  have hfr:=hft.rs
  have hfx:=hft.xs
  have hl1:l1≤7:=by rw [hK.room.own.o1.1]; exact hK.siz.ns
  have hl3:l3≤40:=by rw [hK.room.own.o3.1]; exact hK.siz.xs
  have HL5:=hide hK.room.own.o5.1
  have hl5:l5≤48:=by rw [HL5.out]; exact hfr
  have p0:=(hK.var).cell 0
  have p1:=(hK.var).cell 1
  have p2:=(hK.var).cell 2
  have p3:=(hK.var).cell 3
  have p4:=(hK.var).cell 4
  simp at p0 p1 p2 p3 p4
  have pf:=(hK.var).frozen
  have pl:=(hK.var).lt
  by_cases hj0:0<j
  ·have hba:∀b,blkOf C3 l3=some b→b≠a:=fun b hb=>by have:=(hK.room.own.rf b (by simp [hb])).1; omega
   go_wp2_with fail
   refine (c_l33DrawEvent C1 C2 C3 C4 C5 l1 f1 l2 f2 l3 f3 l4 f4 l5 f5 r.xs (hK.room.own.o3.slice contract_len) hba hK.siz.cs (by omega) (by omega) (by omega) hK.src).mono ?_
   rintro e w6 ⟨x,rfl,hs6,ho6⟩
   have hK6:=hK.draw hs6 ho6
   clear hK hs6 ho6 hba p0 p1 p2 p3 p4 pf pl
   have p0:=(hK6.var).cell 0
   have p1:=(hK6.var).cell 1
   have p2:=(hK6.var).cell 2
   have p3:=(hK6.var).cell 3
   have p4:=(hK6.var).cell 4
   simp at p0 p1 p2 p3 p4
   have pf:=(hK6.var).frozen
   have pl:=(hK6.var).lt
   have hxe:Ext w6 (w6.alloc (.cells #[.int .i64 x.kind,.int .i64 x.a,.int .i64 x.b,.int .i64 x.c,.int .i64 x.d] 54)):=Ext.alloc _ _
   have hE:=EvIn.new w6 x 54
   obtain ⟨W7,HW7⟩:∃W7,Hid (w6.alloc (.cells #[.int .i64 x.kind,.int .i64 x.a,.int .i64 x.b,.int .i64 x.c,.int .i64 x.d] 54)=W7):=⟨_,hide rfl⟩
   have hK7:=hK6.more hxe
   rw [HW7.out] at hK7 hE
   clear hxe
   go_wp2_with fail
   rw [HW7.out]
   refine (c_l33ApplyL C1 C2 C3 C4 C5 l1 f1 l2 f2 l3 f3 l4 f4 l5 f5 r x _ hK7.room.own.at_ HOK.out).mono ?_
   rintro e w8 ⟨D1,D2,D3,D4,D5,q1,g1,q2,g2,q3,g3,q4,g4,q5,g5,r8,rfl,hap,hx8⟩
   have hK8:=hK7.more hx8
   have hE8:=hE.ext hx8
   have h78:=hx8.size
   have h7r:=hK7.res.lt
   clear hK6 hK7 hE p0 p1 p2 p3 p4 pf pl
   have hx9:Ext w8 (w8.alloc (.cells #[.slice D1 q1 g1,.slice D2 q2 g2,.slice D3 q3 g3,.slice D4 q4 g4,.slice D5 q5 g5] 32)):=Ext.alloc _ _
   have hN9:=Row.new w8 32 [.slice D1 q1 g1,.slice D2 q2 g2,.slice D3 q3 g3,.slice D4 q4 g4,.slice D5 q5 g5]
   obtain ⟨W9,HW9⟩:∃W9,Hid (w8.alloc (.cells #[.slice D1 q1 g1,.slice D2 q2 g2,.slice D3 q3 g3,.slice D4 q4 g4,.slice D5 q5 g5] 32)=W9):=⟨_,hide rfl⟩
   have hK9:=hK8.more hx9
   have hN9:Row W9 w8.heap.size 32 [.slice D1 q1 g1,.slice D2 q2 g2,.slice D3 q3 g3,.slice D4 q4 g4,.slice D5 q5 g5]:=by rw [←HW9.out]; exact hN9
   have hx9:Ext w8 W9:=by rw [←HW9.out]; exact hx9
   rw [HW9.out] at hK9
   obtain ⟨hle8,y0,y1,y2,y3,y4⟩:=id hE8
   generalize hab:appB (l1:Int) r x=ab at *
   have HAB:=hide hab
   clear hab
   go_wp2_with fail
   rw [HW9.out]
   refine (c_specIsEvent x _).mono ?_
   rintro e w10 ⟨rfl,hx10⟩
   have hK10:=hK9.more hx10
   have hN10:=hN9.ext hx10
   clear hK8 hK9 hN9 y0 y1 y2 y3 y4 hle8 hE8
   cases hev:evB x
   ·go_wp2_with fail
    go_roundw
    case rel=>exact ⟨j-1,C1,C2,C3,C4,C5,l1,f1,l2,f2,l3,f3,l4,f4,l5,f5,r,by omega,by go_num,hK10,HOK⟩
    case measure=>simp [intOf]; omega
   cases ab
   ·go_wp2_with fail
    go_roundw
    case rel=>exact ⟨j-1,C1,C2,C3,C4,C5,l1,f1,l2,f2,l3,f3,l4,f4,l5,f5,r,by omega,by go_num,hK10,HOK⟩
    case measure=>simp [intOf]; omega
   ·obtain ⟨hR8,hlk8⟩:=hap rfl
    have hsz910:=(hx9.trans hx10).size
    have hS8:SizR r8:=by
     obtain ⟨a1,a2,a3⟩:=appR_same r x
     exact hK10.siz.like (hlk8.1.trans a1) (hlk8.2.1.trans a2) (hlk8.2.2.1.trans a3)
    have HOK8:Hid (roomB q1 r8=true):=by
     have hk:q1=l1:=by rw [hR8.own.o1.1,hlk8.1,(appR_same r x).1,hK10.room.own.o1.1]
     rw [hk]
     exact hide (by rw [roomB_like hlk8]; exact appR_ok HOK.out HAB.out)
    have hK11:=hK10.next (hR8.ext (hx9.trans hx10)) (by omega) hsz910 hS8
    have t0:=(hN10).cell 0
    have t1:=(hN10).cell 1
    have t2:=(hN10).cell 2
    have t3:=(hN10).cell 3
    have t4:=(hN10).cell 4
    simp at t0 t1 t2 t3 t4
    have tf:=(hN10).frozen
    have tl:=(hN10).lt
    have p0:=(hK10.var).cell 0
    have p1:=(hK10.var).cell 1
    have p2:=(hK10.var).cell 2
    have p3:=(hK10.var).cell 3
    have p4:=(hK10.var).cell 4
    simp at p0 p1 p2 p3 p4
    have pf:=(hK10.var).frozen
    have pl:=(hK10.var).lt
    clear hK10 hN10 hR8 hlk8 hap hS8
    go_wp2_with fail
    go_roundw
    case rel=>exact ⟨j-1,D1,D2,D3,D4,D5,q1,g1,q2,g2,q3,g3,q4,g4,q5,g5,r8,by omega,by go_num,hK11,HOK8⟩
    case measure=>simp [intOf]; omega
  ·obtain rfl:j=0:=by omega
   clear p0 p1 p2 p3 p4 pf pl
   go_wp2_with fail
   refine (c_next 30 hK.src (by omega) (by omega)).mono ?_
   rintro e w6 ⟨x,rfl,hx0,hx1,hs6,ho6⟩
   have hK6:=hK.draw hs6 ho6
   clear hK hs6 ho6
   by_cases h0:x=0
   ·subst h0
    have hF:=hK6.toF.nil
    have t0:=(hK6.var).cell 0
    have t1:=(hK6.var).cell 1
    have t2:=(hK6.var).cell 2
    have t3:=(hK6.var).cell 3
    have t4:=(hK6.var).cell 4
    simp at t0 t1 t2 t3 t4
    have tf:=(hK6.var).frozen
    have tl:=(hK6.var).lt
    clear hK6
    have p0:=(hF.var).cell 0
    have p1:=(hF.var).cell 1
    have p2:=(hF.var).cell 2
    have p3:=(hF.var).cell 3
    have p4:=(hF.var).cell 4
    simp at p0 p1 p2 p3 p4
    have pf:=(hF.var).frozen
    have pl:=(hF.var).lt
    have q0:=(hF.res).cell 0
    have q1:=(hF.res).cell 1
    have q2:=(hF.res).cell 2
    have q3:=(hF.res).cell 3
    have q4:=(hF.res).cell 4
    simp at q0 q1 q2 q3 q4
    have qf:=(hF.res).frozen
    have ql:=(hF.res).lt
    have HF:=hide (hF.fin (by first | assumption | omega) (by first | (simp; done) | (simp; omega) | omega) (by first | assumption | (simp; done) | (intro q hq; have:=hfx q hq; omega)))
    clear hF
    go_wp2_with fail
    refine bodyPost_ret (v:= .agg #[.slice C1 l1 f1,.slice C2 l2 f2,.slice C3 l3 f3,.slice C4 l4 f4,.slice none 0 0]) (by simp [results,Tryz.results33,go_sem,q0,q1,q2,q3,q4]) rfl ?_
    exact HF.out
   have b0:(x==0)=false:=by rw [beq_eq_false_iff_ne]; exact h0
   by_cases h1:x=1
   ·subst h1
    have hlr:0<r.rs.length:=roomB_pos HOK.out
    obtain ⟨⟨qA,qn,qc,qx⟩,hq⟩:∃q,r.rs[0]? =some q:=⟨_,List.getElem?_eq_getElem hlr⟩
    have hqm:=List.mem_of_getElem? hq
    have hqx:=hfx _ hqm
    simp only at hqx
    obtain ⟨b5,off5,y5,hC5,hb5,hy5,hc5⟩:=(hK6.room.own.o5.slice rs_len).get (k:=0) (by rw [HL5.out]; exact hlr)
    obtain rfl:y5=⟨qA,qn,qc,qx⟩:=by rw [hq] at hy5; exact (Option.some.inj hy5).symm
    obtain ⟨g5,hA5,-⟩:=hK6.room.own.o5.2.2.2 (by rw [HL5.out]; exact hlr)
    obtain ⟨rfl,rfl⟩:b5=g5∧off5=0:=by rw [hC5] at hA5; simpa using hA5
    subst hC5
    have hq0:=hc5 0 _ rfl
    simp only [Nat.zero_mul,Nat.add_zero] at hq0
    have hlpos:0<l5:=by rw [HL5.out]; exact hlr
    have HQ:=hide hq
    have HQM:=hide hqm
    clear hc5 hy5 hq hqm
    have p0:=(hK6.var).cell 0
    have p1:=(hK6.var).cell 1
    have p2:=(hK6.var).cell 2
    have p3:=(hK6.var).cell 3
    have p4:=(hK6.var).cell 4
    simp at p0 p1 p2 p3 p4
    have pf:=(hK6.var).frozen
    have pl:=(hK6.var).lt
    have hrl6:=hK6.res.lt
    go_wp2_with fail
    refine wp_region_phZ [(gr,4),(b5,0)] [([0,1,2,3,4,5,6],7),([],8)] [9] 10 (by kernel_rfl) (by kernel_rfl) (by intro c a w d v h; cases d <;> exact h) ?_
    simp only [wpPhZ,pickL,nthO]
    repeat (go_big_quiet_step (fail))
    refine wpQuiet_nil ?_
    go_wp2_with fail
    have hx7:Ext w6 (w6.drew.alloc (.cells #[.int .i64 0,.int .i64 0] 84)):=(Ext.refl w6).drew.and_alloc _
    refine ⟨SameC.of_ext hx7 (by simp; omega),wpQuiet_nil ?_⟩
    have o7:=(hK6.more hx7).room.r6 _ HQM.out
    go_wp2_with (at_builtin; go_must (refine wpList_append_grow rfl _ _ 81 rfl (w.heap.size+1) 84 _ 2 16 Tryz.underlying81 reading_info rfl (by decide) Reading.cells reading_len reading_one (.slice qA qn qc) qx rfl o7 _ 1 1 [⟨0,0⟩] rfl (new_one reading_len w6.drew 84 ⟨0,0⟩) (by simp; omega) (by omega) (by simp; omega) ?_))
    intro v7 w7 ho7 hg7
    have hly:(qx++[(⟨0,0⟩:Reading)]).length≤49:=by simp; omega
    generalize qx++[(⟨0,0⟩:Reading)]=ys at *
    obtain ⟨QA,qcc,rfl,-,-⟩:=ho7.form
    obtain ⟨hl7,hw7,hf7,⟨u7,hu7⟩,hsm,hv7,hne7,hF⟩:=hK6.case1 HQ.out hx7 hg7 ho7 rfl
    have hqall:∀q∈r.rs.set 0 ⟨QA,ys.length,qcc,ys⟩,q.xs.length≤49:=fun q hq=>by
     rcases List.mem_or_eq_of_mem_set hq with h | h
     ·have:=hfx q h; omega
     ·subst h; exact hly
    have hll:(r.rs.set 0 ⟨QA,ys.length,qcc,ys⟩).length≤50:=by rw [List.length_set]; omega
    clear hK6 o7 hg7 ho7 hx7 p0 p1 p2 p3 p4 pf pl
    go_wp2_with fail
    refine ⟨hsm,?_⟩
    repeat (go_big_quiet_step (fail))
    refine wpQuiet_nil ?_
    have t0:=(hv7).cell 0
    have t1:=(hv7).cell 1
    have t2:=(hv7).cell 2
    have t3:=(hv7).cell 3
    have t4:=(hv7).cell 4
    simp at t0 t1 t2 t3 t4
    have tf:=(hv7).frozen
    have tl:=(hv7).lt
    clear hsm hv7 hq0
    have p0:=(hF.var).cell 0
    have p1:=(hF.var).cell 1
    have p2:=(hF.var).cell 2
    have p3:=(hF.var).cell 3
    have p4:=(hF.var).cell 4
    simp at p0 p1 p2 p3 p4
    have pf:=(hF.var).frozen
    have pl:=(hF.var).lt
    have q0:=(hF.res).cell 0
    have q1:=(hF.res).cell 1
    have q2:=(hF.res).cell 2
    have q3:=(hF.res).cell 3
    have q4:=(hF.res).cell 4
    simp at q0 q1 q2 q3 q4
    have qf:=(hF.res).frozen
    have ql:=(hF.res).lt
    have HF:=hide (hF.fin (by first | assumption | omega) (by first | (simp; done) | (simp; omega) | omega) (by first | assumption | (simp; done) | (intro q hq; have:=hfx q hq; omega)))
    clear hF
    go_wp2_with fail
    refine bodyPost_ret (v:= .agg #[.slice C1 l1 f1,.slice C2 l2 f2,.slice C3 l3 f3,.slice C4 l4 f4,.slice (some ⟨b5,0,none⟩) l5 f5]) (by simp [results,Tryz.results33,go_sem,q0,q1,q2,q3,q4]) rfl ?_
    exact HF.out
   have b1:(x==1)=false:=by rw [beq_eq_false_iff_ne]; exact h1
   by_cases h2:x=2
   ·subst h2
    clear hx0 hx1
    go_wp2_with fail
    go_loopw [] (fun wr=>∃(C5:Option Addr) (l5 f5:Nat) (r:Room),r.L.length≤200∧r.rs.length≤50∧Hid (∀q∈r.rs,q.xs.length≤48)∧KSt w0 w a A n c gr C1 C2 C3 C4 C5 l1 f1 l2 f2 l3 f3 l4 f4 l5 f5 r wr) (fun wr=>50-(match wr.cell? ⟨gr,4,none⟩ with | some (.slice _ m _)=>m | _=>0))
    case atStart=>exact ⟨C5,l5,f5,r,hfL,by omega,hide hfx,hK6⟩
    case round=>
     clear hK6 HOK hfL hfr hfx hft hl5 HL5
     obtain ⟨C5,l5,f5,r,hfL,hr50,HX,hK⟩:=hrel
     have hfx:=HX.out
     have HL5:=hide hK.room.own.o5.1
     have hl5:l5≤50:=by rw [HL5.out]; exact hr50
     have p0:=(hK.var).cell 0
     have p1:=(hK.var).cell 1
     have p2:=(hK.var).cell 2
     have p3:=(hK.var).cell 3
     have p4:=(hK.var).cell 4
     simp at p0 p1 p2 p3 p4
     have pf:=(hK.var).frozen
     have pl:=(hK.var).lt
     go_wp2_with fail
     refine wp_region_phC [(gr,4)] [([0,1,2,3],4)] [5,6] (by kernel_rfl) (by kernel_rfl) (by intro c a w d v h; cases d <;> exact h) ?_
     simp only [wpPhC,pickL,nthO]
     repeat (go_big_quiet_step (fail))
     refine wpQuiet_nil ?_
     go_wp2_with fail
     refine (c_next 2 (hK.src.more (Ext.refl _).drew) (by omega) (by omega)).mono ?_
     rintro e w7 ⟨y,rfl,hy0,hy1,hs7,ho7⟩
     have hsm:=(SameC.refl [(gr,4)] wr).drew.trans (SameC.of_only ho7 (by have:=hK.lt; have:=hK.hgr; simp; omega))
     have hK7:=hK.draw hs7 ((Only.refl a wr).drew.trans ho7)
     have hP4:=hide (hK.var.cell 4)
     clear hK hs7 ho7 p0 p1 p2 p3 p4 pf pl
     go_wp2_with fail
     refine ⟨hsm,?_⟩
     repeat (go_big_quiet_step (fail))
     refine wpQuiet_nil ?_
     clear hsm
     by_cases hm:(l5:Int)<48+y
     ·have hrl7:=hK7.res.lt
      have p0:=(hK7.var).cell 0
      have p1:=(hK7.var).cell 1
      have p2:=(hK7.var).cell 2
      have p3:=(hK7.var).cell 3
      have p4:=(hK7.var).cell 4
      simp at p0 p1 p2 p3 p4
      have pf:=(hK7.var).frozen
      have pl:=(hK7.var).lt
      go_wp2_with (at_builtin; go_must (refine wpList_append_grow rfl _ _ 30 rfl (w.heap.size+1) 81 _ 1 24 Tryz.underlying30 rs_info' rfl (by decide) RS.cells rs_len rs_one (.slice C5 l5 f5) r.rs rfl (hK7.room.r5.ext ((Ext.alloc w7 (.cells #[] 84)).and_alloc (.cells #[.slice (some ⟨w7.heap.size,0,none⟩) 0 0] 81))) (some ⟨w7.heap.size+1,0,none⟩) 1 1 [⟨some ⟨w7.heap.size,0,none⟩,0,0,[]⟩] rfl (rs_one_slice (Row.newG _ _ (by simp))) (by simp; omega) (by omega) (by first | omega | (simp; omega)) ?_))
      intro v8 w8 ho8 hg8
      have hl8:(r.rs++[(⟨some ⟨w7.heap.size,0,none⟩,0,0,[]⟩:RS)]).length=l5+1:=by rw [HL5.out]; simp
      obtain ⟨D5,f8,rfl,-,-⟩:=ho8.form
      rw [hl8] at ho8
      obtain ⟨hK8,hv8⟩:=hK7.case2 hg8 ho8
      have HX8:=hide (show ∀q∈r.rs++[(⟨some ⟨w7.heap.size,0,none⟩,0,0,[]⟩:RS)],q.xs.length≤48 from fun q hq=>by
       rcases List.mem_append.1 hq with h | h
       ·exact hfx q h
       ·obtain rfl:=List.mem_singleton.1 h; simp)
      have HM8:=hide (hK8.var.cell 4)
      rw [hl8]
      clear hK7 hg8 ho8 p0 p1 p2 p3 p4 pf pl
      have p0:=(hv8).cell 0
      have p1:=(hv8).cell 1
      have p2:=(hv8).cell 2
      have p3:=(hv8).cell 3
      have p4:=(hv8).cell 4
      simp at p0 p1 p2 p3 p4
      have pf:=(hv8).frozen
      have pl:=(hv8).lt
      clear hv8
      go_wp2_with fail
      go_roundw
      case rel=>exact ⟨D5,l5+1,f8,⟨r.ns,r.ps,r.xs,r.L,r.rs++[⟨some ⟨w7.heap.size,0,none⟩,0,0,[]⟩]⟩,hfL,by show (r.rs++[_]).length≤50; rw [hl8]; omega,HX8,hK8⟩
      case measure=>
       have h1:=HM8.out
       have h2:=hP4.out
       simp only [List.getElem?_cons_succ,List.getElem?_cons_zero] at h1 h2
       rw [h1,h2]
       simp only
       omega
     ·have hF:=hK7.toF
      clear hK7
      have p0:=(hF.var).cell 0
      have p1:=(hF.var).cell 1
      have p2:=(hF.var).cell 2
      have p3:=(hF.var).cell 3
      have p4:=(hF.var).cell 4
      simp at p0 p1 p2 p3 p4
      have pf:=(hF.var).frozen
      have pl:=(hF.var).lt
      have q0:=(hF.res).cell 0
      have q1:=(hF.res).cell 1
      have q2:=(hF.res).cell 2
      have q3:=(hF.res).cell 3
      have q4:=(hF.res).cell 4
      simp at q0 q1 q2 q3 q4
      have qf:=(hF.res).frozen
      have ql:=(hF.res).lt
      have HF:=hide (hF.fin (by first | assumption | omega) (by first | (simp; done) | (simp; omega) | omega) (by first | assumption | (simp; done) | (intro q hq; have:=hfx q hq; omega)))
      clear hF
      go_wp2_with fail
      refine bodyPost_ret (v:= .agg #[.slice C1 l1 f1,.slice C2 l2 f2,.slice C3 l3 f3,.slice C4 l4 f4,.slice C5 l5 f5]) (by simp [results,Tryz.results33,go_sem,q0,q1,q2,q3,q4]) rfl ?_
      exact HF.out
   have b2:(x==2)=false:=by rw [beq_eq_false_iff_ne]; exact h2
   have hF:=hK6.toF
   clear hK6
   have p0:=(hF.var).cell 0
   have p1:=(hF.var).cell 1
   have p2:=(hF.var).cell 2
   have p3:=(hF.var).cell 3
   have p4:=(hF.var).cell 4
   simp at p0 p1 p2 p3 p4
   have pf:=(hF.var).frozen
   have pl:=(hF.var).lt
   have q0:=(hF.res).cell 0
   have q1:=(hF.res).cell 1
   have q2:=(hF.res).cell 2
   have q3:=(hF.res).cell 3
   have q4:=(hF.res).cell 4
   simp at q0 q1 q2 q3 q4
   have qf:=(hF.res).frozen
   have ql:=(hF.res).lt
   have HF:=hide (hF.fin (by first | assumption | omega) (by first | (simp; done) | (simp; omega) | omega) (by first | assumption | (simp; done) | (intro q hq; have:=hfx q hq; omega)))
   clear hF
   go_wp2_with fail
   refine bodyPost_ret (v:= .agg #[.slice C1 l1 f1,.slice C2 l2 f2,.slice C3 l3 f3,.slice C4 l4 f4,.slice C5 l5 f5]) (by simp [results,Tryz.results33,go_sem,q0,q1,q2,q3,q4]) rfl ?_
   exact HF.out
end
end Go.Proofs.YtinindjjapblcaaGreatDoor
