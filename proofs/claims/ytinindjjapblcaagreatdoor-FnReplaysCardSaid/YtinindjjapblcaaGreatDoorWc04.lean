/-
  ApplyEvent of the program and of the reference.
-/
import Derived.Test.YtinindjjapblcaaGreatDoorWa30
import Derived.Test.YtinindjjapblcaaGreatDoorWa26
import Derived.Test.YtinindjjapblcaaGreatDoorWa08
namespace Go.Proofs.YtinindjjapblcaaGreatDoor
open Go.RowKit
def applyRR (nn:Int) (r:Room) (x:Event):Room×Int:=if roomB nn r=false then (zeroR,1) else if evB x=false then (zeroR,2) else if appB nn r x=false then (zeroR,5) else (appR r x,0)
set_option maxHeartbeats 8000000 in
theorem c_ApplyEvent (A1 A2 A3 A4 A5:Option Addr) (n1 c1 n2 c2 n3 c3 n4 c4 n5 c5:Nat) (r:Room) (x:Event) (w:World) (hat:RoomAt w A1 A2 A3 A4 A5 n1 c1 n2 c2 n3 c3 n4 c4 n5 c5 r):
  Calls Tryz.prog 21 #[.agg #[.slice A1 n1 c1,.slice A2 n2 c2,.slice A3 n3 c3,.slice A4 n4 c4,.slice A5 n5 c5],.agg #[.int .i64 x.kind,.int .i64 x.a,.int .i64 x.b,.int .i64 x.c,.int .i64 x.d]] w (RetRC (applyRR n1 r x) w):=by
 obtain ⟨W0,HW⟩:∃W0,Hid (((w.alloc (.cells #[.slice A1 n1 c1,.slice A2 n2 c2,.slice A3 n3 c3,.slice A4 n4 c4,.slice A5 n5 c5] 32)).alloc (.cells #[.int .i64 x.kind,.int .i64 x.a,.int .i64 x.b,.int .i64 x.c,.int .i64 x.d] 54)).alloc (.cells #[.slice none 0 0,.slice none 0 0,.slice none 0 0,.slice none 0 0,.slice none 0 0] 32)=W0):=⟨_,hide rfl⟩
 have hin:RoomIn W0 w.heap.size A1 A2 A3 A4 A5 n1 c1 n2 c2 n3 c3 n4 c4 n5 c5:=by rw [←HW.out]; exact (RoomIn.new w A1 A2 A3 A4 A5 n1 c1 n2 c2 n3 c3 n4 c4 n5 c5 32).ext ((Ext.alloc _ _).and_alloc _)
 have hei:EvIn W0 (w.heap.size+1) x:=by rw [←HW.out]; have h:=EvIn.new (w.alloc (.cells #[.slice A1 n1 c1,.slice A2 n2 c2,.slice A3 n3 c3,.slice A4 n4 c4,.slice A5 n5 c5] 32)) x 54; rw [World.size_alloc] at h; exact h.ext (Ext.alloc _ _)
 have hzr:Row W0 (w.heap.size+2) 32 [.slice none 0 0,.slice none 0 0,.slice none 0 0,.slice none 0 0,.slice none 0 0]:=by rw [←HW.out]; exact Row.new' (by simp)
 have x0:Ext w W0:=by rw [←HW.out]; exact ((Ext.alloc _ _).and_alloc _).and_alloc _
 have hza:W0.heap.size≤w.heap.size+3:=by rw [←HW.out]; simp
 have hzb:w.heap.size+3≤W0.heap.size:=by rw [←HW.out]; simp
 obtain ⟨hlt,y0,y1,y2,y3,y4⟩:=id hin
 go_enter Tryz.func21,Tryz.ntmps21
 go_wp2_with fail
 rw [HW.out]
 refine (c_IsRoom A1 A2 A3 A4 A5 n1 c1 n2 c2 n3 c3 n4 c4 n5 c5 r _ (hat.ext x0)).mono ?_
 cases hb:roomB (n1:Int) r
 ·have HR:=hide (show applyRR (n1:Int) r x=(zeroR,1) by unfold applyRR; rw [if_pos hb])
  rintro e w1 ⟨rfl,hx1⟩
  have hzr1:=hzr.ext hx1
  have r0:=hzr1.cell 0
  have r1:=hzr1.cell 1
  have r2:=hzr1.cell 2
  have r3:=hzr1.cell 3
  have r4:=hzr1.cell 4
  have rf:=hzr1.frozen
  have rl:=hzr1.lt
  simp only [List.getElem?_cons_zero,List.getElem?_cons_succ] at r0 r1 r2 r3 r4
  go_wp2
  rw [HR.out]
  refine bodyPost_ret (v:= .tuple #[.agg #[.slice none 0 0,.slice none 0 0,.slice none 0 0,.slice none 0 0,.slice none 0 0],.int .i64 1]) (by simp [results,Tryz.results21,go_sem,r0,r1,r2,r3,r4]) rfl
   ⟨_,_,_,_,_,_,_,_,_,_,_,_,_,_,_,zeroR,rfl,zero_own _ _ _,⟨rfl,rfl,rfl,rfl,rfl⟩,?_⟩
  repeat (refine Ext.setCell ?_ (by first | (simp; done) | (simp; omega) | omega) _)
  exact x0.trans hx1
 rintro e w1 ⟨rfl,hx1⟩
 clear hlt y0 y1 y2 y3 y4
 obtain ⟨hle,z0,z1,z2,z3,z4⟩:=hei.ext hx1
 go_wp2_with fail
 refine (c_IsEvent x _).mono ?_
 cases hv:evB x
 ·have HR:=hide (show applyRR (n1:Int) r x=(zeroR,2) by unfold applyRR; rw [if_neg (by simp [hb]),if_pos hv])
  rintro e w2 ⟨rfl,hx2⟩
  have hzr1:=hzr.ext (hx1.trans hx2)
  have r0:=hzr1.cell 0
  have r1:=hzr1.cell 1
  have r2:=hzr1.cell 2
  have r3:=hzr1.cell 3
  have r4:=hzr1.cell 4
  have rf:=hzr1.frozen
  have rl:=hzr1.lt
  simp only [List.getElem?_cons_zero,List.getElem?_cons_succ] at r0 r1 r2 r3 r4
  go_wp2
  rw [HR.out]
  refine bodyPost_ret (v:= .tuple #[.agg #[.slice none 0 0,.slice none 0 0,.slice none 0 0,.slice none 0 0,.slice none 0 0],.int .i64 2]) (by simp [results,Tryz.results21,go_sem,r0,r1,r2,r3,r4]) rfl
   ⟨_,_,_,_,_,_,_,_,_,_,_,_,_,_,_,zeroR,rfl,zero_own _ _ _,⟨rfl,rfl,rfl,rfl,rfl⟩,?_⟩
  repeat (refine Ext.setCell ?_ (by first | (simp; done) | (simp; omega) | omega) _)
  exact x0.trans (hx1.trans hx2)
 rintro e w2 ⟨rfl,hx2⟩
 have hx02:=x0.trans (hx1.trans hx2)
 have hx12:=hx1.trans hx2
 clear hle z0 z1 z2 z3 z4
 obtain ⟨hlt,y0,y1,y2,y3,y4⟩:=hin.ext hx12
 obtain ⟨hle,z0,z1,z2,z3,z4⟩:=hei.ext hx12
 go_wp2_with fail
 refine (c_applied A1 A2 A3 A4 A5 n1 c1 n2 c2 n3 c3 n4 c4 n5 c5 r x _ (hat.ext hx02) hb hv).mono ?_
 rintro e w3 ⟨B1,B2,B3,B4,B5,k1,d1,k2,d2,k3,d3,k4,d4,k5,d5,r',rfl,himp,hx3⟩
 have hzr3:=hzr.ext (hx12.trans hx3)
 have hz3:=hx12.size
 have hz23:=hx3.size
 have r0:=hzr3.cell 0
 have r1:=hzr3.cell 1
 have r2:=hzr3.cell 2
 have r3:=hzr3.cell 3
 have r4:=hzr3.cell 4
 have rf:=hzr3.frozen
 have rl:=hzr3.lt
 simp only [List.getElem?_cons_zero,List.getElem?_cons_succ] at r0 r1 r2 r3 r4
 have rl2:w.heap.size+1+1<w3.heap.size:=rl
 cases ha:appB (n1:Int) r x
 ·have HR:=hide (show applyRR (n1:Int) r x=(zeroR,5) by unfold applyRR; rw [if_neg (by simp [hb]),if_neg (by simp [hv]),if_pos ha])
  clear himp
  go_wp2
  rw [HR.out]
  refine bodyPost_ret (v:= .tuple #[.agg #[.slice none 0 0,.slice none 0 0,.slice none 0 0,.slice none 0 0,.slice none 0 0],.int .i64 5]) (by simp [results,Tryz.results21,go_sem,r0,r1,r2,r3,r4,rl2]) rfl
   ⟨_,_,_,_,_,_,_,_,_,_,_,_,_,_,_,zeroR,rfl,zero_own _ _ _,⟨rfl,rfl,rfl,rfl,rfl⟩,?_⟩
  refine Ext.and_alloc ?_ _
  repeat (refine Ext.setCell ?_ (by first | (simp; done) | (simp; omega) | omega) _)
  exact hx02.trans hx3
 ·have HR:=hide (show applyRR (n1:Int) r x=(appR r x,0) by unfold applyRR; rw [if_neg (by simp [hb]),if_neg (by simp [hv]),if_neg (by simp [ha])])
  obtain ⟨ho,hl⟩:=himp ha
  have HO:=hide ho
  have HL:=hide hl
  clear ho hl himp
  go_wp2
  rw [HR.out]
  refine bodyPost_ret (v:= .tuple #[.agg #[.slice B1 k1 d1,.slice B2 k2 d2,.slice B3 k3 d3,.slice B4 k4 d4,.slice B5 k5 d5],.int .i64 0]) (by simp [results,Tryz.results21,go_sem,r0,r1,r2,r3,r4,rl2]) rfl
   ⟨_,_,_,_,_,_,_,_,_,_,_,_,_,_,_,r',rfl,((HO.out.set5 (.inl (by omega)) _ _ _ _ _).ext (Ext.alloc _ _)).wider (by omega) (by simp),HL.out,?_⟩
  refine Ext.and_alloc ?_ _
  repeat (refine Ext.setCell ?_ (by first | (simp; done) | (simp; omega) | omega) _)
  exact hx02.trans hx3
end Go.Proofs.YtinindjjapblcaaGreatDoor
