/-
  applied of the program: a room after an event.
-/
import Derived.Test.YtinindjjapblcaaGreatDoorWa25
namespace Go.Proofs.YtinindjjapblcaaGreatDoor
open Go.RowKit
set_option maxHeartbeats 8000000 in
theorem c_applied (A1 A2 A3 A4 A5:Option Addr) (n1 c1 n2 c2 n3 c3 n4 c4 n5 c5:Nat) (r:Room) (x:Event) (w:World) (hat:RoomAt w A1 A2 A3 A4 A5 n1 c1 n2 c2 n3 c3 n4 c4 n5 c5 r) (hok:roomB n1 r=true) (hev:evB x=true):
  Calls Tryz.prog 40 #[.agg #[.slice A1 n1 c1,.slice A2 n2 c2,.slice A3 n3 c3,.slice A4 n4 c4,.slice A5 n5 c5],.agg #[.int .i64 x.kind,.int .i64 x.a,.int .i64 x.b,.int .i64 x.c,.int .i64 x.d]] w (RetAp n1 r x w):=by
 obtain ⟨W0,HW⟩:∃W0,Hid (((w.alloc (.cells #[.slice A1 n1 c1,.slice A2 n2 c2,.slice A3 n3 c3,.slice A4 n4 c4,.slice A5 n5 c5] 32)).alloc (.cells #[.int .i64 x.kind,.int .i64 x.a,.int .i64 x.b,.int .i64 x.c,.int .i64 x.d] 54)).alloc (.cells #[.slice none 0 0,.slice none 0 0,.slice none 0 0,.slice none 0 0,.slice none 0 0] 32)=W0):=⟨_,hide rfl⟩
 have hin:RoomIn W0 w.heap.size A1 A2 A3 A4 A5 n1 c1 n2 c2 n3 c3 n4 c4 n5 c5:=by rw [←HW.out]; exact (RoomIn.new w A1 A2 A3 A4 A5 n1 c1 n2 c2 n3 c3 n4 c4 n5 c5 32).ext ((Ext.alloc _ _).and_alloc _)
 have hei:EvIn W0 (w.heap.size+1) x:=by rw [←HW.out]; have h:=EvIn.new (w.alloc (.cells #[.slice A1 n1 c1,.slice A2 n2 c2,.slice A3 n3 c3,.slice A4 n4 c4,.slice A5 n5 c5] 32)) x 54; rw [World.size_alloc] at h; exact h.ext (Ext.alloc _ _)
 have hzr:Row W0 (w.heap.size+2) 32 [.slice none 0 0,.slice none 0 0,.slice none 0 0,.slice none 0 0,.slice none 0 0]:=by rw [←HW.out]; exact Row.new' (by simp)
 have x0:Ext w W0:=by rw [←HW.out]; exact ((Ext.alloc _ _).and_alloc _).and_alloc _
 have hza:W0.heap.size≤w.heap.size+3:=by rw [←HW.out]; simp
 have hzb:w.heap.size+3≤W0.heap.size:=by rw [←HW.out]; simp
 obtain ⟨m1,m2,m3,m4,a5,m5,hnm,hnet⟩:=roomGood A1 A2 A3 A4 A5 n1 c1 n2 c2 n3 c3 n4 c4 n5 c5 hat hok
 have hf:=roomFits hok
 have HN5:=hide hat.s5.len
 have HNM:=hide hnm
 have HNT:=hide hnet
 have HOK:=hide hok
 clear hnm hnet hok
 obtain ⟨hkd,hxa,hxb,hxc,hxd⟩:=evB_facts hev
 obtain ⟨hlt,y0,y1,y2,y3,y4⟩:=hin
 obtain ⟨hle,z0,z1,z2,z3,z4⟩:=hei
 go_enter Tryz.func40,Tryz.ntmps40
 go_wp2_with fail
 rw [HW.out]
 refine (c_cloneRoom A1 A2 A3 A4 A5 n1 c1 n2 c2 n3 c3 n4 c4 n5 c5 r _ (hat.ext x0) hf (by omega) (by omega) (by omega)).mono ?_
 rintro e w1 ⟨B1,B2,B3,B4,B5,k1,d1,k2,d2,k3,d3,k4,d4,k5,d5,r',rfl,hL,hlk,hx1⟩
 have hin1:=RoomIn.ext ⟨hlt,y0,y1,y2,y3,y4⟩ hx1
 have hei1:=EvIn.ext ⟨hle,z0,z1,z2,z3,z4⟩ hx1
 have hzr1:=hzr.ext hx1
 have X1:=x0.trans hx1
 have hz1:=hx1.size
 obtain ⟨W2,HW2⟩:∃W2,Hid (w1.alloc (.cells #[.slice B1 k1 d1,.slice B2 k2 d2,.slice B3 k3 d3,.slice B4 k4 d4,.slice B5 k5 d5] 32)=W2):=⟨_,hide rfl⟩
 have rO:Row W2 w1.heap.size 32 [.slice B1 k1 d1,.slice B2 k2 d2,.slice B3 k3 d3,.slice B4 k4 d4,.slice B5 k5 d5]:=by rw [←HW2.out]; exact Row.new w1 32 _
 have hx2:Ext w1 W2:=by
  rw [←HW2.out]
  exact Ext.alloc _ _
 have hz2:W2.heap.size≤w1.heap.size+1:=by rw [←HW2.out]; simp
 have X2:=X1.trans hx2
 clear hlt y0 y1 y2 y3 y4 hle z0 z1 z2 z3 z4
 obtain ⟨hlt,y0,y1,y2,y3,y4⟩:=id hin1
 obtain ⟨hle,z0,z1,z2,z3,z4⟩:=id hei1
 rcases hkd with hk | hk | hk
 ·have HAB:=hide (show appB n1 r x=((accR n1 r.ns r.ps r.xs r.L (evNom x)).2==0&&decide (hourOf r≤x.b)) by unfold appB; rw [if_pos hk])
  have HAR:=hide (show appR r x={r with L:=r.L++[evNom x]} by unfold appR; rw [if_pos hk])
  rw [hk] at z0
  go_wp2_with fail
  rw [HW2.out]
  refine (c_AcceptNomination A1 A2 n1 c1 n2 c2 r.ns r.ps A3 n3 c3 r.xs A4 n4 c4 r.L _ (hat.s1.ext X2) (hat.s2.ext X2) (hat.s3.ext X2) (hat.s4.ext X2) (evNom x)).mono ?_
  rintro e w3 ⟨A',n',c',g',rfl,hnc,hcm,hg',ho,hx3⟩
  have hin3:=hin1.ext (hx2.trans hx3)
  have hei3:=hei1.ext (hx2.trans hx3)
  have hzr3:=hzr1.ext (hx2.trans hx3)
  have rO3:=rO.ext hx3
  clear hlt y0 y1 y2 y3 y4 hle z0 z1 z2 z3 z4
  obtain ⟨hlt,y0,y1,y2,y3,y4⟩:=hin3
  obtain ⟨hle,z0,z1,z2,z3,z4⟩:=hei3
  have p0:=rO3.cell 0
  have p1:=rO3.cell 1
  have p2:=rO3.cell 2
  have p3:=rO3.cell 3
  have p4:=rO3.cell 4
  have pf:=rO3.frozen
  have pl:=rO3.lt
  simp only [List.getElem?_cons_zero,List.getElem?_cons_succ] at p0 p1 p2 p3 p4
  have r0:=hzr3.cell 0
  have r1:=hzr3.cell 1
  have r2:=hzr3.cell 2
  have r3:=hzr3.cell 3
  have r4:=hzr3.cell 4
  have rf:=hzr3.frozen
  have rl:=hzr3.lt
  simp only [List.getElem?_cons_zero,List.getElem?_cons_succ] at r0 r1 r2 r3 r4
  have HX3:=hide (x0.trans (hx1.trans (hx2.trans hx3)))
  cases h1:((accR n1 r.ns r.ps r.xs r.L (evNom x)).2==0)
  ·go_wp2_with fail
   refine wp_region_phT [(w1.heap.size,0),(w1.heap.size,1),(w1.heap.size,2),(w1.heap.size,3),(w1.heap.size,4),(w.heap.size+1,2)] (.one [0,1,2,3,4,5,6,7,8] 9 (.last [10])) (by kernel_rfl) (by kernel_rfl) (by intro c a w d v h; cases d <;> exact h) ?_
   simp only [wpPhT,pickL,nthO]
   repeat (go_big_quiet_step (fail))
   refine wpQuiet_nil ?_
   have TW:=(((Turn.refl (S:=fun b=>b=w1.heap.size∨b=w.heap.size+2) w3).set1 (p:=⟨w1.heap.size,3,none⟩) (.inl rfl) (.slice A' n' c')).five (g:=w.heap.size+2) (.inr rfl) (.slice B1 k1 d1) (.slice B2 k2 d2) (.slice B3 k3 d3) (.slice A' n' c') (.slice B5 k5 d5)).drewT
   have XF:=HX3.out.turn TW (fun b hb=>by omega)
   go_wp2_with fail
   refine ⟨SameC.drew (SameC.five (SameC.refl _ _) (by simp; omega) _ _ _ _ _),?_⟩
   repeat (go_big_quiet_step (fail))
   refine wpQuiet_nil ?_
   go_wp2
   refine bodyPost_ret (v:= .tuple #[.agg #[.slice B1 k1 d1,.slice B2 k2 d2,.slice B3 k3 d3,.slice A' n' c',.slice B5 k5 d5],.bool false]) (by simp [results,Tryz.results40,go_sem,r0,r1,r2,r3,r4]) rfl ?_
   have hB:appB n1 r x=false:=by rw [HAB.out,h1]; rfl
   exact ⟨B1,B2,B3,A',B5,k1,d1,k2,d2,k3,d3,n',c',k5,d5,r',by rw [hB],fun h=>(by rw [hB] at h; cases h),XF⟩
  ·cases h2:decide ((n5:Int)-1≤x.b)
   ·go_wp2_with fail
    refine wp_region_phT [(w1.heap.size,0),(w1.heap.size,1),(w1.heap.size,2),(w1.heap.size,3),(w1.heap.size,4),(w.heap.size+1,2)] (.one [0,1,2,3,4,5,6,7,8] 9 (.last [10])) (by kernel_rfl) (by kernel_rfl) (by intro c a w d v h; cases d <;> exact h) ?_
    simp only [wpPhT,pickL,nthO]
    repeat (go_big_quiet_step (fail))
    refine wpQuiet_nil ?_
    have TW:=(((Turn.refl (S:=fun b=>b=w1.heap.size∨b=w.heap.size+2) w3).set1 (p:=⟨w1.heap.size,3,none⟩) (.inl rfl) (.slice A' n' c')).five (g:=w.heap.size+2) (.inr rfl) (.slice B1 k1 d1) (.slice B2 k2 d2) (.slice B3 k3 d3) (.slice A' n' c') (.slice B5 k5 d5)).drewT
    have XF:=HX3.out.turn TW (fun b hb=>by omega)
    go_wp2_with fail
    refine ⟨SameC.drew (SameC.five (SameC.refl _ _) (by simp; omega) _ _ _ _ _),?_⟩
    repeat (go_big_quiet_step (fail))
    refine wpQuiet_nil ?_
    go_wp2
    refine bodyPost_ret (v:= .tuple #[.agg #[.slice B1 k1 d1,.slice B2 k2 d2,.slice B3 k3 d3,.slice A' n' c',.slice B5 k5 d5],.bool false]) (by simp [results,Tryz.results40,go_sem,r0,r1,r2,r3,r4]) rfl ?_
    have hB:appB n1 r x=false:=by rw [HAB.out,h1]; unfold hourOf; rw [←HN5.out,h2]; rfl
    exact ⟨B1,B2,B3,A',B5,k1,d1,k2,d2,k3,d3,n',c',k5,d5,r',by rw [hB],fun h=>(by rw [hB] at h; cases h),XF⟩
   ·go_wp2_with fail
    refine wp_region_phT [(w1.heap.size,0),(w1.heap.size,1),(w1.heap.size,2),(w1.heap.size,3),(w1.heap.size,4),(w.heap.size+1,2)] (.one [0,1,2,3,4,5,6,7,8] 9 (.last [10])) (by kernel_rfl) (by kernel_rfl) (by intro c a w d v h; cases d <;> exact h) ?_
    simp only [wpPhT,pickL,nthO]
    repeat (go_big_quiet_step (fail))
    refine wpQuiet_nil ?_
    have TW:=(((Turn.refl (S:=fun b=>b=w1.heap.size∨b=w.heap.size+2) w3).set1 (p:=⟨w1.heap.size,3,none⟩) (.inl rfl) (.slice A' n' c')).five (g:=w.heap.size+2) (.inr rfl) (.slice B1 k1 d1) (.slice B2 k2 d2) (.slice B3 k3 d3) (.slice A' n' c') (.slice B5 k5 d5)).drewT
    have XF:=HX3.out.turn TW (fun b hb=>by omega)
    go_wp2_with fail
    refine ⟨SameC.drew (SameC.five (SameC.refl _ _) (by simp; omega) _ _ _ _ _),?_⟩
    repeat (go_big_quiet_step (fail))
    refine wpQuiet_nil ?_
    go_wp2
    refine bodyPost_ret (v:= .tuple #[.agg #[.slice B1 k1 d1,.slice B2 k2 d2,.slice B3 k3 d3,.slice A' n' c',.slice B5 k5 d5],.bool true]) (by simp [results,Tryz.results40,go_sem,r0,r1,r2,r3,r4]) rfl ?_
    have hB:appB n1 r x=true:=by rw [HAB.out,h1]; unfold hourOf; rw [←HN5.out,h2]; rfl
    rw [accR_zero (by simpa using h1)] at ho
    have hR:=(hL.own.ext (hx2.trans hx3)).turn TW (fun b hb=>by omega)
    obtain ⟨l1,l2,l3,l4,l5,l6⟩:=LRoom.lo5 hR
    have hlo:=x0.size
    have o4:=(ho.toA hnc hcm).turn TW (fun b hb hS=>by have:=(ho.blk hb).1; have:=rO.lt; omega)
    refine ⟨B1,B2,B3,A',B5,k1,d1,k2,d2,k3,d3,n',c',k5,d5,⟨r'.ns,r'.ps,r'.xs,r.L++[evNom x],r'.rs⟩,by rw [hB],fun _=>⟨ROwn.of hR.o1 hR.o2 hR.o3 o4 hR.o5 hR.o6 (fun b hb=>Nat.le_trans hlo (l1 b hb)) (fun b hb=>Nat.le_trans hlo (l2 b hb)) (fun b hb=>Nat.le_trans hlo (l3 b hb)) (fun b hb=>by have:=(ho.blk hb).1; have:=hx2.size; omega) (fun b hb=>Nat.le_trans hlo (l5 b hb)) (fun q hq b hb=>Nat.le_trans hlo (l6 q hq b hb)) hR.rr,?_⟩,XF⟩
    rw [HAR.out]
    exact ⟨hlk.1,hlk.2.1,hlk.2.2.1,rfl,hlk.2.2.2.2⟩
 ·have hln:r'.rs.length=r.rs.length:=by have h:=congrArg List.length hlk.2.2.2.2; simpa using h
  have hk5:k5=n5:=by rw [hL.own.o5.1,hln,HN5.out]
  obtain ⟨m,rfl⟩:∃m,n5=m+1:=⟨n5-1,by omega⟩
  subst hk5
  obtain ⟨g5,rfl,rest5,hr5⟩:=hL.own.o5.2.2.2 (by omega)
  obtain ⟨q,hqk,hqc⟩:=(hL.own.o5.slice rs_len).at_ (k:=m) (by omega)
  have t0:=hqc 0 _ rfl
  simp only [Nat.zero_add,Nat.add_zero,Nat.mul_one] at t0
  obtain ⟨qA,qn,qc,qx⟩:=q
  simp only at t0
  have hqm:=List.mem_of_getElem? hqk
  have hqL:=hL.r6 _ hqm
  have hq48:qx.length≤48:=by
   have h1:qx∈r'.rs.map RS.xs:=List.mem_map.2 ⟨_,hqm,rfl⟩
   rw [hlk.2.2.2.2] at h1
   obtain ⟨q',hq',he⟩:=List.mem_map.1 h1
   rw [←he]; exact hf.xs q' hq'
  obtain ⟨QA',qc',e1,hqe,_⟩:=hqL.form
  injection e1 with e1 e2 e3
  simp only at e1 e2 e3
  subst e1 e2 e3
  have HQK:=hide hqk
  have HQM:=hide hqm
  have HLN:=hide hln
  clear hqk hqm hqc hln
  have hAB:appB ((n1:Nat):Int) r x=((x.c==0&&x.d==0)&&readsB n1 (lastXs r++[evRead x])):=by unfold appB; rw [if_neg (by omega),if_pos hk]
  have hAR:appR r x={r with rs:=r.rs.set (r.rs.length-1) ⟨none,0,0,lastXs r++[evRead x]⟩}:=by unfold appR; rw [if_neg (by omega),if_pos hk]
  have hlx:lastXs r=qx:=by
   have h1:(r'.rs.map RS.xs)[m]? =some qx:=by rw [List.getElem?_map,HQK.out]; rfl
   rw [hlk.2.2.2.2,List.getElem?_map] at h1
   unfold lastXs
   rw [←HN5.out,Nat.add_sub_cancel,h1]; rfl
  rw [hlx] at hAB hAR
  have HAB:=hide hAB
  have HAR:=hide hAR
  clear hAB hAR hlx
  have rO2:=rO
  have p0:=rO2.cell 0
  have p1:=rO2.cell 1
  have p2:=rO2.cell 2
  have p3:=rO2.cell 3
  have p4:=rO2.cell 4
  have pf:=rO2.frozen
  have pl:=rO2.lt
  simp only [List.getElem?_cons_zero,List.getElem?_cons_succ] at p0 p1 p2 p3 p4
  clear hlt y0 y1 y2 y3 y4 hle z0 z1 z2 z3 z4
  have hin2:=hin1.ext hx2
  have hei2:=hei1.ext hx2
  obtain ⟨hlt,y0,y1,y2,y3,y4⟩:=id hin2
  obtain ⟨hle,z0,z1,z2,z3,z4⟩:=id hei1
  rw [hk] at z0
  have g5l:=hr5.lt
  have g5lo:W0.heap.size≤g5:=(LRoom.lo5 hL.own).2.2.2.2.1 g5 (by simp [blkOf])
  have v0:=(hx2.cell g5 m g5l).trans t0
  have hm5:=hL.own.o5.2.2.1
  have hc5:=hL.own.o5.2.1
  go_wp2_with fail
  rw [HW2.out]
  clear hle z0 z1 z2 z3 z4
  obtain ⟨hle,z0,z1,z2,z3,z4⟩:=id hei2
  refine wp_region_phT [(w1.heap.size,4),(w.heap.size+1,1),(w.heap.size+1,2)] (.two [0,1,2,3,4,5,6,8,9,10,11,12] 7 (.one [] 13 (.one [] 14 (.one [15] 16 (.last [])))) 13 (.one [] 7 (.one [] 14 (.one [15] 16 (.last []))))) (by kernel_rfl) (by kernel_rfl) (by intro c a w d v h; cases d <;> exact h) ?_
  simp only [wpPhT,pickL,nthO]
  repeat (go_big_quiet_step (fail))
  refine wpQuiet_nil ?_
  refine ⟨?_,?_⟩
  ·go_wp2_with fail
   refine ⟨SameC.of_ext (Ext.refl _).drew (by simp; omega),wpQuiet_nil ?_⟩
   go_wp2_with fail
   have rb:Row (W2.alloc (.cells #[.int .i64 x.a,.int .i64 x.b] 84)).drew W2.heap.size 84 [.int .i64 x.a,.int .i64 x.b]:=(Row.new' rfl).drew
   have hx3:Ext W2 (W2.alloc (.cells #[.int .i64 x.a,.int .i64 x.b] 84)).drew:=(Ext.alloc _ _).drew
   have hz3:(W2.alloc (.cells #[.int .i64 x.a,.int .i64 x.b] 84)).drew.heap.size=W2.heap.size+1:=by simp
   generalize (W2.alloc (.cells #[.int .i64 x.a,.int .i64 x.b] 84)).drew=W3 at *
   refine ⟨SameC.of_ext hx3 (by simp; omega),wpQuiet_nil ?_⟩
   have oq3:=(hqL.ext hx2).ext hx3
   go_wp2_with (at_builtin; go_must (refine wpList_append_where rfl _ _ 81 rfl W0.heap.size 84 _ 2 16 Tryz.underlying81 reading_info rfl (by decide) Reading.cells reading_len reading_one (.slice qA qx.length qc) qx rfl (oq3) (W2.heap.size) 0 1 1 [(evRead x)] rfl (RowOf.slice (t:=84) (xs:=[(evRead x)]) (f:=Reading.cells) (rb) reading_len rfl (by omega)) (by omega) (by omega) (by first | omega | (simp; omega)) ?_))
   intro v5 w5 o5 g5' wh5
   have TU0:Turn (fun b=>(Value.slice qA qx.length qc).ownBlock=some b) W2 w5:=(Turn.of_ext hx3).trans (Turn.of_grown g5')
   have q5n:∀b,(Value.slice qA qx.length qc).ownBlock=some b→b≠w1.heap.size∧b≠w.heap.size+1∧b≠g5∧b≠w.heap.size+2:=fun b hb=>⟨fun e=>OwnL.blk_ne (hqL.ext hx2) rO (by decide) b hb (by rw [e]),by have:=hqL.block_le hb; omega,fun e=>OwnL.blk_ne hqL hr5 (by decide) b hb (by rw [e]),by have:=hqL.block_le hb; omega⟩
   have sc5:SameC [(w1.heap.size,4),(w.heap.size+1,1),(w.heap.size+1,2)] W2 w5:=fun p hp=>by
    simp only [List.mem_cons,List.not_mem_nil,or_false] at hp
    rcases hp with rfl | rfl | rfl
    ·exact TU0.cell pl (fun h=>(q5n _ h).1 rfl)
    ·exact TU0.cell hle (fun h=>(q5n _ h).2.1 rfl)
    ·exact TU0.cell hle (fun h=>(q5n _ h).2.1 rfl)
   go_wp2_with fail
   refine ⟨sc5,?_⟩
   repeat (go_big_quiet_step (fail))
   refine wpQuiet_nil ?_
   have R5:Row w5 g5 81 (r'.rs.flatMap RS.cells++rest5):=(hr5.ext hx2).turn TU0 (fun h=>(q5n _ h).2.2.1 rfl)
   obtain ⟨VA,vc,rfl,hv3,hv4⟩:=o5.form
   have hle5:(qx++[evRead x]).length=qx.length+1:=by simp
   rw [hle5] at o5 wh5 hv3
   have R6:=R5.rs_set (m:=m) (by rw [HLN.out, ←HN5.out]; omega) ⟨VA,qx.length+1,vc,qx++[evRead x]⟩
   have u5:=R5.lt
   have uf:=R5.frozen m
   obtain ⟨u5v,u5c⟩:∃v,w5.cell? ⟨g5,m,none⟩=some v:=⟨_,(TU0.cell (Nat.lt_of_lt_of_le g5l hx2.size) (fun h=>(q5n _ h).2.2.1 rfl)).trans v0⟩
   have TW:Turn (fun b=>(Value.slice qA qx.length qc).ownBlock=some b∨b=g5) W2 (w5.setCell ⟨g5,m,none⟩ (.slice VA (qx.length+1) vc)):=(TU0.mono fun b hb=> .inl hb).set1 (.inr rfl) _
   have SC6:=hide (SameC.setCell (p:=⟨g5,m,none⟩) sc5 (by simp; omega) (.slice VA (qx.length+1) vc))
   have c6:(w5.setCell ⟨g5,m,none⟩ (.slice VA (qx.length+1) vc)).cell? ⟨g5,m,none⟩=some (.slice VA (qx.length+1) vc):=R6.rs_at (by rw [HLN.out, ←HN5.out]; omega)
   have o6:=o5.far_ne (p:=⟨g5,m,none⟩) (fun k hk e=>OwnL.blk_ne o5 R5 (by decide) k hk (by rw [e])) (.slice VA (qx.length+1) vc)
   go_wp2_with fail
   refine ⟨SC6.out,wpQuiet_nil ?_⟩
   clear SC6 u5v u5c uf
   generalize w5.setCell ⟨g5,m,none⟩ (.slice VA (qx.length+1) vc)=W6 at *
   have rO6:=rO.turn TW (fun h=>h.elim (fun h=>(q5n _ h).1 rfl) (fun h=>by omega))
   have hzr6:=(hzr1.ext hx2).turn TW (fun h=>h.elim (fun h=>(q5n _ h).2.2.2 rfl) (fun h=>by omega))
   have hei6:=hei2.turn TW (fun h=>h.elim (fun h=>(q5n _ h).2.1 rfl) (fun h=>by omega))
   clear p0 p1 p2 p3 p4 pf pl hle z0 z1 z2 z3 z4
   have p0:=rO6.cell 0
   have p1:=rO6.cell 1
   have p2:=rO6.cell 2
   have p3:=rO6.cell 3
   have p4:=rO6.cell 4
   have pf:=rO6.frozen
   have pl:=rO6.lt
   simp only [List.getElem?_cons_zero,List.getElem?_cons_succ] at p0 p1 p2 p3 p4
   have r0:=hzr6.cell 0
   have r1:=hzr6.cell 1
   have r2:=hzr6.cell 2
   have r3:=hzr6.cell 3
   have r4:=hzr6.cell 4
   have rf:=hzr6.frozen
   have rl:=hzr6.lt
   simp only [List.getElem?_cons_zero,List.getElem?_cons_succ] at r0 r1 r2 r3 r4
   obtain ⟨hle,z0,z1,z2,z3,z4⟩:=id hei6
   have r6l:=R6.lt
   have hk1:k1=n1:=by rw [hL.own.o1.1,hlk.1,hat.s1.len]
   have hnt:netB r'.ns r'.ps=true:=by rw [hlk.1,hlk.2.1]; exact HNT.out
   have HRB:=hide (show appB ((n1:Nat):Int) r x=((x.c==0&&x.d==0)&&readsB (k1:Int) (qx++[evRead x])) by rw [hk1]; exact HAB.out)
   subst hk1
   cases h1:(x.c==0)
   ·have hB:appB (k1:Int) r x=false:=by rw [HRB.out,h1]; rfl
    have HB:=hide hB
    clear hB
    go_wp2_with fail
    refine wp_region_phT [(w1.heap.size,0),(w1.heap.size,1),(w1.heap.size,2),(w1.heap.size,3),(w1.heap.size,4),(w.heap.size+1,3),(w.heap.size+1,4),(g5,m)] (.one [0,1,2,3,4,5,6,7,8,9,10,11,12,13,14,15,16] 17 (.one [18] 19 (.last [20]))) (by kernel_rfl) (by kernel_rfl) (by intro c a w d v h; cases d <;> exact h) ?_
    simp only [wpPhT,pickL,nthO]
    repeat (go_big_quiet_step (fail))
    refine wpQuiet_nil ?_
    go_wp2_with fail
    have hx67:Ext W6 W6.drew:=(Ext.refl _).drew
    have TF:=((((TW.mono (S':=fun b=>(Value.slice qA qx.length qc).ownBlock=some b∨b=g5∨b=w.heap.size+2) (fun b hb=>hb.elim .inl (fun h=> .inr (.inl h)))).trans (Turn.of_ext hx67)).five (g:=w.heap.size+2) (.inr (.inr rfl)) (.slice B1 k1 d1) (.slice B2 k2 d2) (.slice B3 k3 d3) (.slice B4 k4 d4) (.slice (some ⟨g5,0,none⟩) (m+1) d5)))
    have XF:=X2.turn TF (fun b hb=>by rcases hb with hb | hb | hb; (have:=hqL.block_le hb; omega); omega; omega)
    have HSC:=hide (SameC.of_ext (cs:=[(w1.heap.size,0),(w1.heap.size,1),(w1.heap.size,2),(w1.heap.size,3),(w1.heap.size,4),(w.heap.size+1,3),(w.heap.size+1,4),(g5,m)]) hx67 (by simp; omega))
    refine ⟨HSC.out,?_⟩
    repeat (go_big_quiet_step (fail))
    refine wpQuiet_nil ?_
    go_wp2_with fail
    refine ⟨SameC.five HSC.out (by simp; omega) _ _ _ _ _,?_⟩
    repeat (go_big_quiet_step (fail))
    refine wpQuiet_nil ?_
    go_wp2
    refine bodyPost_ret (v:= .tuple #[.agg #[.slice B1 k1 d1,.slice B2 k2 d2,.slice B3 k3 d3,.slice B4 k4 d4,.slice (some ⟨g5,0,none⟩) (m+1) d5],.bool false]) (by simp [results,Tryz.results40,go_sem,r0,r1,r2,r3,r4]) rfl ?_
    exact ⟨B1,B2,B3,B4,_,k1,d1,k2,d2,k3,d3,k4,d4,m+1,d5,r',by rw [HB.out],fun h=>(by rw [HB.out] at h; cases h),XF⟩
   ·cases h2:(x.d==0)
    ·have hB:appB (k1:Int) r x=false:=by rw [HRB.out,h1,h2]; rfl
     have HB:=hide hB
     clear hB
     go_wp2_with fail
     refine wp_region_phT [(w1.heap.size,0),(w1.heap.size,1),(w1.heap.size,2),(w1.heap.size,3),(w1.heap.size,4),(w.heap.size+1,3),(w.heap.size+1,4),(g5,m)] (.one [0,1,2,3,4,5,6,7,8,9,10,11,12,13,14,15,16] 17 (.one [18] 19 (.last [20]))) (by kernel_rfl) (by kernel_rfl) (by intro c a w d v h; cases d <;> exact h) ?_
     simp only [wpPhT,pickL,nthO]
     repeat (go_big_quiet_step (fail))
     refine wpQuiet_nil ?_
     go_wp2_with fail
     have hx67:Ext W6 W6.drew:=(Ext.refl _).drew
     have TF:=((((TW.mono (S':=fun b=>(Value.slice qA qx.length qc).ownBlock=some b∨b=g5∨b=w.heap.size+2) (fun b hb=>hb.elim .inl (fun h=> .inr (.inl h)))).trans (Turn.of_ext hx67)).five (g:=w.heap.size+2) (.inr (.inr rfl)) (.slice B1 k1 d1) (.slice B2 k2 d2) (.slice B3 k3 d3) (.slice B4 k4 d4) (.slice (some ⟨g5,0,none⟩) (m+1) d5)))
     have XF:=X2.turn TF (fun b hb=>by rcases hb with hb | hb | hb; (have:=hqL.block_le hb; omega); omega; omega)
     have HSC:=hide (SameC.of_ext (cs:=[(w1.heap.size,0),(w1.heap.size,1),(w1.heap.size,2),(w1.heap.size,3),(w1.heap.size,4),(w.heap.size+1,3),(w.heap.size+1,4),(g5,m)]) hx67 (by simp; omega))
     refine ⟨HSC.out,?_⟩
     repeat (go_big_quiet_step (fail))
     refine wpQuiet_nil ?_
     go_wp2_with fail
     refine ⟨SameC.five HSC.out (by simp; omega) _ _ _ _ _,?_⟩
     repeat (go_big_quiet_step (fail))
     refine wpQuiet_nil ?_
     go_wp2
     refine bodyPost_ret (v:= .tuple #[.agg #[.slice B1 k1 d1,.slice B2 k2 d2,.slice B3 k3 d3,.slice B4 k4 d4,.slice (some ⟨g5,0,none⟩) (m+1) d5],.bool false]) (by simp [results,Tryz.results40,go_sem,r0,r1,r2,r3,r4]) rfl ?_
     exact ⟨B1,B2,B3,B4,_,k1,d1,k2,d2,k3,d3,k4,d4,m+1,d5,r',by rw [HB.out],fun h=>(by rw [HB.out] at h; cases h),XF⟩
    ·have hB:appB (k1:Int) r x=readsB (k1:Int) (qx++[evRead x]):=by rw [HRB.out,h1,h2]; rfl
     have HB:=hide hB
     clear hB
     have ow2:=hL.ext hx2
     have s1:=((ow2.own.o1.turn TW (fun b hb h=>h.elim (fun h=>ow2.own.o1.own_ne (hqL.ext hx2) (by decide) b hb h) (ow2.own.o1.row_ne (hr5.ext hx2) (by decide) b hb))).slice node_len)
     have s2:=((ow2.own.o2.turn TW (fun b hb h=>h.elim (fun h=>ow2.own.o2.own_ne (hqL.ext hx2) (by decide) b hb h) (ow2.own.o2.row_ne (hr5.ext hx2) (by decide) b hb))).slice pipe_len)
     have s6:=(o6.toA' reading_len (by decide)).1.slice reading_len
     have HS:=hide (And.intro s1 (And.intro s2 s6))
     clear s1 s2 s6
     go_wp2_with fail
     refine wp_region_phT [(w1.heap.size,0),(w1.heap.size,1),(w1.heap.size,2),(w1.heap.size,3),(w1.heap.size,4),(w.heap.size+1,3),(w.heap.size+1,4),(g5,m)] (.one [0,1,2,3,4,5,6,7,8,9,10,11,12,13,14,15,16] 17 (.one [18] 19 (.last [20]))) (by kernel_rfl) (by kernel_rfl) (by intro c a w d v h; cases d <;> exact h) ?_
     simp only [wpPhT,pickL,nthO]
     repeat (go_big_quiet_step (fail))
     refine wpQuiet_nil ?_
     go_wp2_with fail
     refine (c_areReadings B1 B2 k1 d1 k2 d2 r'.ns r'.ps VA (qx.length+1) vc (qx++[evRead x]) _ (HS.out.1.ext (Ext.refl _).drew) (HS.out.2.1.ext (Ext.refl _).drew) (HS.out.2.2.ext (Ext.refl _).drew) hnt).mono ?_
     rintro e w7 ⟨rfl,hx7⟩
     have hx67:Ext W6 w7:=(Ext.refl _).drew.trans hx7
     generalize hbb:readsB (k1:Int) (qx++[evRead x])=bb at *
     have hzr7:=hzr6.ext hx67
     clear r0 r1 r2 r3 r4 rf rl
     have r0:=hzr7.cell 0
     have r1:=hzr7.cell 1
     have r2:=hzr7.cell 2
     have r3:=hzr7.cell 3
     have r4:=hzr7.cell 4
     have rf:=hzr7.frozen
     have rl:=hzr7.lt
     simp only [List.getElem?_cons_zero,List.getElem?_cons_succ] at r0 r1 r2 r3 r4
     go_wp2_with fail
     have TF:=((((TW.mono (S':=fun b=>(Value.slice qA qx.length qc).ownBlock=some b∨b=g5∨b=w.heap.size+2) (fun b hb=>hb.elim .inl (fun h=> .inr (.inl h)))).trans (Turn.of_ext hx67)).five (g:=w.heap.size+2) (.inr (.inr rfl)) (.slice B1 k1 d1) (.slice B2 k2 d2) (.slice B3 k3 d3) (.slice B4 k4 d4) (.slice (some ⟨g5,0,none⟩) (m+1) d5)))
     have XF:=X2.turn TF (fun b hb=>by rcases hb with hb | hb | hb; (have:=hqL.block_le hb; omega); omega; omega)
     have HSC:=hide (SameC.of_ext (cs:=[(w1.heap.size,0),(w1.heap.size,1),(w1.heap.size,2),(w1.heap.size,3),(w1.heap.size,4),(w.heap.size+1,3),(w.heap.size+1,4),(g5,m)]) hx67 (by simp; omega))
     refine ⟨HSC.out,?_⟩
     repeat (go_big_quiet_step (fail))
     refine wpQuiet_nil ?_
     go_wp2_with fail
     refine ⟨SameC.five HSC.out (by simp; omega) _ _ _ _ _,?_⟩
     repeat (go_big_quiet_step (fail))
     refine wpQuiet_nil ?_
     go_wp2
     refine bodyPost_ret (v:= .tuple #[.agg #[.slice B1 k1 d1,.slice B2 k2 d2,.slice B3 k3 d3,.slice B4 k4 d4,.slice (some ⟨g5,0,none⟩) (m+1) d5],.bool bb]) (by simp [results,Tryz.results40,go_sem,r0,r1,r2,r3,r4]) rfl ?_
     have hln2:r'.rs.length=m+1:=HLN.out.trans HN5.out.symm
     have T7:=(Turn.refl (S:=fun b=>b=w.heap.size+2) w7).five (g:=w.heap.size+2) rfl (.slice B1 k1 d1) (.slice B2 k2 d2) (.slice B3 k3 d3) (.slice B4 k4 d4) (.slice (some ⟨g5,0,none⟩) (m+1) d5)
     have R7:=(R6.ext hx67).turn T7 (by omega)
     have hq2:=hqL.ext hx2
     have hr2:=hr5.ext hx2
     have hs2:=hzr1.ext hx2
     have o1f:=ow2.own.o1.turn TF (fun b hb h=>h.elim (fun h=>ow2.own.o1.own_ne hq2 (by decide) b hb h) (fun h=>h.elim (ow2.own.o1.row_ne hr2 (by decide) b hb) (ow2.own.o1.row_ne hs2 (by decide) b hb)))
     have o2f:=ow2.own.o2.turn TF (fun b hb h=>h.elim (fun h=>ow2.own.o2.own_ne hq2 (by decide) b hb h) (fun h=>h.elim (ow2.own.o2.row_ne hr2 (by decide) b hb) (ow2.own.o2.row_ne hs2 (by decide) b hb)))
     have o3f:=ow2.own.o3.turn TF (fun b hb h=>h.elim (fun h=>ow2.own.o3.own_ne hq2 (by decide) b hb h) (fun h=>h.elim (ow2.own.o3.row_ne hr2 (by decide) b hb) (ow2.own.o3.row_ne hs2 (by decide) b hb)))
     have o4f:=ow2.own.o4.turn TF (fun b hb h=>h.elim (fun h=>ow2.own.o4.own_ne hq2 (by decide) b hb h) (fun h=>h.elim (ow2.own.o4.row_ne hr2 (by decide) b hb) (ow2.own.o4.row_ne hs2 (by decide) b hb)))
     have hlo:=x0.size
     obtain ⟨l1,l2,l3,l4,l5,l6⟩:=LRoom.lo5 hL.own
     obtain ⟨on,ol⟩:=(o6.ext hx67).toA' reading_len (by decide)
     have onf:=on.turn T7 (fun b hb h=>on.row_ne (hzr6.ext hx67) (by decide) b hb h)
     refine ⟨B1,B2,B3,B4,_,k1,d1,k2,d2,k3,d3,k4,d4,m+1,d5,⟨r'.ns,r'.ps,r'.xs,r'.L,r'.rs.set m ⟨VA,qx.length+1,vc,qx++[evRead x]⟩⟩,by rw [HB.out],fun _=>⟨ROwn.of o1f o2f o3f o4f ⟨by simp [hln2],hc5,hm5,fun _=>⟨g5,rfl,rest5,R7⟩⟩ ?_ (fun b hb=>Nat.le_trans hlo (l1 b hb)) (fun b hb=>Nat.le_trans hlo (l2 b hb)) (fun b hb=>Nat.le_trans hlo (l3 b hb)) (fun b hb=>Nat.le_trans hlo (l4 b hb)) (fun b hb=>Nat.le_trans hlo (l5 b hb)) ?_ (sep_set HQK.out hL.own.rr hL.sep2 (N:=W2.heap.size) (fun b hb=>(wh5 b (blk_own hb)).imp id (fun h=>by omega)) (fun p hp b hb=>(ow2.own.o6 p hp).lt hb)),?_⟩,XF⟩
     ·intro q' hq'
      obtain ⟨j,hj,he⟩:=List.mem_iff_getElem.1 hq'
      rw [List.getElem_set] at he
      split at he
      ·subst he; exact onf
      ·rename_i hne
       have hj':j<r'.rs.length:=by simpa using hj
       have hjm:q'∈r'.rs:=by rw [←he]; exact List.getElem_mem hj'
       refine (ow2.own.o6 q' hjm).turn TF (fun b hb h=> ?_)
       rcases h with h | h | h
       ·exact hL.sep2 m j b hne (by rw [List.getElem?_map,HQK.out,Option.map_some,h]) (by rw [List.getElem?_map,List.getElem?_eq_getElem hj',Option.map_some,he,blk_own hb])
       ·exact (ow2.own.o6 q' hjm).row_ne hr2 (by decide) b hb h
       ·exact (ow2.own.o6 q' hjm).row_ne hs2 (by decide) b hb h
     ·intro q' hq' b hb
      rcases List.mem_or_eq_of_mem_set hq' with h | h
      ·exact Nat.le_trans hlo (l6 q' h b hb)
      ·subst h; exact Nat.le_trans hlo (ol b hb)
     ·rw [HAR.out]
      refine ⟨hlk.1,hlk.2.1,hlk.2.2.1,hlk.2.2.2.1,?_⟩
      show (r'.rs.set m _).map RS.xs=(r.rs.set (r.rs.length-1) _).map RS.xs
      rw [List.map_set,List.map_set,hlk.2.2.2.2, ←HN5.out]; rfl
  ·go_wp2_with fail
   have rb:Row (W2.alloc (.cells #[.int .i64 x.a,.int .i64 x.b] 84)).drew W2.heap.size 84 [.int .i64 x.a,.int .i64 x.b]:=(Row.new' rfl).drew
   have hx3:Ext W2 (W2.alloc (.cells #[.int .i64 x.a,.int .i64 x.b] 84)).drew:=(Ext.alloc _ _).drew
   have hz3:(W2.alloc (.cells #[.int .i64 x.a,.int .i64 x.b] 84)).drew.heap.size=W2.heap.size+1:=by simp
   generalize (W2.alloc (.cells #[.int .i64 x.a,.int .i64 x.b] 84)).drew=W3 at *
   refine ⟨SameC.of_ext hx3 (by simp; omega),wpQuiet_nil ?_⟩
   have v3:=(hx3.cell g5 m (by omega)).trans v0
   go_wp2_with fail
   refine ⟨SameC.of_ext hx3 (by simp; omega),wpQuiet_nil ?_⟩
   have oq3:=(hqL.ext hx2).ext hx3
   go_wp2_with (at_builtin; go_must (refine wpList_append_where rfl _ _ 81 rfl W0.heap.size 84 _ 2 16 Tryz.underlying81 reading_info rfl (by decide) Reading.cells reading_len reading_one (.slice qA qx.length qc) qx rfl (oq3) (W2.heap.size) 0 1 1 [(evRead x)] rfl (RowOf.slice (t:=84) (xs:=[(evRead x)]) (f:=Reading.cells) (rb) reading_len rfl (by omega)) (by omega) (by omega) (by first | omega | (simp; omega)) ?_))
   intro v5 w5 o5 g5' wh5
   have TU0:Turn (fun b=>(Value.slice qA qx.length qc).ownBlock=some b) W2 w5:=(Turn.of_ext hx3).trans (Turn.of_grown g5')
   have q5n:∀b,(Value.slice qA qx.length qc).ownBlock=some b→b≠w1.heap.size∧b≠w.heap.size+1∧b≠g5∧b≠w.heap.size+2:=fun b hb=>⟨fun e=>OwnL.blk_ne (hqL.ext hx2) rO (by decide) b hb (by rw [e]),by have:=hqL.block_le hb; omega,fun e=>OwnL.blk_ne hqL hr5 (by decide) b hb (by rw [e]),by have:=hqL.block_le hb; omega⟩
   have sc5:SameC [(w1.heap.size,4),(w.heap.size+1,1),(w.heap.size+1,2)] W2 w5:=fun p hp=>by
    simp only [List.mem_cons,List.not_mem_nil,or_false] at hp
    rcases hp with rfl | rfl | rfl
    ·exact TU0.cell pl (fun h=>(q5n _ h).1 rfl)
    ·exact TU0.cell hle (fun h=>(q5n _ h).2.1 rfl)
    ·exact TU0.cell hle (fun h=>(q5n _ h).2.1 rfl)
   go_wp2_with fail
   refine ⟨sc5,?_⟩
   repeat (go_big_quiet_step (fail))
   refine wpQuiet_nil ?_
   have R5:Row w5 g5 81 (r'.rs.flatMap RS.cells++rest5):=(hr5.ext hx2).turn TU0 (fun h=>(q5n _ h).2.2.1 rfl)
   obtain ⟨VA,vc,rfl,hv3,hv4⟩:=o5.form
   have hle5:(qx++[evRead x]).length=qx.length+1:=by simp
   rw [hle5] at o5 wh5 hv3
   have R6:=R5.rs_set (m:=m) (by rw [HLN.out, ←HN5.out]; omega) ⟨VA,qx.length+1,vc,qx++[evRead x]⟩
   have u5:=R5.lt
   have uf:=R5.frozen m
   obtain ⟨u5v,u5c⟩:∃v,w5.cell? ⟨g5,m,none⟩=some v:=⟨_,(TU0.cell (Nat.lt_of_lt_of_le g5l hx2.size) (fun h=>(q5n _ h).2.2.1 rfl)).trans v0⟩
   have TW:Turn (fun b=>(Value.slice qA qx.length qc).ownBlock=some b∨b=g5) W2 (w5.setCell ⟨g5,m,none⟩ (.slice VA (qx.length+1) vc)):=(TU0.mono fun b hb=> .inl hb).set1 (.inr rfl) _
   have SC6:=hide (SameC.setCell (p:=⟨g5,m,none⟩) sc5 (by simp; omega) (.slice VA (qx.length+1) vc))
   have c6:(w5.setCell ⟨g5,m,none⟩ (.slice VA (qx.length+1) vc)).cell? ⟨g5,m,none⟩=some (.slice VA (qx.length+1) vc):=R6.rs_at (by rw [HLN.out, ←HN5.out]; omega)
   have o6:=o5.far_ne (p:=⟨g5,m,none⟩) (fun k hk e=>OwnL.blk_ne o5 R5 (by decide) k hk (by rw [e])) (.slice VA (qx.length+1) vc)
   go_wp2_with fail
   refine ⟨SC6.out,wpQuiet_nil ?_⟩
   clear SC6 u5v u5c uf
   generalize w5.setCell ⟨g5,m,none⟩ (.slice VA (qx.length+1) vc)=W6 at *
   have rO6:=rO.turn TW (fun h=>h.elim (fun h=>(q5n _ h).1 rfl) (fun h=>by omega))
   have hzr6:=(hzr1.ext hx2).turn TW (fun h=>h.elim (fun h=>(q5n _ h).2.2.2 rfl) (fun h=>by omega))
   have hei6:=hei2.turn TW (fun h=>h.elim (fun h=>(q5n _ h).2.1 rfl) (fun h=>by omega))
   clear p0 p1 p2 p3 p4 pf pl hle z0 z1 z2 z3 z4
   have p0:=rO6.cell 0
   have p1:=rO6.cell 1
   have p2:=rO6.cell 2
   have p3:=rO6.cell 3
   have p4:=rO6.cell 4
   have pf:=rO6.frozen
   have pl:=rO6.lt
   simp only [List.getElem?_cons_zero,List.getElem?_cons_succ] at p0 p1 p2 p3 p4
   have r0:=hzr6.cell 0
   have r1:=hzr6.cell 1
   have r2:=hzr6.cell 2
   have r3:=hzr6.cell 3
   have r4:=hzr6.cell 4
   have rf:=hzr6.frozen
   have rl:=hzr6.lt
   simp only [List.getElem?_cons_zero,List.getElem?_cons_succ] at r0 r1 r2 r3 r4
   obtain ⟨hle,z0,z1,z2,z3,z4⟩:=id hei6
   have r6l:=R6.lt
   have hk1:k1=n1:=by rw [hL.own.o1.1,hlk.1,hat.s1.len]
   have hnt:netB r'.ns r'.ps=true:=by rw [hlk.1,hlk.2.1]; exact HNT.out
   have HRB:=hide (show appB ((n1:Nat):Int) r x=((x.c==0&&x.d==0)&&readsB (k1:Int) (qx++[evRead x])) by rw [hk1]; exact HAB.out)
   subst hk1
   cases h1:(x.c==0)
   ·have hB:appB (k1:Int) r x=false:=by rw [HRB.out,h1]; rfl
    have HB:=hide hB
    clear hB
    go_wp2_with fail
    refine wp_region_phT [(w1.heap.size,0),(w1.heap.size,1),(w1.heap.size,2),(w1.heap.size,3),(w1.heap.size,4),(w.heap.size+1,3),(w.heap.size+1,4),(g5,m)] (.one [0,1,2,3,4,5,6,7,8,9,10,11,12,13,14,15,16] 17 (.one [18] 19 (.last [20]))) (by kernel_rfl) (by kernel_rfl) (by intro c a w d v h; cases d <;> exact h) ?_
    simp only [wpPhT,pickL,nthO]
    repeat (go_big_quiet_step (fail))
    refine wpQuiet_nil ?_
    go_wp2_with fail
    have hx67:Ext W6 W6.drew:=(Ext.refl _).drew
    have TF:=((((TW.mono (S':=fun b=>(Value.slice qA qx.length qc).ownBlock=some b∨b=g5∨b=w.heap.size+2) (fun b hb=>hb.elim .inl (fun h=> .inr (.inl h)))).trans (Turn.of_ext hx67)).five (g:=w.heap.size+2) (.inr (.inr rfl)) (.slice B1 k1 d1) (.slice B2 k2 d2) (.slice B3 k3 d3) (.slice B4 k4 d4) (.slice (some ⟨g5,0,none⟩) (m+1) d5)))
    have XF:=X2.turn TF (fun b hb=>by rcases hb with hb | hb | hb; (have:=hqL.block_le hb; omega); omega; omega)
    have HSC:=hide (SameC.of_ext (cs:=[(w1.heap.size,0),(w1.heap.size,1),(w1.heap.size,2),(w1.heap.size,3),(w1.heap.size,4),(w.heap.size+1,3),(w.heap.size+1,4),(g5,m)]) hx67 (by simp; omega))
    refine ⟨HSC.out,?_⟩
    repeat (go_big_quiet_step (fail))
    refine wpQuiet_nil ?_
    go_wp2_with fail
    refine ⟨SameC.five HSC.out (by simp; omega) _ _ _ _ _,?_⟩
    repeat (go_big_quiet_step (fail))
    refine wpQuiet_nil ?_
    go_wp2
    refine bodyPost_ret (v:= .tuple #[.agg #[.slice B1 k1 d1,.slice B2 k2 d2,.slice B3 k3 d3,.slice B4 k4 d4,.slice (some ⟨g5,0,none⟩) (m+1) d5],.bool false]) (by simp [results,Tryz.results40,go_sem,r0,r1,r2,r3,r4]) rfl ?_
    exact ⟨B1,B2,B3,B4,_,k1,d1,k2,d2,k3,d3,k4,d4,m+1,d5,r',by rw [HB.out],fun h=>(by rw [HB.out] at h; cases h),XF⟩
   ·cases h2:(x.d==0)
    ·have hB:appB (k1:Int) r x=false:=by rw [HRB.out,h1,h2]; rfl
     have HB:=hide hB
     clear hB
     go_wp2_with fail
     refine wp_region_phT [(w1.heap.size,0),(w1.heap.size,1),(w1.heap.size,2),(w1.heap.size,3),(w1.heap.size,4),(w.heap.size+1,3),(w.heap.size+1,4),(g5,m)] (.one [0,1,2,3,4,5,6,7,8,9,10,11,12,13,14,15,16] 17 (.one [18] 19 (.last [20]))) (by kernel_rfl) (by kernel_rfl) (by intro c a w d v h; cases d <;> exact h) ?_
     simp only [wpPhT,pickL,nthO]
     repeat (go_big_quiet_step (fail))
     refine wpQuiet_nil ?_
     go_wp2_with fail
     have hx67:Ext W6 W6.drew:=(Ext.refl _).drew
     have TF:=((((TW.mono (S':=fun b=>(Value.slice qA qx.length qc).ownBlock=some b∨b=g5∨b=w.heap.size+2) (fun b hb=>hb.elim .inl (fun h=> .inr (.inl h)))).trans (Turn.of_ext hx67)).five (g:=w.heap.size+2) (.inr (.inr rfl)) (.slice B1 k1 d1) (.slice B2 k2 d2) (.slice B3 k3 d3) (.slice B4 k4 d4) (.slice (some ⟨g5,0,none⟩) (m+1) d5)))
     have XF:=X2.turn TF (fun b hb=>by rcases hb with hb | hb | hb; (have:=hqL.block_le hb; omega); omega; omega)
     have HSC:=hide (SameC.of_ext (cs:=[(w1.heap.size,0),(w1.heap.size,1),(w1.heap.size,2),(w1.heap.size,3),(w1.heap.size,4),(w.heap.size+1,3),(w.heap.size+1,4),(g5,m)]) hx67 (by simp; omega))
     refine ⟨HSC.out,?_⟩
     repeat (go_big_quiet_step (fail))
     refine wpQuiet_nil ?_
     go_wp2_with fail
     refine ⟨SameC.five HSC.out (by simp; omega) _ _ _ _ _,?_⟩
     repeat (go_big_quiet_step (fail))
     refine wpQuiet_nil ?_
     go_wp2
     refine bodyPost_ret (v:= .tuple #[.agg #[.slice B1 k1 d1,.slice B2 k2 d2,.slice B3 k3 d3,.slice B4 k4 d4,.slice (some ⟨g5,0,none⟩) (m+1) d5],.bool false]) (by simp [results,Tryz.results40,go_sem,r0,r1,r2,r3,r4]) rfl ?_
     exact ⟨B1,B2,B3,B4,_,k1,d1,k2,d2,k3,d3,k4,d4,m+1,d5,r',by rw [HB.out],fun h=>(by rw [HB.out] at h; cases h),XF⟩
    ·have hB:appB (k1:Int) r x=readsB (k1:Int) (qx++[evRead x]):=by rw [HRB.out,h1,h2]; rfl
     have HB:=hide hB
     clear hB
     have ow2:=hL.ext hx2
     have s1:=((ow2.own.o1.turn TW (fun b hb h=>h.elim (fun h=>ow2.own.o1.own_ne (hqL.ext hx2) (by decide) b hb h) (ow2.own.o1.row_ne (hr5.ext hx2) (by decide) b hb))).slice node_len)
     have s2:=((ow2.own.o2.turn TW (fun b hb h=>h.elim (fun h=>ow2.own.o2.own_ne (hqL.ext hx2) (by decide) b hb h) (ow2.own.o2.row_ne (hr5.ext hx2) (by decide) b hb))).slice pipe_len)
     have s6:=(o6.toA' reading_len (by decide)).1.slice reading_len
     have HS:=hide (And.intro s1 (And.intro s2 s6))
     clear s1 s2 s6
     go_wp2_with fail
     refine wp_region_phT [(w1.heap.size,0),(w1.heap.size,1),(w1.heap.size,2),(w1.heap.size,3),(w1.heap.size,4),(w.heap.size+1,3),(w.heap.size+1,4),(g5,m)] (.one [0,1,2,3,4,5,6,7,8,9,10,11,12,13,14,15,16] 17 (.one [18] 19 (.last [20]))) (by kernel_rfl) (by kernel_rfl) (by intro c a w d v h; cases d <;> exact h) ?_
     simp only [wpPhT,pickL,nthO]
     repeat (go_big_quiet_step (fail))
     refine wpQuiet_nil ?_
     go_wp2_with fail
     refine (c_areReadings B1 B2 k1 d1 k2 d2 r'.ns r'.ps VA (qx.length+1) vc (qx++[evRead x]) _ (HS.out.1.ext (Ext.refl _).drew) (HS.out.2.1.ext (Ext.refl _).drew) (HS.out.2.2.ext (Ext.refl _).drew) hnt).mono ?_
     rintro e w7 ⟨rfl,hx7⟩
     have hx67:Ext W6 w7:=(Ext.refl _).drew.trans hx7
     generalize hbb:readsB (k1:Int) (qx++[evRead x])=bb at *
     have hzr7:=hzr6.ext hx67
     clear r0 r1 r2 r3 r4 rf rl
     have r0:=hzr7.cell 0
     have r1:=hzr7.cell 1
     have r2:=hzr7.cell 2
     have r3:=hzr7.cell 3
     have r4:=hzr7.cell 4
     have rf:=hzr7.frozen
     have rl:=hzr7.lt
     simp only [List.getElem?_cons_zero,List.getElem?_cons_succ] at r0 r1 r2 r3 r4
     go_wp2_with fail
     have TF:=((((TW.mono (S':=fun b=>(Value.slice qA qx.length qc).ownBlock=some b∨b=g5∨b=w.heap.size+2) (fun b hb=>hb.elim .inl (fun h=> .inr (.inl h)))).trans (Turn.of_ext hx67)).five (g:=w.heap.size+2) (.inr (.inr rfl)) (.slice B1 k1 d1) (.slice B2 k2 d2) (.slice B3 k3 d3) (.slice B4 k4 d4) (.slice (some ⟨g5,0,none⟩) (m+1) d5)))
     have XF:=X2.turn TF (fun b hb=>by rcases hb with hb | hb | hb; (have:=hqL.block_le hb; omega); omega; omega)
     have HSC:=hide (SameC.of_ext (cs:=[(w1.heap.size,0),(w1.heap.size,1),(w1.heap.size,2),(w1.heap.size,3),(w1.heap.size,4),(w.heap.size+1,3),(w.heap.size+1,4),(g5,m)]) hx67 (by simp; omega))
     refine ⟨HSC.out,?_⟩
     repeat (go_big_quiet_step (fail))
     refine wpQuiet_nil ?_
     go_wp2_with fail
     refine ⟨SameC.five HSC.out (by simp; omega) _ _ _ _ _,?_⟩
     repeat (go_big_quiet_step (fail))
     refine wpQuiet_nil ?_
     go_wp2
     refine bodyPost_ret (v:= .tuple #[.agg #[.slice B1 k1 d1,.slice B2 k2 d2,.slice B3 k3 d3,.slice B4 k4 d4,.slice (some ⟨g5,0,none⟩) (m+1) d5],.bool bb]) (by simp [results,Tryz.results40,go_sem,r0,r1,r2,r3,r4]) rfl ?_
     have hln2:r'.rs.length=m+1:=HLN.out.trans HN5.out.symm
     have T7:=(Turn.refl (S:=fun b=>b=w.heap.size+2) w7).five (g:=w.heap.size+2) rfl (.slice B1 k1 d1) (.slice B2 k2 d2) (.slice B3 k3 d3) (.slice B4 k4 d4) (.slice (some ⟨g5,0,none⟩) (m+1) d5)
     have R7:=(R6.ext hx67).turn T7 (by omega)
     have hq2:=hqL.ext hx2
     have hr2:=hr5.ext hx2
     have hs2:=hzr1.ext hx2
     have o1f:=ow2.own.o1.turn TF (fun b hb h=>h.elim (fun h=>ow2.own.o1.own_ne hq2 (by decide) b hb h) (fun h=>h.elim (ow2.own.o1.row_ne hr2 (by decide) b hb) (ow2.own.o1.row_ne hs2 (by decide) b hb)))
     have o2f:=ow2.own.o2.turn TF (fun b hb h=>h.elim (fun h=>ow2.own.o2.own_ne hq2 (by decide) b hb h) (fun h=>h.elim (ow2.own.o2.row_ne hr2 (by decide) b hb) (ow2.own.o2.row_ne hs2 (by decide) b hb)))
     have o3f:=ow2.own.o3.turn TF (fun b hb h=>h.elim (fun h=>ow2.own.o3.own_ne hq2 (by decide) b hb h) (fun h=>h.elim (ow2.own.o3.row_ne hr2 (by decide) b hb) (ow2.own.o3.row_ne hs2 (by decide) b hb)))
     have o4f:=ow2.own.o4.turn TF (fun b hb h=>h.elim (fun h=>ow2.own.o4.own_ne hq2 (by decide) b hb h) (fun h=>h.elim (ow2.own.o4.row_ne hr2 (by decide) b hb) (ow2.own.o4.row_ne hs2 (by decide) b hb)))
     have hlo:=x0.size
     obtain ⟨l1,l2,l3,l4,l5,l6⟩:=LRoom.lo5 hL.own
     obtain ⟨on,ol⟩:=(o6.ext hx67).toA' reading_len (by decide)
     have onf:=on.turn T7 (fun b hb h=>on.row_ne (hzr6.ext hx67) (by decide) b hb h)
     refine ⟨B1,B2,B3,B4,_,k1,d1,k2,d2,k3,d3,k4,d4,m+1,d5,⟨r'.ns,r'.ps,r'.xs,r'.L,r'.rs.set m ⟨VA,qx.length+1,vc,qx++[evRead x]⟩⟩,by rw [HB.out],fun _=>⟨ROwn.of o1f o2f o3f o4f ⟨by simp [hln2],hc5,hm5,fun _=>⟨g5,rfl,rest5,R7⟩⟩ ?_ (fun b hb=>Nat.le_trans hlo (l1 b hb)) (fun b hb=>Nat.le_trans hlo (l2 b hb)) (fun b hb=>Nat.le_trans hlo (l3 b hb)) (fun b hb=>Nat.le_trans hlo (l4 b hb)) (fun b hb=>Nat.le_trans hlo (l5 b hb)) ?_ (sep_set HQK.out hL.own.rr hL.sep2 (N:=W2.heap.size) (fun b hb=>(wh5 b (blk_own hb)).imp id (fun h=>by omega)) (fun p hp b hb=>(ow2.own.o6 p hp).lt hb)),?_⟩,XF⟩
     ·intro q' hq'
      obtain ⟨j,hj,he⟩:=List.mem_iff_getElem.1 hq'
      rw [List.getElem_set] at he
      split at he
      ·subst he; exact onf
      ·rename_i hne
       have hj':j<r'.rs.length:=by simpa using hj
       have hjm:q'∈r'.rs:=by rw [←he]; exact List.getElem_mem hj'
       refine (ow2.own.o6 q' hjm).turn TF (fun b hb h=> ?_)
       rcases h with h | h | h
       ·exact hL.sep2 m j b hne (by rw [List.getElem?_map,HQK.out,Option.map_some,h]) (by rw [List.getElem?_map,List.getElem?_eq_getElem hj',Option.map_some,he,blk_own hb])
       ·exact (ow2.own.o6 q' hjm).row_ne hr2 (by decide) b hb h
       ·exact (ow2.own.o6 q' hjm).row_ne hs2 (by decide) b hb h
     ·intro q' hq' b hb
      rcases List.mem_or_eq_of_mem_set hq' with h | h
      ·exact Nat.le_trans hlo (l6 q' h b hb)
      ·subst h; exact Nat.le_trans hlo (ol b hb)
     ·rw [HAR.out]
      refine ⟨hlk.1,hlk.2.1,hlk.2.2.1,hlk.2.2.2.1,?_⟩
      show (r'.rs.set m _).map RS.xs=(r.rs.set (r.rs.length-1) _).map RS.xs
      rw [List.map_set,List.map_set,hlk.2.2.2.2, ←HN5.out]; rfl
 ·have hln:r'.rs.length=r.rs.length:=by have h:=congrArg List.length hlk.2.2.2.2; simpa using h
  have hk5:k5=n5:=by rw [hL.own.o5.1,hln,HN5.out]
  have hr5:k5=r'.rs.length:=hL.own.o5.1
  obtain ⟨m,rfl⟩:∃m,n5=m+1:=⟨n5-1,by omega⟩
  subst hk5
  have HAB:=hide (show appB ((n1:Nat):Int) r x=((((x.a==(m:Int)&&x.b==0)&&x.c==0)&&x.d==0)&&decide (m+1<48)) by
   unfold appB hourOf; rw [if_neg (by omega),if_neg (by omega), ←HN5.out]
   have:((m+1:Nat):Int)-1=m:=by omega
   rw [this])
  have HAR:=hide (show appR r x={r with rs:=r.rs++[⟨none,0,0,[]⟩]} by unfold appR; rw [if_neg (by omega),if_neg (by omega)])
  have HLN:=hide hln
  have HR5:=hide hr5
  clear hln
  have rO2:=rO
  have p0:=rO2.cell 0
  have p1:=rO2.cell 1
  have p2:=rO2.cell 2
  have p3:=rO2.cell 3
  have p4:=rO2.cell 4
  have pf:=rO2.frozen
  have pl:=rO2.lt
  simp only [List.getElem?_cons_zero,List.getElem?_cons_succ] at p0 p1 p2 p3 p4
  rw [hk] at z0
  have oB:OwnL w1 W0.heap.size 81 1 RS.cells (.slice B5 r'.rs.length d5) r'.rs:=by rw [←HR5.out]; exact hL.r5
  have hq48:r'.rs.length≤48:=by omega
  have HZ2:=hide (show w1.heap.size+1=W2.heap.size by rw [←HW2.out]; simp)
  obtain ⟨hin2,hei2⟩:=And.intro (hin1.ext hx2) (hei1.ext hx2)
  have hzr2:=hzr1.ext hx2
  clear hr5
  go_wp2_with (at_builtin; go_must (rw [HW2.out]; refine wpList_append_grow rfl _ _ 30 rfl W0.heap.size 81 _ 1 24 Tryz.underlying30 rs_info' rfl (by decide) RS.cells rs_len rs_one (.slice B5 (m+1) d5) r'.rs rfl ((hL.r5.ext hx2).ext (Ext.alloc _ _)) (some ⟨w1.heap.size+1,0,none⟩) 1 1 [⟨none,0,0,[]⟩] rfl (rs_one_slice (Row.new' HZ2.out)) (by simp; omega) (by omega) (by first | omega | (simp; omega)) ?_))
  intro v5 w5 o5 g5'
  have TU0:Turn (fun b=>(Value.slice B5 (m+1) d5).ownBlock=some b) W2 w5:=(Turn.of_ext (Ext.alloc _ _)).trans (Turn.of_grown g5')
  have q5n:∀b,(Value.slice B5 (m+1) d5).ownBlock=some b→W0.heap.size≤b∧b≠w1.heap.size:=fun b hb=>⟨hL.r5.block_le hb,fun e=>OwnL.blk_ne (hL.r5.ext hx2) rO (by decide) b hb (by rw [e])⟩
  obtain ⟨VA,vc,rfl,hv3,hv4⟩:=o5.form
  have hle5:(r'.rs++[(⟨none,0,0,[]⟩:RS)]).length=r'.rs.length+1:=by simp
  rw [hle5] at o5 hv3
  have rO5:=rO.turn TU0 (fun h=>(q5n _ h).2 rfl)
  have u5c:=rO5.cell 4
  have u5f:=rO5.frozen 4
  have u5l:=rO5.lt
  simp only [List.getElem?_cons_zero,List.getElem?_cons_succ] at u5c
  go_wp2_with fail
  have TW:Turn (fun b=>(Value.slice B5 (m+1) d5).ownBlock=some b∨b=w1.heap.size) W2 (w5.setCell ⟨w1.heap.size,4,none⟩ (.slice VA (r'.rs.length+1) vc)):=(TU0.mono fun b hb=> .inl hb).set1 (.inr rfl) _
  have rO6:=rO5.set_ 4 (.slice VA (r'.rs.length+1) vc)
  have o6:=o5.far_ne (p:=⟨w1.heap.size,4,none⟩) (fun k hk e=>OwnL.blk_ne o5 rO5 (by decide) k hk (by rw [e])) (.slice VA (r'.rs.length+1) vc)
  have hzr6:=hzr2.turn TW (fun h=>h.elim (fun h=>by have:=(q5n _ h).1; omega) (fun h=>by omega))
  have hei6:=hei2.turn TW (fun h=>h.elim (fun h=>by have:=(q5n _ h).1; omega) (fun h=>by omega))
  have y46:=(TW.cell (o:=4) hin2.lt (fun h=>h.elim (fun h=>by have:=(q5n _ h).1; omega) (fun h=>by omega))).trans hin2.x4
  have hlt6:=Nat.lt_of_lt_of_le hin2.lt TW.size
  replace rO6:Row (w5.setCell ⟨w1.heap.size,4,none⟩ (.slice VA (r'.rs.length+1) vc)) w1.heap.size 32 [.slice B1 k1 d1,.slice B2 k2 d2,.slice B3 k3 d3,.slice B4 k4 d4,.slice VA (r'.rs.length+1) vc]:=rO6
  generalize w5.setCell ⟨w1.heap.size,4,none⟩ (.slice VA (r'.rs.length+1) vc)=W6 at *
  clear p0 p1 p2 p3 p4 pf pl hlt y0 y1 y2 y3 y4 hle z0 z1 z2 z3 z4 u5c u5f u5l
  have p0:=rO6.cell 0
  have p1:=rO6.cell 1
  have p2:=rO6.cell 2
  have p3:=rO6.cell 3
  have p4:=rO6.cell 4
  have pf:=rO6.frozen
  have pl:=rO6.lt
  simp only [List.getElem?_cons_zero,List.getElem?_cons_succ] at p0 p1 p2 p3 p4
  have r0:=hzr6.cell 0
  have r1:=hzr6.cell 1
  have r2:=hzr6.cell 2
  have r3:=hzr6.cell 3
  have r4:=hzr6.cell 4
  have rf:=hzr6.frozen
  have rl:=hzr6.lt
  simp only [List.getElem?_cons_zero,List.getElem?_cons_succ] at r0 r1 r2 r3 r4
  obtain ⟨hle,z0,z1,z2,z3,z4⟩:=id hei6
  have TF:=((TW.mono (S':=fun b=>(Value.slice B5 (m+1) d5).ownBlock=some b∨b=w1.heap.size∨b=w.heap.size+2) (fun b hb=>hb.elim .inl (fun h=> .inr (.inl h)))).five (g:=w.heap.size+2) (.inr (.inr rfl)) (.slice B1 k1 d1) (.slice B2 k2 d2) (.slice B3 k3 d3) (.slice B4 k4 d4) (.slice VA (r'.rs.length+1) vc)).drewT
  have XF:=X2.turn TF (fun b hb=>by rcases hb with hb | hb | hb; (have:=(q5n _ hb).1; omega); omega; omega)
  cases h1:(x.a==(m:Int))
  ·have HB:=hide (show appB (n1:Int) r x=false by rw [HAB.out,h1]; rfl)
   go_wp2_with fail
   refine wp_region_phT [(w1.heap.size,0),(w1.heap.size,1),(w1.heap.size,2),(w1.heap.size,3),(w1.heap.size,4),(w.heap.size+1,1),(w.heap.size+1,2),(w.heap.size+1,3),(w.heap.size+1,4),(w.heap.size,4)] (.one [0,1,2,3,4,5,6,7,8,9,10,11,12,13,14,15,16,17,18,19,20,21,22,23,24,25] 26 (.last [27])) (by kernel_rfl) (by kernel_rfl) (by intro c a w d v h; cases d <;> exact h) ?_
   simp only [wpPhT,pickL,nthO]
   repeat (go_big_quiet_step (fail))
   refine wpQuiet_nil ?_
   go_wp2_with fail
   refine ⟨SameC.drew (SameC.five (SameC.refl _ _) (by simp; omega) _ _ _ _ _),?_⟩
   repeat (go_big_quiet_step (fail))
   refine wpQuiet_nil ?_
   go_wp2
   refine bodyPost_ret (v:= .tuple #[.agg #[.slice B1 k1 d1,.slice B2 k2 d2,.slice B3 k3 d3,.slice B4 k4 d4,.slice VA (r'.rs.length+1) vc],.bool false]) (by simp [results,Tryz.results40,go_sem,r0,r1,r2,r3,r4] <;> omega) rfl ?_
   exact ⟨B1,B2,B3,B4,VA,k1,d1,k2,d2,k3,d3,k4,d4,_,vc,r',by rw [HB.out],fun h=>(by rw [HB.out] at h; cases h),XF⟩
  cases h2:(x.b==0)
  ·have HB:=hide (show appB (n1:Int) r x=false by rw [HAB.out,h1,h2]; rfl)
   go_wp2_with fail
   refine wp_region_phT [(w1.heap.size,0),(w1.heap.size,1),(w1.heap.size,2),(w1.heap.size,3),(w1.heap.size,4),(w.heap.size+1,1),(w.heap.size+1,2),(w.heap.size+1,3),(w.heap.size+1,4),(w.heap.size,4)] (.one [0,1,2,3,4,5,6,7,8,9,10,11,12,13,14,15,16,17,18,19,20,21,22,23,24,25] 26 (.last [27])) (by kernel_rfl) (by kernel_rfl) (by intro c a w d v h; cases d <;> exact h) ?_
   simp only [wpPhT,pickL,nthO]
   repeat (go_big_quiet_step (fail))
   refine wpQuiet_nil ?_
   go_wp2_with fail
   refine ⟨SameC.drew (SameC.five (SameC.refl _ _) (by simp; omega) _ _ _ _ _),?_⟩
   repeat (go_big_quiet_step (fail))
   refine wpQuiet_nil ?_
   go_wp2
   refine bodyPost_ret (v:= .tuple #[.agg #[.slice B1 k1 d1,.slice B2 k2 d2,.slice B3 k3 d3,.slice B4 k4 d4,.slice VA (r'.rs.length+1) vc],.bool false]) (by simp [results,Tryz.results40,go_sem,r0,r1,r2,r3,r4] <;> omega) rfl ?_
   exact ⟨B1,B2,B3,B4,VA,k1,d1,k2,d2,k3,d3,k4,d4,_,vc,r',by rw [HB.out],fun h=>(by rw [HB.out] at h; cases h),XF⟩
  cases h3:(x.c==0)
  ·have HB:=hide (show appB (n1:Int) r x=false by rw [HAB.out,h1,h2,h3]; rfl)
   go_wp2_with fail
   refine wp_region_phT [(w1.heap.size,0),(w1.heap.size,1),(w1.heap.size,2),(w1.heap.size,3),(w1.heap.size,4),(w.heap.size+1,1),(w.heap.size+1,2),(w.heap.size+1,3),(w.heap.size+1,4),(w.heap.size,4)] (.one [0,1,2,3,4,5,6,7,8,9,10,11,12,13,14,15,16,17,18,19,20,21,22,23,24,25] 26 (.last [27])) (by kernel_rfl) (by kernel_rfl) (by intro c a w d v h; cases d <;> exact h) ?_
   simp only [wpPhT,pickL,nthO]
   repeat (go_big_quiet_step (fail))
   refine wpQuiet_nil ?_
   go_wp2_with fail
   refine ⟨SameC.drew (SameC.five (SameC.refl _ _) (by simp; omega) _ _ _ _ _),?_⟩
   repeat (go_big_quiet_step (fail))
   refine wpQuiet_nil ?_
   go_wp2
   refine bodyPost_ret (v:= .tuple #[.agg #[.slice B1 k1 d1,.slice B2 k2 d2,.slice B3 k3 d3,.slice B4 k4 d4,.slice VA (r'.rs.length+1) vc],.bool false]) (by simp [results,Tryz.results40,go_sem,r0,r1,r2,r3,r4] <;> omega) rfl ?_
   exact ⟨B1,B2,B3,B4,VA,k1,d1,k2,d2,k3,d3,k4,d4,_,vc,r',by rw [HB.out],fun h=>(by rw [HB.out] at h; cases h),XF⟩
  cases h4:(x.d==0)
  ·have HB:=hide (show appB (n1:Int) r x=false by rw [HAB.out,h1,h2,h3,h4]; rfl)
   go_wp2_with fail
   refine wp_region_phT [(w1.heap.size,0),(w1.heap.size,1),(w1.heap.size,2),(w1.heap.size,3),(w1.heap.size,4),(w.heap.size+1,1),(w.heap.size+1,2),(w.heap.size+1,3),(w.heap.size+1,4),(w.heap.size,4)] (.one [0,1,2,3,4,5,6,7,8,9,10,11,12,13,14,15,16,17,18,19,20,21,22,23,24,25] 26 (.last [27])) (by kernel_rfl) (by kernel_rfl) (by intro c a w d v h; cases d <;> exact h) ?_
   simp only [wpPhT,pickL,nthO]
   repeat (go_big_quiet_step (fail))
   refine wpQuiet_nil ?_
   go_wp2_with fail
   refine ⟨SameC.drew (SameC.five (SameC.refl _ _) (by simp; omega) _ _ _ _ _),?_⟩
   repeat (go_big_quiet_step (fail))
   refine wpQuiet_nil ?_
   go_wp2
   refine bodyPost_ret (v:= .tuple #[.agg #[.slice B1 k1 d1,.slice B2 k2 d2,.slice B3 k3 d3,.slice B4 k4 d4,.slice VA (r'.rs.length+1) vc],.bool false]) (by simp [results,Tryz.results40,go_sem,r0,r1,r2,r3,r4] <;> omega) rfl ?_
   exact ⟨B1,B2,B3,B4,VA,k1,d1,k2,d2,k3,d3,k4,d4,_,vc,r',by rw [HB.out],fun h=>(by rw [HB.out] at h; cases h),XF⟩
  by_cases h5:m+1<48
  case neg=>
   have HB:=hide (show appB (n1:Int) r x=false by rw [HAB.out,h1,h2,h3,h4,decide_eq_false h5]; rfl)
   have h5':¬((m:Int)+1<48):=by omega
   go_wp2_with fail
   refine wp_region_phT [(w1.heap.size,0),(w1.heap.size,1),(w1.heap.size,2),(w1.heap.size,3),(w1.heap.size,4),(w.heap.size+1,1),(w.heap.size+1,2),(w.heap.size+1,3),(w.heap.size+1,4),(w.heap.size,4)] (.one [0,1,2,3,4,5,6,7,8,9,10,11,12,13,14,15,16,17,18,19,20,21,22,23,24,25] 26 (.last [27])) (by kernel_rfl) (by kernel_rfl) (by intro c a w d v h; cases d <;> exact h) ?_
   simp only [wpPhT,pickL,nthO]
   repeat (go_big_quiet_step (fail))
   refine wpQuiet_nil ?_
   go_wp2_with fail
   refine ⟨SameC.drew (SameC.five (SameC.refl _ _) (by simp; omega) _ _ _ _ _),?_⟩
   repeat (go_big_quiet_step (fail))
   refine wpQuiet_nil ?_
   go_wp2
   refine bodyPost_ret (v:= .tuple #[.agg #[.slice B1 k1 d1,.slice B2 k2 d2,.slice B3 k3 d3,.slice B4 k4 d4,.slice VA (r'.rs.length+1) vc],.bool false]) (by simp [results,Tryz.results40,go_sem,r0,r1,r2,r3,r4] <;> omega) rfl ?_
   exact ⟨B1,B2,B3,B4,VA,k1,d1,k2,d2,k3,d3,k4,d4,_,vc,r',by rw [HB.out],fun h=>(by rw [HB.out] at h; cases h),XF⟩
  have HB:=hide (show appB (n1:Int) r x=true by rw [HAB.out,h1,h2,h3,h4,decide_eq_true h5]; rfl)
  have h5':(m:Int)+1<48:=by omega
  go_wp2_with fail
  refine wp_region_phT [(w1.heap.size,0),(w1.heap.size,1),(w1.heap.size,2),(w1.heap.size,3),(w1.heap.size,4),(w.heap.size+1,1),(w.heap.size+1,2),(w.heap.size+1,3),(w.heap.size+1,4),(w.heap.size,4)] (.one [0,1,2,3,4,5,6,7,8,9,10,11,12,13,14,15,16,17,18,19,20,21,22,23,24,25] 26 (.last [27])) (by kernel_rfl) (by kernel_rfl) (by intro c a w d v h; cases d <;> exact h) ?_
  simp only [wpPhT,pickL,nthO]
  repeat (go_big_quiet_step (fail))
  refine wpQuiet_nil ?_
  go_wp2_with fail
  refine ⟨SameC.drew (SameC.five (SameC.refl _ _) (by simp; omega) _ _ _ _ _),?_⟩
  repeat (go_big_quiet_step (fail))
  refine wpQuiet_nil ?_
  go_wp2
  refine bodyPost_ret (v:= .tuple #[.agg #[.slice B1 k1 d1,.slice B2 k2 d2,.slice B3 k3 d3,.slice B4 k4 d4,.slice VA (r'.rs.length+1) vc],.bool true]) (by simp [results,Tryz.results40,go_sem,r0,r1,r2,r3,r4] <;> omega) rfl ?_
  have hln2:r'.rs.length=m+1:=HR5.out.symm
  have ow2:=hL.ext hx2
  have hs2:=hzr2
  have o1f:=ow2.own.o1.turn TF (fun b hb h=>h.elim (fun h=>ow2.own.o1.own_ne ow2.r5 (by decide) b hb h) (fun h=>h.elim (ow2.own.o1.row_ne rO (by decide) b hb) (ow2.own.o1.row_ne hs2 (by decide) b hb)))
  have o2f:=ow2.own.o2.turn TF (fun b hb h=>h.elim (fun h=>ow2.own.o2.own_ne ow2.r5 (by decide) b hb h) (fun h=>h.elim (ow2.own.o2.row_ne rO (by decide) b hb) (ow2.own.o2.row_ne hs2 (by decide) b hb)))
  have o3f:=ow2.own.o3.turn TF (fun b hb h=>h.elim (fun h=>ow2.own.o3.own_ne ow2.r5 (by decide) b hb h) (fun h=>h.elim (ow2.own.o3.row_ne rO (by decide) b hb) (ow2.own.o3.row_ne hs2 (by decide) b hb)))
  have o4f:=ow2.own.o4.turn TF (fun b hb h=>h.elim (fun h=>ow2.own.o4.own_ne ow2.r5 (by decide) b hb h) (fun h=>h.elim (ow2.own.o4.row_ne rO (by decide) b hb) (ow2.own.o4.row_ne hs2 (by decide) b hb)))
  have o6f:∀q∈r'.rs,OwnA _ 84 Reading.cells q.A q.n q.c q.xs:=fun q hq=>(ow2.own.o6 q hq).turn TF (fun b hb h=>h.elim (fun h=>(ow2.own.o6 q hq).own_ne ow2.r5 (by decide) b hb h) (fun h=>h.elim ((ow2.own.o6 q hq).row_ne rO (by decide) b hb) ((ow2.own.o6 q hq).row_ne hs2 (by decide) b hb)))
  have hlo:=x0.size
  obtain ⟨l1,l2,l3,l4,l5,l6⟩:=LRoom.lo5 hL.own
  obtain ⟨on,ol⟩:=o6.toA' rs_len (by decide)
  have T7:=((Turn.refl (S:=fun b=>b=w.heap.size+2) W6).five (g:=w.heap.size+2) rfl (.slice B1 k1 d1) (.slice B2 k2 d2) (.slice B3 k3 d3) (.slice B4 k4 d4) (.slice VA (r'.rs.length+1) vc)).drewT
  have o5f:=on.turn T7 (fun b hb h=>on.row_ne hzr6 (by decide) b hb h)
  refine ⟨B1,B2,B3,B4,VA,k1,d1,k2,d2,k3,d3,k4,d4,r'.rs.length+1,vc,⟨r'.ns,r'.ps,r'.xs,r'.L,r'.rs++[⟨none,0,0,[]⟩]⟩,by rw [HB.out],fun _=>⟨ROwn.of o1f o2f o3f o4f o5f ?_ (fun b hb=>Nat.le_trans hlo (l1 b hb)) (fun b hb=>Nat.le_trans hlo (l2 b hb)) (fun b hb=>Nat.le_trans hlo (l3 b hb)) (fun b hb=>Nat.le_trans hlo (l4 b hb)) (fun b hb=>Nat.le_trans hlo (ol b hb)) ?_ ?_,?_⟩,XF⟩
  ·intro q hq
   rcases List.mem_append.1 hq with hq | hq
   ·exact o6f q hq
   ·simp at hq
    subst hq
    exact ⟨rfl,by simp,by simp,fun h=>absurd h (by simp)⟩
  ·intro q hq b hb
   rcases List.mem_append.1 hq with hq | hq
   ·exact Nat.le_trans hlo (l6 q hq b hb)
   ·simp at hq
    subst hq
    exact absurd hb (blk_zero _ _)
  ·show SepL ((r'.rs++[(⟨none,0,0,[]⟩:RS)]).map fun q=>blkOf q.A q.n)
   rw [List.map_append,List.map_singleton]
   exact sep_snoc hL.own.rr (fun b hb _=>absurd hb (blk_zero _ _))
  ·rw [HAR.out]
   refine ⟨hlk.1,hlk.2.1,hlk.2.2.1,hlk.2.2.2.1,?_⟩
   show (r'.rs++[_]).map RS.xs=(r.rs++[_]).map RS.xs
   rw [List.map_append,List.map_append,hlk.2.2.2.2]
end Go.Proofs.YtinindjjapblcaaGreatDoor
