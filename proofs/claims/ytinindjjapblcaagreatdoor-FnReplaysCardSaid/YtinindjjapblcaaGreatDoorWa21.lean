/-
  l33Own of the reference: a copy of a room.
-/
import Derived.Test.YtinindjjapblcaaGreatDoorWa20
import Derived.Test.YtinindjjapblcaaGreatDoorWa02
import Derived.Test.YtinindjjapblcaaGreatDoorWa09
import Derived.Test.YtinindjjapblcaaGreatDoorWa19
namespace Go.Proofs.YtinindjjapblcaaGreatDoor
open Go.RowKit
structure NBox (w:World) (b:Nat) (A1 A2:Option Addr) (n1 c1 n2 c2:Nat):Prop where
 lt:b<w.heap.size
 x0:w.cell? ⟨b,0,none⟩=some (.slice A1 n1 c1)
 x1:w.cell? ⟨b,1,none⟩=some (.slice A2 n2 c2)
theorem NBox.ext {w w':World} {b:Nat} {A1 A2:Option Addr} {n1 c1 n2 c2:Nat} (h:NBox w b A1 A2 n1 c1 n2 c2) (hx:Ext w w'):NBox w' b A1 A2 n1 c1 n2 c2:=
 ⟨Nat.lt_of_lt_of_le h.lt hx.size,(hx.cell _ _ h.lt).trans h.x0,(hx.cell _ _ h.lt).trans h.x1⟩
theorem NBox.new (w:World) (A1 A2:Option Addr) (n1 c1 n2 c2:Nat) (t:TypeId):NBox (w.alloc (.cells #[.slice A1 n1 c1,.slice A2 n2 c2] t)) w.heap.size A1 A2 n1 c1 n2 c2:=by
 have hR:=Row.new w t [.slice A1 n1 c1,.slice A2 n2 c2]
 exact ⟨by simp,hR.cell 0,hR.cell 1⟩
def NetOwn (lo:Nat) (ns:List Node) (ps:List Pipe):Value→World→Prop:=fun v w=>∃B1 k1 d1 B2 k2 d2,v= .agg #[.slice B1 k1 d1,.slice B2 k2 d2]∧OwnA w 147 Node.cells B1 k1 d1 ns∧OwnA w 149 Pipe.cells B2 k2 d2 ps∧(∀q,blkOf B1 k1=some q→lo≤q)∧(∀q,blkOf B2 k2=some q→lo≤q)
theorem stNetOwn (lo:Nat) (ns:List Node) (ps:List Pipe):stK (NetOwn lo ns ps):=fun _ _ _ ⟨B1,k1,d1,B2,k2,d2,h1,h2,h3,h4⟩ hx=>⟨B1,k1,d1,B2,k2,d2,h1,h2.ext hx,h3.ext hx,h4⟩
theorem NetOwn.le {lo lo':Nat} {ns:List Node} {ps:List Pipe} {v:Value} {w:World} (h:NetOwn lo ns ps v w) (hl:lo'≤lo):NetOwn lo' ns ps v w:=by
 obtain ⟨B1,k1,d1,B2,k2,d2,h1,h2,h3,h4,h5⟩:=h
 exact ⟨B1,k1,d1,B2,k2,d2,h1,h2,h3,fun q hq=>Nat.le_trans hl (h4 q hq),fun q hq=>Nat.le_trans hl (h5 q hq)⟩
set_option maxHeartbeats 4000000 in
theorem o_l02Own (A1 A2:Option Addr) (n1 c1 n2 c2:Nat) (ns:List Node) (ps:List Pipe) (w:World) (h1:SliceOf w 3 Node.cells A1 n1 c1 ns) (h2:SliceOf w 5 Pipe.cells A2 n2 c2 ps) (m1:n1≤1048576) (m2:n2≤1048576):
  Calls Tryz.prog 95 #[.agg #[.slice A1 n1 c1,.slice A2 n2 c2]] w (fun e w'=>∃v,e= .returned v∧NetOwn w.heap.size ns ps v w'∧Ext w w'):=by
 have hin:=(NBox.new w A1 A2 n1 c1 n2 c2 27).ext (Ext.alloc _ (.cells #[.slice none 0 0,.slice none 0 0] 27))
 have hz0:=Row.new (w.alloc (.cells #[.slice A1 n1 c1,.slice A2 n2 c2] 27)) 27 [.slice none 0 0,.slice none 0 0]
 obtain ⟨W,HW⟩:∃W,Hid (W=(w.alloc (.cells #[.slice A1 n1 c1,.slice A2 n2 c2] 27)).alloc (.cells #[.slice none 0 0,.slice none 0 0] 27)):=⟨_,hide rfl⟩
 have x0:Ext w W:=by rw [HW.out]; exact (Ext.alloc _ _).and_alloc _
 have hza:W.heap.size≤w.heap.size+2:=by rw [HW.out]; simp
 have hzb:w.heap.size+2≤W.heap.size:=by rw [HW.out]; simp
 replace hin:NBox W w.heap.size A1 A2 n1 c1 n2 c2:=by rw [HW.out]; exact hin
 replace hz0:Row W (w.heap.size+1) 27 [.slice none 0 0,.slice none 0 0]:=by rw [HW.out]; simpa using hz0
 go_enter Tryz.func95,Tryz.ntmps95
 go_wp2_with fail
 rw [←HW.out]
 refine wp_region_K [KE W.heap.size 147,KC (.pointer (some ⟨w.heap.size,0,none⟩)),KC (.slice A1 n1 c1),KL W.heap.size 147 3 Node.cells ns,KE W.heap.size 149,KC (.pointer (some ⟨w.heap.size,1,none⟩)),KC (.slice A2 n2 c2),KL W.heap.size 149 5 Pipe.cells ps,NetOwn W.heap.size ns ps]
  [0,1,2,3,4,5,6,7,8] [[],[],[1],[0,1,2],[],[],[5],[4,5,6],[0,1,2,3,4,5,6,7],[0,1,2,3,4,5,6,7,8]] [] (.one [] 9 (.last [])) (by kernel_rfl) (by kernel_rfl) (by intro c a w d v h; cases d <;> exact h) (by simp) ⟨stKE _ _,stKC _,stKC _,stKL _ _ _ _ _,stKE _ _,stKC _,stKC _,stKL _ _ _ _ _,stNetOwn _ _ _,trivial⟩ ?_ ?_
 ·refine ⟨?_,?_,?_,?_,?_,?_,?_,?_,?_,trivial⟩
  all_goals
   intro ts wx hts hX hd
   obtain ⟨t0,ts0,rfl,hts0⟩:=vcons hts
   obtain ⟨t1,ts1,rfl,hts1⟩:=vcons hts0
   obtain ⟨t2,ts2,rfl,hts2⟩:=vcons hts1
   obtain ⟨t3,ts3,rfl,hts3⟩:=vcons hts2
   obtain ⟨t4,ts4,rfl,hts4⟩:=vcons hts3
   obtain ⟨t5,ts5,rfl,hts5⟩:=vcons hts4
   obtain ⟨t6,ts6,rfl,hts6⟩:=vcons hts5
   obtain ⟨t7,ts7,rfl,hts7⟩:=vcons hts6
   obtain ⟨t8,ts8,rfl,hts8⟩:=vcons hts7
   obtain ⟨t9,ts9,rfl,hts9⟩:=vcons hts8
   obtain rfl:=vnil hts9
   clear hts hts0 hts1 hts2 hts3 hts4 hts5 hts6 hts7 hts8 hts9
   simp only [putAll,nthO,Act.put,List.setIfInBounds_toArray,List.set_cons_succ,List.set_cons_zero]
  ·go_wp2_with fail
   exact ⟨Ext.alloc _ _,_,rfl,⟨_,rfl,Row.new _ _ _,hX.size⟩⟩
  ·go_wp2_with fail
   exact ⟨Ext.refl _,_,rfl,rfl⟩
  ·obtain ⟨rfl,_⟩:=hd
   obtain ⟨hlt,y0,y1⟩:=hin.ext hX
   go_wp2_with fail
   exact ⟨Ext.refl _,_,rfl,rfl⟩
  ·obtain ⟨⟨g,rfl,hr,hg⟩,_,rfl,_⟩:=hd
   have hxs:=h1.ext (x0.trans hX)
   have hzx:=hX.size
   go_wp2_with (at_builtin; go_must (refine wpList_append_fresh rfl _ _ 24 rfl W.heap.size 147 _ 3 32 Tryz.underlying24 node_info rfl (by decide) Node.cells node_len node_one g rfl hr hg A1 n1 c1 ns rfl hxs (by omega) (by omega) hzx ?_))
   intro v3 w3 oq hx3
   go_wp2_with fail
   exact ⟨hx3,_,rfl,oq⟩
  ·go_wp2_with fail
   exact ⟨Ext.alloc _ _,_,rfl,⟨_,rfl,Row.new _ _ _,hX.size⟩⟩
  ·go_wp2_with fail
   exact ⟨Ext.refl _,_,rfl,rfl⟩
  ·obtain ⟨rfl,_⟩:=hd
   obtain ⟨hlt,y0,y1⟩:=hin.ext hX
   go_wp2_with fail
   exact ⟨Ext.refl _,_,rfl,rfl⟩
  ·obtain ⟨⟨g,rfl,hr,hg⟩,_,rfl,_⟩:=hd
   have hxs:=h2.ext (x0.trans hX)
   have hzx:=hX.size
   go_wp2_with (at_builtin; go_must (refine wpList_append_fresh rfl _ _ 25 rfl W.heap.size 149 _ 5 40 Tryz.underlying25 pipe_info rfl (by decide) Pipe.cells pipe_len pipe_one g rfl hr hg A2 n2 c2 ps rfl hxs (by omega) (by omega) hzx ?_))
   intro v3 w3 oq hx3
   go_wp2_with fail
   exact ⟨hx3,_,rfl,oq⟩
  ·obtain ⟨_,_,_,o1,_,_,_,o2,_⟩:=hd
   obtain ⟨B1,d1,rfl,p1,q1⟩:=OwnL.toA o1 node_len (by omega)
   obtain ⟨B2,d2,rfl,p2,q2⟩:=OwnL.toA o2 pipe_len (by omega)
   go_wp2_with fail
   exact ⟨Ext.refl _,_,rfl,⟨B1,_,d1,B2,_,d2,rfl,p1,p2,q1,q2⟩⟩
 ·intro ts wx hts hX hd
  obtain ⟨t0,ts0,rfl,hts0⟩:=vcons hts
  obtain ⟨t1,ts1,rfl,hts1⟩:=vcons hts0
  obtain ⟨t2,ts2,rfl,hts2⟩:=vcons hts1
  obtain ⟨t3,ts3,rfl,hts3⟩:=vcons hts2
  obtain ⟨t4,ts4,rfl,hts4⟩:=vcons hts3
  obtain ⟨t5,ts5,rfl,hts5⟩:=vcons hts4
  obtain ⟨t6,ts6,rfl,hts6⟩:=vcons hts5
  obtain ⟨t7,ts7,rfl,hts7⟩:=vcons hts6
  obtain ⟨t8,ts8,rfl,hts8⟩:=vcons hts7
  obtain ⟨t9,ts9,rfl,hts9⟩:=vcons hts8
  obtain rfl:=vnil hts9
  clear hts hts0 hts1 hts2 hts3 hts4 hts5 hts6 hts7 hts8 hts9
  simp only [putAll,Act.put,List.setIfInBounds_toArray,List.set_cons_succ,List.set_cons_zero]
  obtain ⟨-,-,-,-,-,-,-,-,⟨B1,k1,d1,B2,k2,d2,rfl,o1,o2,l1,l2⟩,-⟩:=hd
  have hzx:=hz0.ext hX
  have y0:=hzx.cell 0
  have y1:=hzx.cell 1
  have f0:=hzx.frozen
  have hlt:=hzx.lt
  simp only [List.getElem?_cons_zero,List.getElem?_cons_succ] at y0 y1
  simp only [wpPhT,pickL,nthO]
  refine wpQuiet_nil ?_
  go_wp2_with fail
  refine ⟨fun _ h=>(by cases h),wpQuiet_nil ?_⟩
  go_wp2
  have hlo:w.heap.size≤W.heap.size:=x0.size
  refine bodyPost_ret (v:= .agg #[.slice B1 k1 d1,.slice B2 k2 d2]) (by simp [results,Tryz.results95,go_sem,y0,y1]) rfl
   ⟨_,rfl,⟨B1,k1,d1,B2,k2,d2,rfl,(o1.far (o1.row_ne hzx (by decide)) _).far (o1.row_ne hzx (by decide)) _,(o2.far (o2.row_ne hzx (by decide)) _).far (o2.row_ne hzx (by decide)) _,fun b hb=>Nat.le_trans hlo (l1 b hb),fun b hb=>Nat.le_trans hlo (l2 b hb)⟩,?_⟩
  repeat (refine Ext.setCell ?_ (by first | (simp; done) | (simp; omega) | omega) _)
  exact x0.trans hX
def RoomParts (lo:Nat) (v5:Value) (r:Room):Value→World→Prop:=fun v w=>∃B1 k1 d1 B2 k2 d2 B3 k3 d3 B4 k4 d4,v= .agg #[.slice B1 k1 d1,.slice B2 k2 d2,.slice B3 k3 d3,.slice B4 k4 d4,v5]∧OwnA w 147 Node.cells B1 k1 d1 r.ns∧OwnA w 149 Pipe.cells B2 k2 d2 r.ps∧OwnA w 98 Contract.cells B3 k3 d3 r.xs∧OwnA w 79 Nomination.cells B4 k4 d4 r.L∧
 (∀q,blkOf B1 k1=some q→lo≤q)∧(∀q,blkOf B2 k2=some q→lo≤q)∧(∀q,blkOf B3 k3=some q→lo≤q)∧(∀q,blkOf B4 k4=some q→lo≤q)
theorem stRoomParts (lo:Nat) (v5:Value) (r:Room):stK (RoomParts lo v5 r):=fun _ _ _ ⟨B1,k1,d1,B2,k2,d2,B3,k3,d3,B4,k4,d4,h1,h2,h3,h4,h5,h6⟩ hx=>⟨B1,k1,d1,B2,k2,d2,B3,k3,d3,B4,k4,d4,h1,h2.ext hx,h3.ext hx,h4.ext hx,h5.ext hx,h6⟩
set_option maxHeartbeats 8000000 in
theorem c_l33Own (A1 A2 A3 A4 A5:Option Addr) (n1 c1 n2 c2 n3 c3 n4 c4 n5 c5:Nat) (r:Room) (w:World) (hat:RoomAt w A1 A2 A3 A4 A5 n1 c1 n2 c2 n3 c3 n4 c4 n5 c5 r) (hf:RoomFits r) (m1:n1≤1048576) (m2:n2≤1048576) (m3:n3≤1048576):
  Calls Tryz.prog 96 #[.agg #[.slice A1 n1 c1,.slice A2 n2 c2,.slice A3 n3 c3,.slice A4 n4 c4,.slice A5 n5 c5]] w (RetLR r w):=by
 obtain ⟨W0,HW⟩:∃W0,Hid ((w.alloc (.cells #[.slice A1 n1 c1,.slice A2 n2 c2,.slice A3 n3 c3,.slice A4 n4 c4,.slice A5 n5 c5] 32)).alloc (.cells #[.slice none 0 0,.slice none 0 0,.slice none 0 0,.slice none 0 0,.slice none 0 0] 32)=W0):=⟨_,hide rfl⟩
 have hin:RoomIn W0 w.heap.size A1 A2 A3 A4 A5 n1 c1 n2 c2 n3 c3 n4 c4 n5 c5:=by rw [←HW.out]; exact (RoomIn.new w A1 A2 A3 A4 A5 n1 c1 n2 c2 n3 c3 n4 c4 n5 c5 32).ext (Ext.alloc _ _)
 have hz0:Row W0 (w.heap.size+1) 32 [.slice none 0 0,.slice none 0 0,.slice none 0 0,.slice none 0 0,.slice none 0 0]:=by rw [←HW.out]; exact Row.new' (by simp)
 have x0:Ext w W0:=by rw [←HW.out]; exact (Ext.alloc _ _).and_alloc _
 have hza:W0.heap.size≤w.heap.size+2:=by rw [←HW.out]; simp
 have hzb:w.heap.size+2≤W0.heap.size:=by rw [←HW.out]; simp
 have m4:n4≤1048576:=by have:=hf.L; rw [hat.s4.len]; omega
 have hm5:=hat.s5.max
 have hcp5:=hat.s5.cap
 have h48:n5≤48:=by rw [hat.s5.len]; exact hf.rs
 go_enter Tryz.func96,Tryz.ntmps96
 go_wp2_with fail
 rw [HW.out]
 go_loopw [3,4] (fun v i wr=>∃(k:Nat) (rs':List RS),k≤n5∧i= .int .i64 k∧rs'.length≤k∧Ext W0 wr∧RDone wr W0.heap.size v rs' (r.rs.take k)) (fun _ i _=>n5-(intOf i).toNat)
 case atStart=>exact ⟨0,[],Nat.zero_le _,rfl,by simp,Ext.alloc _ _,⟨own_new W0 _ _ _ _ _ (by omega) (by omega),rfl,by simp,by intro i j b _ hi; simp at hi,by intro i j b _ hi; simp at hi⟩⟩
 case round=>
  obtain ⟨k,rs',hk,rfl,hrl,hXr,hD⟩:=hrel
  have hxz:=hXr.size
  obtain ⟨hlt,y0,y1,y2,y3,y4⟩:=hin.ext hXr
  obtain ⟨VA,vc,rfl,hv1,hv2⟩:=hD.o5.form
  by_cases hklt:k<n5
  ·obtain ⟨b,off,q,rfl,hb,hxk,hc⟩:=(hat.s5.ext (x0.trans hXr)).get hklt
   have t0:=hc 0 _ rfl
   simp only [Nat.add_zero,Nat.mul_one] at t0
   obtain ⟨qA,qn,qc,qx⟩:=q
   simp only at t0
   have hq:SliceOf w 2 Reading.cells qA qn qc qx:=hat.s6 _ (List.mem_of_getElem? hxk)
   have hq48:qn≤48:=by rw [hq.len]; exact hf.xs _ (List.mem_of_getElem? hxk)
   have HX:=hide hxk
   clear hxk hc
   go_wp2_with (at_builtin; go_must (refine wpList_append_fresh rfl _ _ 81 rfl wr.heap.size 84 _ 2 16 Tryz.underlying81 reading_info rfl (by decide) Reading.cells reading_len reading_one wr.heap.size rfl (Row.new wr 84 []) (Nat.le_refl _) qA qn qc qx rfl ((hq.ext (x0.trans hXr)).ext (Ext.alloc _ _)) (by omega) (by omega) (by simp) ?_))
   intro v3 w3 oq hx3
   obtain ⟨QA,qcc,rfl,hq1,hq2⟩:=oq.form
   have hxr3:=(Ext.alloc wr _).trans hx3
   have hz33:=hxr3.size
   go_wp2_with (at_builtin; go_must (refine wpList_append_grow rfl _ _ 30 rfl W0.heap.size 81 _ 1 24 Tryz.underlying30 rs_info' rfl (by decide) RS.cells rs_len rs_one (.slice VA rs'.length vc) rs' rfl (hD.o5.ext (hxr3.and_alloc _)) (some ⟨w3.heap.size,0,none⟩) 1 1 [⟨QA,qx.length,qcc,qx⟩] rfl (rs_one_slice (Row.new w3 81 [.slice QA qx.length qcc])) (by simp; omega) (by omega) (by first | omega | (simp; omega)) ?_))
   intro v5 w5 o5 g5
   obtain ⟨VB,vd,rfl,hv3,hv4⟩:=o5.form
   have ho3:=hD.o5.ext (hxr3.and_alloc (.cells #[.slice QA qx.length qcc] 81))
   have hX5:=(hXr.trans (hxr3.and_alloc (.cells #[.slice QA qx.length qcc] 81))).grown g5 (fun b hb=>ho3.block_le hb)
   have hD5:=hD.step (hxr3.and_alloc (.cells #[.slice QA qx.length qcc] 81)) (oq.ext (Ext.alloc _ _)) hxz o5 g5 (take_map HX.out)
   have hlen5:(rs'++[(⟨QA,qx.length,qcc,qx⟩:RS)]).length=rs'.length+1:=by simp
   rw [hlen5] at hD5
   go_wp2_with fail
   go_roundw
   case rel=>exact ⟨k+1,rs'++[⟨QA,qx.length,qcc,qx⟩],by omega,by go_num,by rw [hlen5]; omega,hX5,by rw [hlen5]; exact hD5⟩
   case measure=>simp [intOf]; omega
  ·obtain rfl:n5=k:=by omega
   have hmap:rs'.map RS.xs=r.rs.map RS.xs:=by have h:=hD.map; rwa [List.take_of_length_le (by rw [hat.s5.len]; exact Nat.le_refl _)] at h
   have HMAP:=hide hmap
   clear hmap
   go_wp2_with fail
   refine wp_region_K [KC (.pointer (some ⟨w.heap.size,0,none⟩)),KC (.agg #[.slice A1 n1 c1,.slice A2 n2 c2]),NetOwn wr.heap.size r.ns r.ps,KE wr.heap.size 98,KC (.pointer (some ⟨w.heap.size,2,none⟩)),KC (.slice A3 n3 c3),KL wr.heap.size 98 8 Contract.cells r.xs,KE wr.heap.size 79,KC (.pointer (some ⟨w.heap.size,3,none⟩)),KC (.slice A4 n4 c4),KL wr.heap.size 79 4 Nomination.cells r.L,KC (.slice VA rs'.length vc),RoomParts wr.heap.size (.slice VA rs'.length vc) r]
    [0,1,2,3,4,5,6,7,8,9,10,11,12] [[],[0],[0,1],[],[],[4],[3,4,5],[],[],[8],[7,8,9],[],[0,1,2,3,4,5,6,7,8,9,10,11],[0,1,2,3,4,5,6,7,8,9,10,11,12]] [] (.one [] 13 (.last [])) (by kernel_rfl) (by kernel_rfl) (by intro c a w d v h; cases d <;> exact h) (by simp) ⟨stKC _,stKC _,stNetOwn _ _ _,stKE _ _,stKC _,stKC _,stKL _ _ _ _ _,stKE _ _,stKC _,stKC _,stKL _ _ _ _ _,stKC _,stRoomParts _ _ _,trivial⟩ ?_ ?_
   ·refine ⟨?_,?_,?_,?_,?_,?_,?_,?_,?_,?_,?_,?_,?_,trivial⟩
    all_goals
     intro ts wx hts hX hd
     obtain ⟨t0,ts0,rfl,hts0⟩:=vcons hts
     obtain ⟨t1,ts1,rfl,hts1⟩:=vcons hts0
     obtain ⟨t2,ts2,rfl,hts2⟩:=vcons hts1
     obtain ⟨t3,ts3,rfl,hts3⟩:=vcons hts2
     obtain ⟨t4,ts4,rfl,hts4⟩:=vcons hts3
     obtain ⟨t5,ts5,rfl,hts5⟩:=vcons hts4
     obtain ⟨t6,ts6,rfl,hts6⟩:=vcons hts5
     obtain ⟨t7,ts7,rfl,hts7⟩:=vcons hts6
     obtain ⟨t8,ts8,rfl,hts8⟩:=vcons hts7
     obtain ⟨t9,ts9,rfl,hts9⟩:=vcons hts8
     obtain ⟨t10,ts10,rfl,hts10⟩:=vcons hts9
     obtain ⟨t11,ts11,rfl,hts11⟩:=vcons hts10
     obtain ⟨t12,ts12,rfl,hts12⟩:=vcons hts11
     obtain ⟨t13,ts13,rfl,hts13⟩:=vcons hts12
     obtain rfl:=vnil hts13
     clear hts hts0 hts1 hts2 hts3 hts4 hts5 hts6 hts7 hts8 hts9 hts10 hts11 hts12 hts13
     simp only [putAll,nthO,Act.put,List.setIfInBounds_toArray,List.set_cons_succ,List.set_cons_zero]
    ·go_wp2_with fail
     exact ⟨Ext.refl _,_,rfl,rfl⟩
    ·obtain ⟨rfl,_⟩:=hd
     clear hlt y0 y1 y2 y3 y4
     obtain ⟨hlt,y0,y1,y2,y3,y4⟩:=hin.ext (hXr.trans hX)
     go_wp2_with fail
     exact ⟨Ext.refl _,_,rfl,rfl⟩
    ·obtain ⟨rfl,rfl,_⟩:=hd
     go_wp2_with fail
     refine (o_l02Own A1 A2 n1 c1 n2 c2 r.ns r.ps _ (hat.s1.ext (x0.trans (hXr.trans hX))) (hat.s2.ext (x0.trans (hXr.trans hX))) m1 m2).mono ?_
     rintro e w1 ⟨vv,rfl,o1,hx1⟩
     go_wp2_with fail
     exact ⟨hx1,_,rfl,o1.le hX.size⟩
    ·go_wp2_with fail
     exact ⟨Ext.alloc _ _,_,rfl,⟨_,rfl,Row.new _ _ _,hX.size⟩⟩
    ·go_wp2_with fail
     exact ⟨Ext.refl _,_,rfl,rfl⟩
    ·obtain ⟨rfl,_⟩:=hd
     clear hlt y0 y1 y2 y3 y4
     obtain ⟨hlt,y0,y1,y2,y3,y4⟩:=hin.ext (hXr.trans hX)
     go_wp2_with fail
     exact ⟨Ext.refl _,_,rfl,rfl⟩
    ·obtain ⟨⟨g,rfl,hr,hg⟩,rfl,rfl,_⟩:=hd
     have hxs:=hat.s3.ext (x0.trans (hXr.trans hX))
     have hzx:=hX.size
     go_wp2_with (at_builtin; go_must (refine wpList_append_fresh rfl _ _ 28 rfl wr.heap.size 98 _ 8 64 Tryz.underlying28 contract_info rfl (by decide) Contract.cells contract_len contract_one g rfl hr hg A3 n3 c3 r.xs rfl hxs (by omega) (by omega) hzx ?_))
     intro v3 w3 oq hx3
     go_wp2_with fail
     exact ⟨hx3,_,rfl,oq⟩
    ·go_wp2_with fail
     exact ⟨Ext.alloc _ _,_,rfl,⟨_,rfl,Row.new _ _ _,hX.size⟩⟩
    ·go_wp2_with fail
     exact ⟨Ext.refl _,_,rfl,rfl⟩
    ·obtain ⟨rfl,_⟩:=hd
     clear hlt y0 y1 y2 y3 y4
     obtain ⟨hlt,y0,y1,y2,y3,y4⟩:=hin.ext (hXr.trans hX)
     go_wp2_with fail
     exact ⟨Ext.refl _,_,rfl,rfl⟩
    ·obtain ⟨⟨g,rfl,hr,hg⟩,rfl,rfl,_⟩:=hd
     have hxs:=hat.s4.ext (x0.trans (hXr.trans hX))
     have hzx:=hX.size
     go_wp2_with (at_builtin; go_must (refine wpList_append_fresh rfl _ _ 29 rfl wr.heap.size 79 _ 4 32 Tryz.underlying29 nomination_info rfl (by decide) Nomination.cells nomination_len nomination_one g rfl hr hg A4 n4 c4 r.L rfl hxs (by omega) (by omega) hzx ?_))
     intro v3 w3 oq hx3
     go_wp2_with fail
     exact ⟨hx3,_,rfl,oq⟩
    ·go_wp2_with fail
     exact ⟨Ext.refl _,_,rfl,rfl⟩
    ·obtain ⟨_,_,⟨B1,k1,d1,B2,k2,d2,rfl,o1,o2,b1,b2⟩,_,_,_,o3,_,_,_,o4,rfl,_⟩:=hd
     obtain ⟨B3,d3,rfl,p3,q3⟩:=OwnL.toA o3 contract_len (by omega)
     obtain ⟨B4,d4,rfl,p4,q4⟩:=OwnL.toA o4 nomination_len (by omega)
     go_wp2_with fail
     exact ⟨Ext.refl _,_,rfl,⟨B1,k1,d1,B2,k2,d2,B3,_,d3,B4,_,d4,rfl,o1,o2,p3,p4,b1,b2,q3,q4⟩⟩
   ·intro ts wx hts hX hd
    obtain ⟨t0,ts0,rfl,hts0⟩:=vcons hts
    obtain ⟨t1,ts1,rfl,hts1⟩:=vcons hts0
    obtain ⟨t2,ts2,rfl,hts2⟩:=vcons hts1
    obtain ⟨t3,ts3,rfl,hts3⟩:=vcons hts2
    obtain ⟨t4,ts4,rfl,hts4⟩:=vcons hts3
    obtain ⟨t5,ts5,rfl,hts5⟩:=vcons hts4
    obtain ⟨t6,ts6,rfl,hts6⟩:=vcons hts5
    obtain ⟨t7,ts7,rfl,hts7⟩:=vcons hts6
    obtain ⟨t8,ts8,rfl,hts8⟩:=vcons hts7
    obtain ⟨t9,ts9,rfl,hts9⟩:=vcons hts8
    obtain ⟨t10,ts10,rfl,hts10⟩:=vcons hts9
    obtain ⟨t11,ts11,rfl,hts11⟩:=vcons hts10
    obtain ⟨t12,ts12,rfl,hts12⟩:=vcons hts11
    obtain ⟨t13,ts13,rfl,hts13⟩:=vcons hts12
    obtain rfl:=vnil hts13
    clear hts hts0 hts1 hts2 hts3 hts4 hts5 hts6 hts7 hts8 hts9 hts10 hts11 hts12 hts13
    simp only [putAll,Act.put,List.setIfInBounds_toArray,List.set_cons_succ,List.set_cons_zero]
    obtain ⟨-,-,-,-,-,-,-,-,-,-,-,-,⟨B1,k1,d1,B2,k2,d2,B3,k3,d3,B4,k4,d4,rfl,o1,o2,o3,o4,l1,l2,l3,l4⟩,-⟩:=hd
    have hzx:=hz0.ext (hXr.trans hX)
    have p0:=hzx.cell 0
    have p1:=hzx.cell 1
    have p2:=hzx.cell 2
    have p3:=hzx.cell 3
    have p4:=hzx.cell 4
    have f0:=hzx.frozen
    have hlt':=hzx.lt
    simp only [List.getElem?_cons_zero,List.getElem?_cons_succ] at p0 p1 p2 p3 p4
    simp only [wpPhT,pickL,nthO]
    refine wpQuiet_nil ?_
    go_wp2_with fail
    refine ⟨fun _ h=>(by cases h),wpQuiet_nil ?_⟩
    go_wp2
    have hlo:w.heap.size≤W0.heap.size:=x0.size
    have hlo':w.heap.size≤wr.heap.size:=Nat.le_trans hlo hxz
    have oD:=hD.o5.ext hX
    refine bodyPost_ret (v:= .agg #[.slice B1 k1 d1,.slice B2 k2 d2,.slice B3 k3 d3,.slice B4 k4 d4,.slice VA rs'.length vc]) (by simp [results,Tryz.results96,go_sem,p0,p1,p2,p3,p4]) rfl
     ⟨B1,B2,B3,B4,VA,k1,d1,k2,d2,k3,d3,k4,d4,rs'.length,vc,⟨r.ns,r.ps,r.xs,r.L,rs'⟩,rfl,LRoom.of (o1.set5 (o1.row_ne hzx (by decide)) _ _ _ _ _) (o2.set5 (o2.row_ne hzx (by decide)) _ _ _ _ _) (o3.set5 (o3.row_ne hzx (by decide)) _ _ _ _ _) (o4.set5 (o4.row_ne hzx (by decide)) _ _ _ _ _) (fun b hb=>Nat.le_trans hlo' (l1 b hb)) (fun b hb=>Nat.le_trans hlo' (l2 b hb)) (fun b hb=>Nat.le_trans hlo' (l3 b hb)) (fun b hb=>Nat.le_trans hlo' (l4 b hb))
      ((oD.base hlo).set5 (fun k hk e=>OwnL.blk_ne oD hzx (by decide) k hk (by rw [e])) _ _ _ _ _) (fun q hq=>(((hD.o6 q hq).ext hX).base hlo).set5 (fun k hk e=>OwnL.blk_ne ((hD.o6 q hq).ext hX) hzx (by decide) k hk (by rw [e])) _ _ _ _ _) hD.sep hD.sep2,⟨rfl,rfl,rfl,rfl,HMAP.out⟩,?_⟩
    repeat (refine Ext.setCell ?_ (by first | (simp; done) | (simp; omega) | omega) _)
    exact x0.trans (hXr.trans hX)
end Go.Proofs.YtinindjjapblcaaGreatDoor
namespace Go.Proofs.YtinindjjapblcaaGreatDoor
open Go.RowKit
theorem sep_one (x:Option Nat):SepL [x]:=by
 intro i j b hij hi hj
 rw [List.getElem?_singleton] at hi hj
 split at hi
 ·split at hj
  ·omega
  ·cases hj
 ·cases hi
set_option maxHeartbeats 4000000 in
theorem c_l33NewL (A1 A2:Option Addr) (n1 c1 n2 c2:Nat) (ns:List Node) (ps:List Pipe) (A:Option Addr) (n c:Nat) (xs:List Contract) (w:World) (h1:SliceOf w 3 Node.cells A1 n1 c1 ns) (h2:SliceOf w 5 Pipe.cells A2 n2 c2 ps) (hs:SliceOf w 8 Contract.cells A n c xs) (m1:n1≤1048576) (m2:n2≤1048576) (m3:n≤1048576):
  Calls Tryz.prog 45 #[.agg #[.slice A1 n1 c1,.slice A2 n2 c2],.slice A n c] w (RetLR (newR ns ps xs) w):=by
 have x0:Ext w ((w.alloc (.cells #[.slice A1 n1 c1,.slice A2 n2 c2] 27)).alloc (.cells #[.slice none 0 0,.slice none 0 0,.slice none 0 0,.slice none 0 0,.slice none 0 0] 32)):=(Ext.alloc _ _).and_alloc _
 go_enter Tryz.func45,Tryz.ntmps45
 go_wp2_with fail
 refine (o_l02Own A1 A2 n1 c1 n2 c2 ns ps _ (h1.ext x0) (h2.ext x0) m1 m2).mono ?_
 rintro e w1 ⟨_,rfl,⟨B1,k1,d1,B2,k2,d2,rfl,o1,o2,b1,b2⟩,hx1⟩
 have hz1:=hx1.size
 simp at hz1
 go_wp2_with (at_builtin; go_must (refine wpList_append_grow rfl _ _ 28 rfl (w1.heap.size) 98 _ 8 64 Tryz.underlying28 contract_info rfl (by decide) Contract.cells contract_len contract_one _ [] rfl (own_new w1 _ _ _ _ _ rfl (Nat.le_refl _)) A n c xs rfl (hs.ext ((x0.trans hx1).and_alloc _)) (by first | omega | (simp; omega)) (by omega) (by first | exact Nat.le_refl _ | omega | (simp; done) | (simp; omega)) ?_))
 intro v3 w3 o3 g3
 have hX3:=wp_ext_only (Ext.alloc w1 _) g3 (Nat.le_refl _)
 obtain ⟨B3,d3,rfl,p3,q3⟩:=o3.toA contract_len (by omega)
 have hx03:=hx1.trans hX3
 have hcl:=hx03.cell
 have hfr:=hx03.frozen
 have hz3:w.heap.size+1<w3.heap.size:=by have:=hX3.size; omega
 have hz4:w.heap.size<w3.heap.size:=by omega
 go_wp2
 have f1:∀b,blkOf B1 k1=some b→b≠w.heap.size+1:=fun b hb=>by have:=b1 b hb; simp at this; omega
 have f2:∀b,blkOf B2 k2=some b→b≠w.heap.size+1:=fun b hb=>by have:=b2 b hb; simp at this; omega
 have f3:∀b,blkOf B3 xs.length=some b→b≠w.heap.size+1:=fun b hb=>by have:=q3 b hb; omega
 have o1f:=((o1.ext hX3).set5 f1 (.slice B1 k1 d1) (.slice B2 k2 d2) (.slice B3 xs.length d3) (.slice none 0 0) (.slice (some ⟨w3.heap.size+1,0,none⟩) 1 1))
 have o2f:=((o2.ext hX3).set5 f2 (.slice B1 k1 d1) (.slice B2 k2 d2) (.slice B3 xs.length d3) (.slice none 0 0) (.slice (some ⟨w3.heap.size+1,0,none⟩) 1 1))
 have o3f:=(p3.set5 f3 (.slice B1 k1 d1) (.slice B2 k2 d2) (.slice B3 xs.length d3) (.slice none 0 0) (.slice (some ⟨w3.heap.size+1,0,none⟩) 1 1))
 have hXF:Ext w (((((w3.setCell ⟨w.heap.size+1,0,none⟩ (.slice B1 k1 d1)).setCell ⟨w.heap.size+1,1,none⟩ (.slice B2 k2 d2)).setCell ⟨w.heap.size+1,2,none⟩ (.slice B3 xs.length d3)).setCell ⟨w.heap.size+1,3,none⟩ (.slice none 0 0)).setCell ⟨w.heap.size+1,4,none⟩ (.slice (some ⟨w3.heap.size+1,0,none⟩) 1 1)):=by
  repeat (refine Ext.setCell ?_ (by first | (simp; done) | (simp; omega) | omega) _)
  exact x0.trans hx03
 have hSZ:(((((w3.setCell ⟨w.heap.size+1,0,none⟩ (.slice B1 k1 d1)).setCell ⟨w.heap.size+1,1,none⟩ (.slice B2 k2 d2)).setCell ⟨w.heap.size+1,2,none⟩ (.slice B3 xs.length d3)).setCell ⟨w.heap.size+1,3,none⟩ (.slice none 0 0)).setCell ⟨w.heap.size+1,4,none⟩ (.slice (some ⟨w3.heap.size+1,0,none⟩) 1 1)).heap.size=w3.heap.size:=by simp
 have qb1:=fun b hb=>by have:=b1 b hb; simp at this; exact (show w.heap.size≤b by omega)
 have qb2:=fun b hb=>by have:=b2 b hb; simp at this; exact (show w.heap.size≤b by omega)
 have qb3:=fun b hb=>by have:=q3 b hb; exact (show w.heap.size≤b by omega)
 refine bodyPost_ret (v:= .agg #[.slice B1 k1 d1,.slice B2 k2 d2,.slice B3 xs.length d3,.slice none 0 0,.slice (some ⟨w3.heap.size+1,0,none⟩) 1 1]) (by simp [results,Tryz.results45,go_sem,hcl,hz3,hz4]) rfl
  ⟨B1,B2,B3,none,some ⟨w3.heap.size+1,0,none⟩,k1,d1,k2,d2,_,d3,0,0,1,1,⟨ns,ps,xs,[],[⟨some ⟨w3.heap.size,0,none⟩,0,0,[]⟩]⟩,rfl,?_,⟨rfl,rfl,rfl,rfl,rfl⟩,?_⟩
 ·generalize (((((w3.setCell ⟨w.heap.size+1,0,none⟩ (.slice B1 k1 d1)).setCell ⟨w.heap.size+1,1,none⟩ (.slice B2 k2 d2)).setCell ⟨w.heap.size+1,2,none⟩ (.slice B3 xs.length d3)).setCell ⟨w.heap.size+1,3,none⟩ (.slice none 0 0)).setCell ⟨w.heap.size+1,4,none⟩ (.slice (some ⟨w3.heap.size+1,0,none⟩) 1 1))=WF at *
  refine LRoom.of (o1f.ext ((Ext.alloc _ _).and_alloc _)) (o2f.ext ((Ext.alloc _ _).and_alloc _)) (o3f.ext ((Ext.alloc _ _).and_alloc _)) ⟨rfl,by omega,by omega,fun h=>absurd h (by omega)⟩ qb1 qb2 qb3 (fun b hb=>absurd hb (blk_zero _ _)) ?_ ?_ (sep_one _) (sep_one _)
  ·exact OwnL.of_row (xs:=[(⟨some ⟨w3.heap.size,0,none⟩,0,0,[]⟩:RS)]) (Row.newG _ _ (by simp [hSZ])) rs_len (by omega) (by simp)
  ·intro q hq
   simp at hq
   subst hq
   exact (own_new WF w.heap.size 84 2 Reading.cells w3.heap.size hSZ.symm (by omega)).ext (Ext.alloc _ _)
 ·exact (hXF.and_alloc _).and_alloc _
def RetRL (R:Room×Int) (w:World) (e:Ending) (w':World):Prop:=
 ∃(A1 A2 A3 A4 A5:Option Addr) (n1 c1 n2 c2 n3 c3 n4 c4 n5 c5:Nat) (r':Room),e= .returned (.tuple #[.agg #[.slice A1 n1 c1,.slice A2 n2 c2,.slice A3 n3 c3,.slice A4 n4 c4,.slice A5 n5 c5],.int .i64 R.2])∧(R.2=0→LRoom w' w.heap.size w'.heap.size A1 A2 A3 A4 A5 n1 c1 n2 c2 n3 c3 n4 c4 n5 c5 r'∧r'.Like R.1)∧Ext w w'
set_option maxHeartbeats 2000000 in
theorem c_specNewRoomL (A1 A2:Option Addr) (n1 c1 n2 c2:Nat) (ns:List Node) (ps:List Pipe) (A:Option Addr) (n c:Nat) (xs:List Contract) (w:World) (h1:SliceOf w 3 Node.cells A1 n1 c1 ns) (h2:SliceOf w 5 Pipe.cells A2 n2 c2 ps) (hs:SliceOf w 8 Contract.cells A n c xs) (m1:n1≤1048576) (m2:n2≤1048576) (m3:n≤1048576) (hnm:∀x∈ns,x.name.size≤1048576):
  Calls Tryz.prog 58 #[.agg #[.slice A1 n1 c1,.slice A2 n2 c2],.slice A n c] w (RetRL (newRR n1 ns ps xs) w):=by
 have x0:Ext w ((w.alloc (.cells #[.slice A1 n1 c1,.slice A2 n2 c2] 27)).alloc (.cells #[.slice none 0 0,.slice none 0 0,.slice none 0 0,.slice none 0 0,.slice none 0 0] 32)):=(Ext.alloc _ _).and_alloc _
 have HNM:=hide hnm
 clear hnm
 cases hb:(netB ns ps&&bookB n1 xs)
 ·have HR:=hide (newRR_no hb)
  go_enter Tryz.func58,Tryz.ntmps58
  go_wp2_with fail
  refine (c_specIsBook A1 A2 n1 c1 n2 c2 ns ps A n c xs _ (h1.ext x0) (h2.ext x0) (hs.ext x0) HNM.out).mono ?_
  rw [hb]
  rintro e w1 ⟨rfl,hx1⟩
  have hcl:=hx1.cell
  have hfr:=hx1.frozen
  have hz1:=hx1.size
  simp at hz1
  have hz2:w.heap.size+1<w1.heap.size:=by omega
  go_wp2
  rw [HR.out]
  refine bodyPost_ret (v:= .tuple #[.agg #[.slice none 0 0,.slice none 0 0,.slice none 0 0,.slice none 0 0,.slice none 0 0],.int .i64 1]) (by simp [results,Tryz.results58,go_sem,hcl]) rfl
   ⟨_,_,_,_,_,_,_,_,_,_,_,_,_,_,_,zeroR,rfl,fun h=>absurd h (by decide),?_⟩
  repeat (refine Ext.setCell ?_ (by first | (simp; done) | (simp; omega) | omega) _)
  exact x0.trans hx1
 ·have HR:=hide (newRR_yes hb)
  go_enter Tryz.func58,Tryz.ntmps58
  go_wp2_with fail
  refine (c_specIsBook A1 A2 n1 c1 n2 c2 ns ps A n c xs _ (h1.ext x0) (h2.ext x0) (hs.ext x0) HNM.out).mono ?_
  rw [hb]
  rintro e w1 ⟨rfl,hx1⟩
  have hcl:=hx1.cell
  have hz1:=hx1.size
  simp at hz1
  have hz2:w.heap.size<w1.heap.size:=by omega
  go_wp2_with fail
  refine (c_l33NewL A1 A2 n1 c1 n2 c2 ns ps A n c xs _ (h1.ext (x0.trans hx1)) (h2.ext (x0.trans hx1)) (hs.ext (x0.trans hx1)) m1 m2 m3).mono ?_
  rintro e w2 ⟨B1,B2,B3,B4,B5,k1,d1,k2,d2,k3,d3,k4,d4,k5,d5,r',rfl,ho,hl,hx2⟩
  clear hcl hz2
  have hx02:=hx1.trans hx2
  have hcl:=hx02.cell
  have hfr:=hx02.frozen
  have hz3:=hx2.size
  have hz2:w.heap.size+1<w2.heap.size:=by omega
  go_wp2
  rw [HR.out]
  refine bodyPost_ret (v:= .tuple #[.agg #[.slice B1 k1 d1,.slice B2 k2 d2,.slice B3 k3 d3,.slice B4 k4 d4,.slice B5 k5 d5],.int .i64 0]) (by simp [results,Tryz.results58,go_sem,hcl]) rfl
   ⟨_,_,_,_,_,_,_,_,_,_,_,_,_,_,_,r',rfl,fun _=>⟨⟨(ho.own.set5 (.inl (by omega)) _ _ _ _ _).wider (by omega) (by simp),(ho.r5.set5 (fun k hk e=>by have:=ho.r5.block_le hk; omega) _ _ _ _ _).base (by omega),fun q hq=>((ho.r6 q hq).set5 (fun k hk e=>by have:=(ho.r6 q hq).block_le hk; omega) _ _ _ _ _).base (by omega),ho.sep2⟩,hl⟩,?_⟩
  repeat (refine Ext.setCell ?_ (by first | (simp; done) | (simp; omega) | omega) _)
  exact x0.trans hx02
end Go.Proofs.YtinindjjapblcaaGreatDoor
