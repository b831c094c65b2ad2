/-
  IsReachable of the reference.
-/
import Derived.Test.YtinindjjapblcaaGreatDoorWa31
import Derived.Test.YtinindjjapblcaaGreatDoorWa26
import Derived.Test.YtinindjjapblcaaGreatDoorWa02
namespace Go.Proofs.YtinindjjapblcaaGreatDoor
open Go.RowKit
def KApR (lo:Nat) (nn:Int) (R:Room) (x:Event):Value→World→Prop:=fun v w=>∃(A1 A2 A3 A4 A5:Option Addr) (n1 c1 n2 c2 n3 c3 n4 c4 n5 c5:Nat) (r':Room) (lo' hi:Nat),v= .agg #[.slice A1 n1 c1,.slice A2 n2 c2,.slice A3 n3 c3,.slice A4 n4 c4,.slice A5 n5 c5]∧(appB nn R x=true→lo≤lo'∧hi≤w.heap.size∧ROwn w lo' hi A1 A2 A3 A4 A5 n1 c1 n2 c2 n3 c3 n4 c4 n5 c5 r'∧r'.Like (appR R x))
theorem stKApR (lo:Nat) (nn:Int) (R:Room) (x:Event):stK (KApR lo nn R x):=fun _ _ _ ⟨A1,A2,A3,A4,A5,n1,c1,n2,c2,n3,c3,n4,c4,n5,c5,r',lo',hi,h1,h2⟩ hx=>⟨A1,A2,A3,A4,A5,n1,c1,n2,c2,n3,c3,n4,c4,n5,c5,r',lo',hi,h1,fun hb=>let ⟨a,b,c,d⟩:=h2 hb; ⟨a,Nat.le_trans b hx.size,c.ext hx,d⟩⟩
def KAp (lo:Nat) (nn:Int) (R:Room) (x:Event):Value→World→Prop:=fun v w=>∃a,v= .tuple #[a,.bool (appB nn R x)]∧KApR lo nn R x a w
theorem stKAp (lo:Nat) (nn:Int) (R:Room) (x:Event):stK (KAp lo nn R x):=fun _ _ _ ⟨a,h1,h2⟩ hx=>⟨a,h1,stKApR _ _ _ _ _ _ _ h2 hx⟩
theorem KAp.of {lo:Nat} {nn:Int} {R:Room} {x:Event} {w w':World} {e:Ending} (h:RetAp nn R x w e w') (hlo:lo≤w.heap.size):∃v,e= .returned v∧KAp lo nn R x v w'∧Ext w w':=by
 obtain ⟨A1,A2,A3,A4,A5,n1,c1,n2,c2,n3,c3,n4,c4,n5,c5,r',rfl,h2,hx⟩:=h
 exact ⟨_,rfl,⟨_,rfl,A1,A2,A3,A4,A5,n1,c1,n2,c2,n3,c3,n4,c4,n5,c5,r',_,_,rfl,fun hb=>⟨hlo,Nat.le_refl _,h2 hb⟩⟩,hx⟩
theorem reach_ev {n:Int} {r:Room} (h:roomB n r=true) (hl:(roomEv r).length≤300):evsR n r=(roomEv r,0):=by unfold evsR evR; rw [if_pos h,if_neg (by omega)]
theorem reach_ev_no {n:Int} {r:Room} (h:roomB n r=false):evsR n r=([],1):=by unfold evsR; rw [if_neg (by simp [h])]
theorem reach_ev_long {n:Int} {r:Room} (h:roomB n r=true) (hl:300<(roomEv r).length):evsR n r=([],3):=by unfold evsR evR; rw [if_pos h,if_pos hl]
set_option maxHeartbeats 8000000 in
theorem c_specIsReachable (A1 A2 A3 A4 A5:Option Addr) (n1 c1 n2 c2 n3 c3 n4 c4 n5 c5:Nat) (r:Room) (w:World) (hat:RoomAt w A1 A2 A3 A4 A5 n1 c1 n2 c2 n3 c3 n4 c4 n5 c5 r) (hnm0:∀x∈r.ns,x.name.size≤1048576):
  Calls Tryz.prog 11 #[.agg #[.slice A1 n1 c1,.slice A2 n2 c2,.slice A3 n3 c3,.slice A4 n4 c4,.slice A5 n5 c5]] w (Ret (.bool (reachB n1 r)) w):=by
 have hin:=RoomIn.new w A1 A2 A3 A4 A5 n1 c1 n2 c2 n3 c3 n4 c4 n5 c5 32
 obtain ⟨hlt,y0,y1,y2,y3,y4⟩:=id hin
 go_enter Tryz.func11,Tryz.ntmps11
 go_wp2_with fail
 refine (c_specRoomEvents A1 A2 A3 A4 A5 n1 c1 n2 c2 n3 c3 n4 c4 n5 c5 r _ (hat.ext (Ext.alloc _ _)) hnm0).mono ?_
 clear hnm0
 cases hb:roomB (n1:Int) r
 ·have HR:=hide (reach_no hb)
  rw [reach_ev_no hb]
  rintro e w2 ⟨EA,en,ec,eg,rfl,hec,hem,heg,heo,hx2⟩
  go_wp2_with fail
  go_ret
  exact Ret.bool (by rw [HR.out]) hx2.box
 by_cases hlong:300<(roomEv r).length
 ·have HR:=hide (reach_long (n:=n1) hlong)
  rw [reach_ev_long hb hlong]
  rintro e w2 ⟨EA,en,ec,eg,rfl,hec,hem,heg,heo,hx2⟩
  go_wp2_with fail
  go_ret
  exact Ret.bool (by rw [HR.out]) hx2.box
 rw [reach_ev hb (by omega)]
 obtain ⟨m1,m2,m3,m4,a5,m5,hnm,hnet⟩:=roomGood A1 A2 A3 A4 A5 n1 c1 n2 c2 n3 c3 n4 c4 n5 c5 hat hb
 have HB:=hide hb
 have HEV:=hide (roomEv_ok hb (by omega))
 have hn1:=hat.s1.len
 have HN1:=hide hn1
 clear hnm hnet hb hn1
 rintro e w2 ⟨EA,en,ec,eg,rfl,hec,hem,heg,heo,hx2⟩
 have hx12:=hx2
 clear hlt y0 y1 y2 y3 y4
 obtain ⟨hlt,y0,y1,y2,y3,y4⟩:=hin.ext hx12
 have hes:=heo.slice event_len hec hem
 have HEN:=hide heo.1
 have hblkE:=fun b hb=>hes.blk (b:=b) hb
 go_wp2_with fail
 refine (c_l33New A1 A2 n1 c1 n2 c2 r.ns r.ps A3 n3 c3 r.xs _ (hat.s1.ext hx12.box) (hat.s2.ext hx12.box) (hat.s3.ext hx12.box) (by omega) (by omega) (by omega)).mono ?_
 rintro e w3 ⟨B1,B2,B3,B4,B5,k1,d1,k2,d2,k3,d3,k4,d4,k5,d5,r',rfl,hO,hOl,hOb,hx3⟩
 have hx13:=hx12.trans hx3
 have HAT:=hide (AtEv.start (n:=n1) hOl)
 clear hlt y0 y1 y2 y3 y4
 go_wp2_with fail
 have rB:=Row.new w3 32 [.slice B1 k1 d1,.slice B2 k2 d2,.slice B3 k3 d3,.slice B4 k4 d4,.slice B5 k5 d5]
 have hxg:Ext w3 (w3.alloc (.cells #[.slice B1 k1 d1,.slice B2 k2 d2,.slice B3 k3 d3,.slice B4 k4 d4,.slice B5 k5 d5] 32)):=Ext.alloc _ _
 generalize w3.alloc (.cells #[.slice B1 k1 d1,.slice B2 k2 d2,.slice B3 k3 d3,.slice B4 k4 d4,.slice B5 k5 d5] 32)=Wg at *
 have XG:=hx13.box.trans hxg
 have hing:=hin.ext (hx13.trans hxg)
 have hesg:=(hes.ext hx3).ext hxg
 have hatg:=hat.ext XG
 have hgE:∀b,blkOf EA en=some b→b≠w3.heap.size:=fun b hb=>by have:=hblkE b hb; have:=hx3.size; omega
 have hgR:∀b,RBlk A1 A2 A3 A4 A5 n1 n2 n3 n4 n5 r b→b≠w3.heap.size:=fun b hb=>by have:=RBlk.lt hat hb; have:=hx13.size; simp at this; omega
 have hgw:w.heap.size≠w3.heap.size:=by have:=hx13.size; simp at this; omega
 have hgl:=rB.lt
 have hsz3:w.heap.size≤w3.heap.size:=by have:=hx13.size; simp at this; omega
 have hemx:=hem
 go_loopw [6] (fun i wr=>∃k:Nat,k≤en∧i= .int .i64 k∧LoopR n1 r Wg wr w3.heap.size k) (fun i _=>en-(intOf i).toNat)
 case atStart=>exact ⟨0,Nat.zero_le _,rfl,⟨Turn.refl _,⟨B1,B2,B3,B4,B5,k1,d1,k2,d2,k3,d3,k4,d4,k5,d5,r',rB,hO.ext hxg,fun b hb=>by have:=RBlk.lt hO hb; omega,HAT.out⟩⟩⟩
 case round=>
  obtain ⟨k,hk,rfl,⟨htn,O1,O2,O3,O4,O5,o1,q1,o2,q2,o3,q3,o4,q4,o5,q5,R,hrow,hatR,hne,hAt⟩⟩:=hrel
  have XR:=XG.turn htn (fun b hb=>by omega)
  have rx:=fun (j:Nat) (v:Value) (h:Wg.cell? ⟨w.heap.size,j,none⟩=some v)=>(htn.cell hing.lt hgw).trans h
  have p0:=hrow.cell 0
  have p1:=hrow.cell 1
  have p2:=hrow.cell 2
  have p3:=hrow.cell 3
  have p4:=hrow.cell 4
  have pf:=hrow.frozen
  have pl:=hrow.lt
  simp only [List.getElem?_cons_zero,List.getElem?_cons_succ] at p0 p1 p2 p3 p4
  by_cases hklt:k<en
  ·obtain ⟨b,off,x,rfl,hbb,hxk,hc⟩:=(hesg.turn htn (fun b hb hS=>hgE b hb hS)).get hklt
   have tq0:=hc 0 _ rfl
   have tq1:=hc 1 _ rfl
   have tq2:=hc 2 _ rfl
   have tq3:=hc 3 _ rfl
   have tq4:=hc 4 _ rfl
   simp only [Nat.add_zero] at tq0
   have hev:=HEV.out x (List.mem_of_getElem? hxk)
   have HX:=hide hxk
   have hokR:=hAt.ok HB.out
   obtain rfl:o1=n1:=by rw [hatR.s1.len,hAt.ns]; exact HN1.out.symm
   have HAt:=hide hAt
   have hbl:=hbb
   clear hxk hc hAt rx
   go_wp2_with fail
   refine wp_region_KP [KC (.agg #[.slice O1 o1 q1,.slice O2 o2 q2,.slice O3 o3 q3,.slice O4 o4 q4,.slice O5 o5 q5]),KC (.slice (some ⟨b,off,none⟩) en ec),KC (.int .i64 (k:Int)),KC (.pointer (some ⟨b,off+k*5,none⟩)),KC (.agg #[.int .i64 x.kind,.int .i64 x.a,.int .i64 x.b,.int .i64 x.c,.int .i64 x.d]),KAp wr.heap.size o1 R x,KAp wr.heap.size o1 R x,KApR wr.heap.size o1 R x,KC (.bool (appB o1 R x)),KR wr.heap.size 32 [.slice none 0 0,.slice none 0 0,.slice none 0 0,.slice none 0 0,.slice none 0 0]]
    [0,1,2,3,4,5,6,7,9] [8] [[],[],[],[1,2],[1,2,3],[0,1,2,3,4],[0,1,2,3,4,5],[0,1,2,3,4,5,6],[0,1,2,3,4,5,6],[],[0,1,2,3,4,5,6,7,9],[0,1,2,3,4,5,6,7,8,9,10]] [] (.one [] 10 (.last [11])) (by kernel_rfl) (by kernel_rfl) (by intro c a w d v h; cases d <;> exact h) (by simp) ⟨stKC _,stKC _,stKC _,stKC _,stKC _,stKAp _ _ _ _,stKAp _ _ _ _,stKApR _ _ _ _,stKC _,stKR _ _ _,trivial⟩ ?_ ?_ ?_
   ·refine ⟨?_,?_,?_,?_,?_,?_,?_,?_,?_,trivial⟩
    ·intro ts wx hts hX hd
     obtain ⟨t0,ts0,rfl,hts0⟩:=vcons hts
     obtain ⟨t1,ts1,rfl,hts1⟩:=vcons hts0
     obtain ⟨t2,ts2,rfl,hts2⟩:=vcons hts1
     obtain ⟨t3,ts3,rfl,hts3⟩:=vcons hts2
     obtain ⟨t4,ts4,rfl,hts4⟩:=vcons hts3
     obtain ⟨t5,ts5,rfl,hts5⟩:=vcons hts4
     obtain ⟨t6,ts6,rfl,hts6⟩:=vcons hts5
     obtain ⟨t7,ts7,rfl,hts7⟩:=vcons hts6
     obtain ⟨t8,ts8,rfl,hts8⟩:=vcons hts7
     obtain ⟨t9,ts9,rfl,hts9⟩:=vcons hts8
     obtain ⟨t10,ts10,rfl,hts10⟩:=vcons hts9
     obtain ⟨t11,ts11,rfl,hts11⟩:=vcons hts10
     obtain rfl:=vnil hts11
     clear hts hts0 hts1 hts2 hts3 hts4 hts5 hts6 hts7 hts8 hts9 hts10 hts11
     simp only [putAll,nthO,Act.put,List.setIfInBounds_toArray,List.set_cons_succ,List.set_cons_zero]
     obtain ⟨z0,z1,z2,z3,z4,z5⟩:=(row_in hrow).ext hX
     go_wp2_with fail
     exact ⟨Ext.refl _,_,rfl,rfl⟩
    ·intro ts wx hts hX hd
     obtain ⟨t0,ts0,rfl,hts0⟩:=vcons hts
     obtain ⟨t1,ts1,rfl,hts1⟩:=vcons hts0
     obtain ⟨t2,ts2,rfl,hts2⟩:=vcons hts1
     obtain ⟨t3,ts3,rfl,hts3⟩:=vcons hts2
     obtain ⟨t4,ts4,rfl,hts4⟩:=vcons hts3
     obtain ⟨t5,ts5,rfl,hts5⟩:=vcons hts4
     obtain ⟨t6,ts6,rfl,hts6⟩:=vcons hts5
     obtain ⟨t7,ts7,rfl,hts7⟩:=vcons hts6
     obtain ⟨t8,ts8,rfl,hts8⟩:=vcons hts7
     obtain ⟨t9,ts9,rfl,hts9⟩:=vcons hts8
     obtain ⟨t10,ts10,rfl,hts10⟩:=vcons hts9
     obtain ⟨t11,ts11,rfl,hts11⟩:=vcons hts10
     obtain rfl:=vnil hts11
     clear hts hts0 hts1 hts2 hts3 hts4 hts5 hts6 hts7 hts8 hts9 hts10 hts11
     simp only [putAll,nthO,Act.put,List.setIfInBounds_toArray,List.set_cons_succ,List.set_cons_zero]
     go_wp2_with fail
     exact ⟨Ext.refl _,_,rfl,rfl⟩
    ·intro ts wx hts hX hd
     obtain ⟨t0,ts0,rfl,hts0⟩:=vcons hts
     obtain ⟨t1,ts1,rfl,hts1⟩:=vcons hts0
     obtain ⟨t2,ts2,rfl,hts2⟩:=vcons hts1
     obtain ⟨t3,ts3,rfl,hts3⟩:=vcons hts2
     obtain ⟨t4,ts4,rfl,hts4⟩:=vcons hts3
     obtain ⟨t5,ts5,rfl,hts5⟩:=vcons hts4
     obtain ⟨t6,ts6,rfl,hts6⟩:=vcons hts5
     obtain ⟨t7,ts7,rfl,hts7⟩:=vcons hts6
     obtain ⟨t8,ts8,rfl,hts8⟩:=vcons hts7
     obtain ⟨t9,ts9,rfl,hts9⟩:=vcons hts8
     obtain ⟨t10,ts10,rfl,hts10⟩:=vcons hts9
     obtain ⟨t11,ts11,rfl,hts11⟩:=vcons hts10
     obtain rfl:=vnil hts11
     clear hts hts0 hts1 hts2 hts3 hts4 hts5 hts6 hts7 hts8 hts9 hts10 hts11
     simp only [putAll,nthO,Act.put,List.setIfInBounds_toArray,List.set_cons_succ,List.set_cons_zero]
     go_wp2_with fail
     exact ⟨Ext.refl _,_,rfl,rfl⟩
    ·intro ts wx hts hX hd
     obtain ⟨t0,ts0,rfl,hts0⟩:=vcons hts
     obtain ⟨t1,ts1,rfl,hts1⟩:=vcons hts0
     obtain ⟨t2,ts2,rfl,hts2⟩:=vcons hts1
     obtain ⟨t3,ts3,rfl,hts3⟩:=vcons hts2
     obtain ⟨t4,ts4,rfl,hts4⟩:=vcons hts3
     obtain ⟨t5,ts5,rfl,hts5⟩:=vcons hts4
     obtain ⟨t6,ts6,rfl,hts6⟩:=vcons hts5
     obtain ⟨t7,ts7,rfl,hts7⟩:=vcons hts6
     obtain ⟨t8,ts8,rfl,hts8⟩:=vcons hts7
     obtain ⟨t9,ts9,rfl,hts9⟩:=vcons hts8
     obtain ⟨t10,ts10,rfl,hts10⟩:=vcons hts9
     obtain ⟨t11,ts11,rfl,hts11⟩:=vcons hts10
     obtain rfl:=vnil hts11
     clear hts hts0 hts1 hts2 hts3 hts4 hts5 hts6 hts7 hts8 hts9 hts10 hts11
     simp only [putAll,nthO,Act.put,List.setIfInBounds_toArray,List.set_cons_succ,List.set_cons_zero]
     obtain ⟨rfl,rfl,-⟩:=hd
     go_wp2_with fail
     exact ⟨Ext.refl _,_,rfl,rfl⟩
    ·intro ts wx hts hX hd
     obtain ⟨t0,ts0,rfl,hts0⟩:=vcons hts
     obtain ⟨t1,ts1,rfl,hts1⟩:=vcons hts0
     obtain ⟨t2,ts2,rfl,hts2⟩:=vcons hts1
     obtain ⟨t3,ts3,rfl,hts3⟩:=vcons hts2
     obtain ⟨t4,ts4,rfl,hts4⟩:=vcons hts3
     obtain ⟨t5,ts5,rfl,hts5⟩:=vcons hts4
     obtain ⟨t6,ts6,rfl,hts6⟩:=vcons hts5
     obtain ⟨t7,ts7,rfl,hts7⟩:=vcons hts6
     obtain ⟨t8,ts8,rfl,hts8⟩:=vcons hts7
     obtain ⟨t9,ts9,rfl,hts9⟩:=vcons hts8
     obtain ⟨t10,ts10,rfl,hts10⟩:=vcons hts9
     obtain ⟨t11,ts11,rfl,hts11⟩:=vcons hts10
     obtain rfl:=vnil hts11
     clear hts hts0 hts1 hts2 hts3 hts4 hts5 hts6 hts7 hts8 hts9 hts10 hts11
     simp only [putAll,nthO,Act.put,List.setIfInBounds_toArray,List.set_cons_succ,List.set_cons_zero]
     obtain ⟨rfl,rfl,rfl,-⟩:=hd
     have z0:=(hX.cell _ _ hbl).trans tq0
     have z1:=(hX.cell _ _ hbl).trans tq1
     have z2:=(hX.cell _ _ hbl).trans tq2
     have z3:=(hX.cell _ _ hbl).trans tq3
     have z4:=(hX.cell _ _ hbl).trans tq4
     go_wp2_with fail
     exact ⟨Ext.refl _,_,rfl,rfl⟩
    ·intro ts wx hts hX hd
     obtain ⟨t0,ts0,rfl,hts0⟩:=vcons hts
     obtain ⟨t1,ts1,rfl,hts1⟩:=vcons hts0
     obtain ⟨t2,ts2,rfl,hts2⟩:=vcons hts1
     obtain ⟨t3,ts3,rfl,hts3⟩:=vcons hts2
     obtain ⟨t4,ts4,rfl,hts4⟩:=vcons hts3
     obtain ⟨t5,ts5,rfl,hts5⟩:=vcons hts4
     obtain ⟨t6,ts6,rfl,hts6⟩:=vcons hts5
     obtain ⟨t7,ts7,rfl,hts7⟩:=vcons hts6
     obtain ⟨t8,ts8,rfl,hts8⟩:=vcons hts7
     obtain ⟨t9,ts9,rfl,hts9⟩:=vcons hts8
     obtain ⟨t10,ts10,rfl,hts10⟩:=vcons hts9
     obtain ⟨t11,ts11,rfl,hts11⟩:=vcons hts10
     obtain rfl:=vnil hts11
     clear hts hts0 hts1 hts2 hts3 hts4 hts5 hts6 hts7 hts8 hts9 hts10 hts11
     simp only [putAll,nthO,Act.put,List.setIfInBounds_toArray,List.set_cons_succ,List.set_cons_zero]
     obtain ⟨rfl,-,-,-,rfl,-⟩:=hd
     go_wp2_with fail
     refine (c_l33Apply O1 O2 O3 O4 O5 o1 q1 o2 q2 o3 q3 o4 q4 o5 q5 R x _ (hatR.ext hX) hokR hev).mono ?_
     intro e w5 hap
     obtain ⟨v,rfl,hkv,hx5⟩:=KAp.of hap hX.size
     go_wp2_with fail
     exact ⟨hx5,_,rfl,hkv⟩
    ·intro ts wx hts hX hd
     obtain ⟨t0,ts0,rfl,hts0⟩:=vcons hts
     obtain ⟨t1,ts1,rfl,hts1⟩:=vcons hts0
     obtain ⟨t2,ts2,rfl,hts2⟩:=vcons hts1
     obtain ⟨t3,ts3,rfl,hts3⟩:=vcons hts2
     obtain ⟨t4,ts4,rfl,hts4⟩:=vcons hts3
     obtain ⟨t5,ts5,rfl,hts5⟩:=vcons hts4
     obtain ⟨t6,ts6,rfl,hts6⟩:=vcons hts5
     obtain ⟨t7,ts7,rfl,hts7⟩:=vcons hts6
     obtain ⟨t8,ts8,rfl,hts8⟩:=vcons hts7
     obtain ⟨t9,ts9,rfl,hts9⟩:=vcons hts8
     obtain ⟨t10,ts10,rfl,hts10⟩:=vcons hts9
     obtain ⟨t11,ts11,rfl,hts11⟩:=vcons hts10
     obtain rfl:=vnil hts11
     clear hts hts0 hts1 hts2 hts3 hts4 hts5 hts6 hts7 hts8 hts9 hts10 hts11
     simp only [putAll,nthO,Act.put,List.setIfInBounds_toArray,List.set_cons_succ,List.set_cons_zero]
     obtain ⟨-,-,-,-,-,h5,-⟩:=hd
     go_wp2_with fail
     exact ⟨Ext.refl _,_,rfl,h5⟩
    ·intro ts wx hts hX hd
     obtain ⟨t0,ts0,rfl,hts0⟩:=vcons hts
     obtain ⟨t1,ts1,rfl,hts1⟩:=vcons hts0
     obtain ⟨t2,ts2,rfl,hts2⟩:=vcons hts1
     obtain ⟨t3,ts3,rfl,hts3⟩:=vcons hts2
     obtain ⟨t4,ts4,rfl,hts4⟩:=vcons hts3
     obtain ⟨t5,ts5,rfl,hts5⟩:=vcons hts4
     obtain ⟨t6,ts6,rfl,hts6⟩:=vcons hts5
     obtain ⟨t7,ts7,rfl,hts7⟩:=vcons hts6
     obtain ⟨t8,ts8,rfl,hts8⟩:=vcons hts7
     obtain ⟨t9,ts9,rfl,hts9⟩:=vcons hts8
     obtain ⟨t10,ts10,rfl,hts10⟩:=vcons hts9
     obtain ⟨t11,ts11,rfl,hts11⟩:=vcons hts10
     obtain rfl:=vnil hts11
     clear hts hts0 hts1 hts2 hts3 hts4 hts5 hts6 hts7 hts8 hts9 hts10 hts11
     simp only [putAll,nthO,Act.put,List.setIfInBounds_toArray,List.set_cons_succ,List.set_cons_zero]
     obtain ⟨-,-,-,-,-,-,⟨a,rfl,h5⟩,-⟩:=hd
     go_wp2_with fail
     exact ⟨Ext.refl _,_,rfl,h5⟩
    ·intro ts wx hts hX hd
     obtain ⟨t0,ts0,rfl,hts0⟩:=vcons hts
     obtain ⟨t1,ts1,rfl,hts1⟩:=vcons hts0
     obtain ⟨t2,ts2,rfl,hts2⟩:=vcons hts1
     obtain ⟨t3,ts3,rfl,hts3⟩:=vcons hts2
     obtain ⟨t4,ts4,rfl,hts4⟩:=vcons hts3
     obtain ⟨t5,ts5,rfl,hts5⟩:=vcons hts4
     obtain ⟨t6,ts6,rfl,hts6⟩:=vcons hts5
     obtain ⟨t7,ts7,rfl,hts7⟩:=vcons hts6
     obtain ⟨t8,ts8,rfl,hts8⟩:=vcons hts7
     obtain ⟨t9,ts9,rfl,hts9⟩:=vcons hts8
     obtain ⟨t10,ts10,rfl,hts10⟩:=vcons hts9
     obtain ⟨t11,ts11,rfl,hts11⟩:=vcons hts10
     obtain rfl:=vnil hts11
     clear hts hts0 hts1 hts2 hts3 hts4 hts5 hts6 hts7 hts8 hts9 hts10 hts11
     simp only [putAll,nthO,Act.put,List.setIfInBounds_toArray,List.set_cons_succ,List.set_cons_zero]
     go_wp2_with fail
     exact ⟨Ext.alloc _ _,_,rfl,⟨_,rfl,Row.new _ _ _,hX.size⟩⟩
   ·refine ⟨?_,trivial⟩
    intro ts wx hts hX hd
    obtain ⟨t0,ts0,rfl,hts0⟩:=vcons hts
    obtain ⟨t1,ts1,rfl,hts1⟩:=vcons hts0
    obtain ⟨t2,ts2,rfl,hts2⟩:=vcons hts1
    obtain ⟨t3,ts3,rfl,hts3⟩:=vcons hts2
    obtain ⟨t4,ts4,rfl,hts4⟩:=vcons hts3
    obtain ⟨t5,ts5,rfl,hts5⟩:=vcons hts4
    obtain ⟨t6,ts6,rfl,hts6⟩:=vcons hts5
    obtain ⟨t7,ts7,rfl,hts7⟩:=vcons hts6
    obtain ⟨t8,ts8,rfl,hts8⟩:=vcons hts7
    obtain ⟨t9,ts9,rfl,hts9⟩:=vcons hts8
    obtain ⟨t10,ts10,rfl,hts10⟩:=vcons hts9
    obtain ⟨t11,ts11,rfl,hts11⟩:=vcons hts10
    obtain rfl:=vnil hts11
    clear hts hts0 hts1 hts2 hts3 hts4 hts5 hts6 hts7 hts8 hts9 hts10 hts11
    simp only [putAll,nthO,Act.put,List.setIfInBounds_toArray,List.set_cons_succ,List.set_cons_zero]
    obtain ⟨-,-,-,-,-,-,⟨a,rfl,h5⟩,-⟩:=hd
    repeat (go_big_quiet_step (fail))
    exact wpQuiet_nil ⟨_,rfl,rfl⟩
   intro ts wx hts hX hd
   obtain ⟨t0,ts0,rfl,hts0⟩:=vcons hts
   obtain ⟨t1,ts1,rfl,hts1⟩:=vcons hts0
   obtain ⟨t2,ts2,rfl,hts2⟩:=vcons hts1
   obtain ⟨t3,ts3,rfl,hts3⟩:=vcons hts2
   obtain ⟨t4,ts4,rfl,hts4⟩:=vcons hts3
   obtain ⟨t5,ts5,rfl,hts5⟩:=vcons hts4
   obtain ⟨t6,ts6,rfl,hts6⟩:=vcons hts5
   obtain ⟨t7,ts7,rfl,hts7⟩:=vcons hts6
   obtain ⟨t8,ts8,rfl,hts8⟩:=vcons hts7
   obtain ⟨t9,ts9,rfl,hts9⟩:=vcons hts8
   obtain ⟨t10,ts10,rfl,hts10⟩:=vcons hts9
   obtain ⟨t11,ts11,rfl,hts11⟩:=vcons hts10
   obtain rfl:=vnil hts11
   clear hts hts0 hts1 hts2 hts3 hts4 hts5 hts6 hts7 hts8 hts9 hts10 hts11
   simp only [putAll,Act.put,List.setIfInBounds_toArray,List.set_cons_succ,List.set_cons_zero]
   obtain ⟨-,-,-,-,-,-,-,⟨C1,C2,C3,C4,C5,j1,f1,j2,f2,j3,f3,j4,f4,j5,f5,r'',loC,hiC,rfl,himp⟩,⟨g,rfl,hg,hgle⟩,h8,-⟩:=hd
   obtain rfl:=h8
   have u0:=hg.cell 0
   have u1:=hg.cell 1
   have u2:=hg.cell 2
   have u3:=hg.cell 3
   have u4:=hg.cell 4
   have uf:=hg.frozen
   have ul:=hg.lt
   simp only [List.getElem?_cons_zero,List.getElem?_cons_succ] at u0 u1 u2 u3 u4
   simp only [wpPhT,pickL,nthO]
   refine wpQuiet_nil ?_
   go_wp2_with fail
   refine ⟨fun _ h=>(by cases h),?_⟩
   repeat (go_big_quiet_step (fail))
   refine wpQuiet_nil ?_
   have rC:=five_row (u0:= .slice C1 j1 f1) (u1:= .slice C2 j2 f2) (u2:= .slice C3 j3 f3) (u3:= .slice C4 j4 f4) (u4:= .slice C5 j5 f5) hg
   have tC:=(Turn.refl (S:=fun b=>b=g) wx).five (g:=g) rfl (.slice C1 j1 f1) (.slice C2 j2 f2) (.slice C3 j3 f3) (.slice C4 j4 f4) (.slice C5 j5 f5)
   have hX5:Ext wr (((((wx.setCell ⟨g,0,none⟩ (.slice C1 j1 f1)).setCell ⟨g,1,none⟩ (.slice C2 j2 f2)).setCell ⟨g,2,none⟩ (.slice C3 j3 f3)).setCell ⟨g,3,none⟩ (.slice C4 j4 f4)).setCell ⟨g,4,none⟩ (.slice C5 j5 f5)):=hX.turn tC (fun b hb=>by omega)
   have himp5:appB (o1:Int) R x=true→wr.heap.size≤loC∧ROwn (((((wx.setCell ⟨g,0,none⟩ (.slice C1 j1 f1)).setCell ⟨g,1,none⟩ (.slice C2 j2 f2)).setCell ⟨g,2,none⟩ (.slice C3 j3 f3)).setCell ⟨g,3,none⟩ (.slice C4 j4 f4)).setCell ⟨g,4,none⟩ (.slice C5 j5 f5)) loC hiC C1 C2 C3 C4 C5 j1 f1 j2 f2 j3 f3 j4 f4 j5 f5 r''∧r''.Like (appR R x):=fun hb=>let ⟨h1,_,h3,h4⟩:=himp hb; ⟨h1,h3.turnR tC (fun b hb=>by subst hb; exact ⟨_,hg⟩),h4⟩
   generalize (((((wx.setCell ⟨g,0,none⟩ (.slice C1 j1 f1)).setCell ⟨g,1,none⟩ (.slice C2 j2 f2)).setCell ⟨g,2,none⟩ (.slice C3 j3 f3)).setCell ⟨g,3,none⟩ (.slice C4 j4 f4)).setCell ⟨g,4,none⟩ (.slice C5 j5 f5))=w5 at *
   clear u0 u1 u2 u3 u4 uf ul tC himp hg hX
   have hrow5:=hrow.ext hX5
   cases hab:appB (o1:Int) R x
   ·have HR:=hide (HAt.out.stop HX.out hab)
    clear himp5
    go_wp2_with fail
    go_ret
    exact Ret.bool (by rw [HR.out]) (XR.trans hX5)
   ·obtain ⟨hlo5,hO5,hl5⟩:=himp5 hab
    have HST:=hide (HAt.out.step HX.out hab hl5)
    have HO5:=hide hO5
    clear himp5 hO5 hl5 p0 p1 p2 p3 p4 pf pl
    have p0:=hrow5.cell 0
    have p1:=hrow5.cell 1
    have p2:=hrow5.cell 2
    have p3:=hrow5.cell 3
    have p4:=hrow5.cell 4
    have pf:=hrow5.frozen
    have pl:=hrow5.lt
    simp only [List.getElem?_cons_zero,List.getElem?_cons_succ] at p0 p1 p2 p3 p4
    have hgl2:=hrow.lt
    obtain ⟨ul,u0,u1,u2,u3,u4⟩:=row_in rC
    go_wp2_with fail
    go_roundw
    case rel=>
     have t5:=(Turn.refl (S:=fun b=>b=w3.heap.size) w5).five (g:=w3.heap.size) rfl (.slice C1 j1 f1) (.slice C2 j2 f2) (.slice C3 j3 f3) (.slice C4 j4 f4) (.slice C5 j5 f5)
     refine ⟨k+1,by omega,by go_num,⟨(htn.trans (Turn.of_ext hX5)).trans t5,⟨C1,C2,C3,C4,C5,j1,f1,j2,f2,j3,f3,j4,f4,j5,f5,r'',five_row hrow5,(HO5.out.turnR t5 (fun b hb=>by subst hb; exact ⟨_,hrow5⟩)).at_,fun b hb=> ?_,HST.out⟩⟩⟩
     have hq1:=HO5.out.rblk hb
     omega
    case measure=>simp [intOf]; omega
  ·obtain rfl:en=k:=by omega
   obtain ⟨hre,_⟩:=hAt.done HEN.out HB.out (by omega)
   have HRE:=hide hre
   clear hre rx
   go_wp2_with fail
   go_ret
   exact Ret.bool (by rw [HRE.out]) XR
end Go.Proofs.YtinindjjapblcaaGreatDoor
