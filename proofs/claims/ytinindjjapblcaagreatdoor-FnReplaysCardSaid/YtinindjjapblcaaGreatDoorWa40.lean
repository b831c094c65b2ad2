/-
  ReplayEvents of the reference.
-/
import Derived.Test.YtinindjjapblcaaGreatDoorWa39
import Derived.Test.YtinindjjapblcaaGreatDoorWa32
import Derived.Test.YtinindjjapblcaaGreatDoorWa21
namespace Go.Proofs.YtinindjjapblcaaGreatDoor
open Go.RowKit
set_option maxHeartbeats 8000000 in
theorem c_specReplayEvents (A1 A2:Option Addr) (n1 c1 n2 c2:Nat) (ns:List Node) (ps:List Pipe) (A:Option Addr) (n c:Nat) (xs:List Contract) (w:World) (h1:SliceOf w 3 Node.cells A1 n1 c1 ns) (h2:SliceOf w 5 Pipe.cells A2 n2 c2 ps) (hs:SliceOf w 8 Contract.cells A n c xs) (m1:n1≤1048576) (m2:n2≤1048576) (m3:n≤1048576) (hnm:∀x∈ns,x.name.size≤1048576) (l:List UInt8) (hl:l.length≤1048576):
  Calls Tryz.prog 16 #[.agg #[.slice A1 n1 c1,.slice A2 n2 c2],.slice A n c,.string (mkB l)] w (RetRp (repV n1 ns ps xs l) w):=by
 have x0:Ext w ((w.alloc (.cells #[.slice A1 n1 c1,.slice A2 n2 c2] 27)).alloc (.cells #[.slice none 0 0,.slice none 0 0,.slice none 0 0,.slice none 0 0,.slice none 0 0] 32)):=(Ext.alloc _ _).and_alloc _
 have HNM:=hide hnm
 clear hnm
 have hRes:Row ((w.alloc (.cells #[.slice A1 n1 c1,.slice A2 n2 c2] 27)).alloc (.cells #[.slice none 0 0,.slice none 0 0,.slice none 0 0,.slice none 0 0,.slice none 0 0] 32)) (w.heap.size+1) 32 [.slice none 0 0,.slice none 0 0,.slice none 0 0,.slice none 0 0,.slice none 0 0]:=Row.newG (W:=(w.alloc (.cells #[.slice A1 n1 c1,.slice A2 n2 c2] 27))) 32 [.slice none 0 0,.slice none 0 0,.slice none 0 0,.slice none 0 0,.slice none 0 0] (by simp)
 cases hb:(netB ns ps&&bookB n1 xs)
 ·have HR:=hide (show repV n1 ns ps xs l=(zeroR,0,1) by unfold repV; rw [if_neg (by rw [hb]; decide)])
  have HN:=hide (newRR_no hb)
  go_enter Tryz.func16,Tryz.ntmps16
  go_wp2_with fail
  refine (c_specNewRoomL A1 A2 n1 c1 n2 c2 ns ps A n c xs _ (h1.ext x0) (h2.ext x0) (hs.ext x0) m1 m2 m3 HNM.out).mono ?_
  rw [HN.out]
  rintro e w1 ⟨B1,B2,B3,B4,B5,k1,d1,k2,d2,k3,d3,k4,d4,k5,d5,r',rfl,-,hx1⟩
  have hcl:=hx1.cell
  have hfr:=hx1.frozen
  have hz1:=hx1.size
  simp at hz1
  have hz2:w.heap.size+1<w1.heap.size:=by omega
  have hres:=hRes.ext hx1
  have hRF:=(five_row (u0:= .slice none 0 0) (u1:= .slice none 0 0) (u2:= .slice none 0 0) (u3:= .slice none 0 0) (u4:= .slice none 0 0) hres).ext (Ext.alloc _ (.cells #[.slice B1 k1 d1,.slice B2 k2 d2,.slice B3 k3 d3,.slice B4 k4 d4,.slice B5 k5 d5] 32))
  have z0:=hRF.cell 0
  have z1:=hRF.cell 1
  have z2:=hRF.cell 2
  have z3:=hRF.cell 3
  have z4:=hRF.cell 4
  simp only [List.getElem?_cons_zero,List.getElem?_cons_succ] at z0 z1 z2 z3 z4
  have t5:=(Turn.refl (S:=fun b=>b=w.heap.size+1) w1).five (g:=w.heap.size+1) rfl (.slice none 0 0) (.slice none 0 0) (.slice none 0 0) (.slice none 0 0) (.slice none 0 0)
  have HX:=hide (((x0.trans hx1).turn t5 (fun b hb=>by omega)).and_alloc (.cells #[.slice B1 k1 d1,.slice B2 k2 d2,.slice B3 k3 d3,.slice B4 k4 d4,.slice B5 k5 d5] 32))
  clear hRF hres t5
  go_wp2
  rw [HR.out]
  refine bodyPost_ret (v:= .tuple #[.agg #[.slice none 0 0,.slice none 0 0,.slice none 0 0,.slice none 0 0,.slice none 0 0],.int .i64 0,.int .i64 1]) (by simp [results,Tryz.results16,go_sem,z0,z1,z2,z3,z4]) rfl
   ⟨_,_,_,_,_,_,_,_,_,_,_,_,_,_,_,zeroR,rfl,zero_own _ _ _,⟨rfl,rfl,rfl,rfl,rfl⟩,HX.out⟩
 have HN:=hide (newRR_yes hb)
 go_enter Tryz.func16,Tryz.ntmps16
 go_wp2_with fail
 refine (c_specNewRoomL A1 A2 n1 c1 n2 c2 ns ps A n c xs _ (h1.ext x0) (h2.ext x0) (hs.ext x0) m1 m2 m3 HNM.out).mono ?_
 rw [HN.out]
 rintro e w1 ⟨B1,B2,B3,B4,B5,k1,d1,k2,d2,k3,d3,k4,d4,k5,d5,r',rfl,hLR,hx1⟩
 obtain ⟨hLR,hOl⟩:=hLR rfl
 have hO:=hLR.own
 clear hLR
 have hz1:=hx1.size
 simp at hz1
 have rB:=Row.new w1 32 [.slice B1 k1 d1,.slice B2 k2 d2,.slice B3 k3 d3,.slice B4 k4 d4,.slice B5 k5 d5]
 have hxg:Ext w1 (w1.alloc (.cells #[.slice B1 k1 d1,.slice B2 k2 d2,.slice B3 k3 d3,.slice B4 k4 d4,.slice B5 k5 d5] 32)):=Ext.alloc _ _
 have X1:=(x0.trans hx1).trans hxg
 have hx1g:=hx1.trans hxg
 go_wp2_with fail
 generalize w1.alloc (.cells #[.slice B1 k1 d1,.slice B2 k2 d2,.slice B3 k3 d3,.slice B4 k4 d4,.slice B5 k5 d5] 32)=W1 at *
 refine (c_specRecoverEvents l hl _).mono ?_
 rintro e w2 ⟨EA,ec,rfl,heo,heb,hx2⟩
 have X2:=X1.trans hx2
 have hres:=hRes.ext (hx1g.trans hx2)
 have rB2:=rB.ext hx2
 have hO2:=(hO.ext hxg).ext hx2
 have hzg:=hxg.size
 have hz2:=hx2.size
 by_cases hlong:20000<l.length
 ·have hE:recR l=([],0,3):=by unfold recR; rw [if_pos hlong]
  have HR:=hide (show repV n1 ns ps xs l=(zeroR,0,3) by unfold repV; rw [if_pos hb,if_pos hlong])
  rw [hE] at heo ⊢
  have r0:=(hres).cell 0
  have r1:=(hres).cell 1
  have r2:=(hres).cell 2
  have r3:=(hres).cell 3
  have r4:=(hres).cell 4
  have rf:=(hres).frozen
  have rl:=(hres).lt
  simp only [List.getElem?_cons_zero,List.getElem?_cons_succ] at r0 r1 r2 r3 r4
  have hRF:=five_row (u0:= .slice none 0 0) (u1:= .slice none 0 0) (u2:= .slice none 0 0) (u3:= .slice none 0 0) (u4:= .slice none 0 0) hres
  have z0:=hRF.cell 0
  have z1:=hRF.cell 1
  have z2:=hRF.cell 2
  have z3:=hRF.cell 3
  have z4:=hRF.cell 4
  simp only [List.getElem?_cons_zero,List.getElem?_cons_succ] at z0 z1 z2 z3 z4
  have t5:=(Turn.refl (S:=fun b=>b=w.heap.size+1) w2).five (g:=w.heap.size+1) rfl (.slice none 0 0) (.slice none 0 0) (.slice none 0 0) (.slice none 0 0) (.slice none 0 0)
  have HF:=hide (show RetRp (zeroR,0,3) w (.returned (.tuple #[.agg #[.slice none 0 0,.slice none 0 0,.slice none 0 0,.slice none 0 0,.slice none 0 0],.int .i64 0,.int .i64 3])) _ from
   ⟨_,_,_,_,_,_,_,_,_,_,_,_,_,_,_,zeroR,rfl,zero_own _ _ _,⟨rfl,rfl,rfl,rfl,rfl⟩,X2.turn t5 (fun b hb=>by omega)⟩)
  clear hRF hres t5
  go_wp2_with fail
  rw [HR.out]
  refine bodyPost_ret (v:= .tuple #[.agg #[.slice none 0 0,.slice none 0 0,.slice none 0 0,.slice none 0 0,.slice none 0 0],.int .i64 0,.int .i64 3]) (by simp [results,Tryz.results16,go_sem,z0,z1,z2,z3,z4]) rfl ?_
  exact HF.out
 have hE:recR l=(recS l,(l.length:Int)-longL l,0):=by unfold recR; rw [if_neg hlong]
 rw [hE] at heo heb ⊢
 simp only at heo heb
 have HR:=hide (show repV n1 ns ps xs l=((replR n1 (newR ns ps xs) (recS l)).1,((replR n1 (newR ns ps xs) (recS l)).2:Int),0) by unfold repV; rw [if_pos hb,if_neg hlong])
 have HB:=hide (newR_val (k:=n1) hb)
 have HEV:=hide (show ∀e∈recS l,evB e=true from recL_valid _ _ _)
 have h300:(recS l).length≤300:=recL_len (splitL 10 l).dropLast maxEv 1
 generalize recS l=es at *
 have hes:=heo.slice event_len
 have hgE:∀b,blkOf EA es.length=some b→b≠w1.heap.size:=fun b hb=>by have:=heb b hb; have:=rB.lt; omega
 have hR0:roomB n1 (newR ns ps xs)=true:=HB.out
 obtain ⟨R0,HR0⟩:∃R0,Hid (newR ns ps xs=R0):=⟨_,hide rfl⟩
 have HNS:Hid (R0.ns=ns):=hide (by rw [←HR0.out]; rfl)
 have HN1:=hide h1.len
 have hrr:=rB2.lt
 rw [HR0.out] at hR0 hOl HR
 have HVR:=hide hR0
 have hec:=heo.2.1
 have hem:=heo.2.2.1
 clear hR0 heo heb hx1g
 go_wp2_with fail
 go_loopw [14,15] (fun v i wr=>∃k m:Nat,k≤es.length∧v= .int .i64 m∧i= .int .i64 k∧LoopP n1 R0 es w.heap.size w2 wr w1.heap.size k m) (fun _ i _=>es.length-(intOf i).toNat)
 case atStart=>exact ⟨0,0,Nat.zero_le _,rfl,rfl,⟨Turn.refl _,⟨B1,B2,B3,B4,B5,k1,d1,k2,d2,k3,d3,k4,d4,k5,d5,r',rB2,hO2.wider (by simp; omega) (by omega),fun b hb=>by have:=(hO.rblk hb).2; omega,hOl,rfl⟩⟩⟩
 case round=>
  obtain ⟨k,m,hk,rfl,rfl,⟨htn,O1,O2,O3,O4,O5,o1,q1,o2,q2,o3,q3,o4,q4,o5,q5,R,hrow,hRo,hne,hLk,hmm⟩⟩:=hrel
  have XR:=X2.turn htn (fun b hb=>by omega)
  have hm3:m≤300:=by
   have:=replR_count (n:=(n1:Int)) (es.take k) (R0,0)
   have h2:(es.take k).length≤es.length:=by rw [List.length_take]; omega
   rw [hmm]; unfold replR; simp only [Nat.zero_add] at this; omega
  have p0:=hrow.cell 0
  have p1:=hrow.cell 1
  have p2:=hrow.cell 2
  have p3:=hrow.cell 3
  have p4:=hrow.cell 4
  have pf:=hrow.frozen
  have pl:=hrow.lt
  simp only [List.getElem?_cons_zero,List.getElem?_cons_succ] at p0 p1 p2 p3 p4
  have HLK:=hide hLk
  have HMM:=hide hmm
  clear hLk hmm
  by_cases hklt:k<es.length
  ·obtain ⟨b,off,x,rfl,hbb,hxk,hc⟩:=(hes.turn htn (fun b hb hS=>hgE b hb hS)).get hklt
   have tq0:=hc 0 _ rfl
   have tq1:=hc 1 _ rfl
   have tq2:=hc 2 _ rfl
   have tq3:=hc 3 _ rfl
   have tq4:=hc 4 _ rfl
   simp only [Nat.add_zero] at tq0
   have hev:=HEV.out x (List.mem_of_getElem? hxk)
   have HX:=hide hxk
   have hokR:roomB n1 R=true:=by rw [roomB_like HLK.out]; exact replR_ok HVR.out _
   have ho1:o1=n1:=by rw [hRo.at_.s1.len,HLK.out.1,replR_ns,HNS.out]; exact HN1.out.symm
   have HO1:=hide ho1
   have hatR:=hRo.at_
   subst ho1
   have e1:IntKind.i64.wrap ((m:Int)+1)=((m+1:Nat):Int):=by rw [IntWalk.i64_in _ (by omega)]; omega
   have hbl:=hbb
   clear hxk hc
   go_wp2_with fail
   refine wp_region_KP [KC (.agg #[.slice O1 o1 q1,.slice O2 o2 q2,.slice O3 o3 q3,.slice O4 o4 q4,.slice O5 o5 q5]),KC (.slice (some ⟨b,off,none⟩) es.length ec),KC (.int .i64 (k:Int)),KC (.pointer (some ⟨b,off+k*5,none⟩)),KC (.agg #[.int .i64 x.kind,.int .i64 x.a,.int .i64 x.b,.int .i64 x.c,.int .i64 x.d]),KAp wr.heap.size o1 R x,KAp wr.heap.size o1 R x,KApR wr.heap.size o1 R x,KC (.bool (appB o1 R x)),KR wr.heap.size 32 [.slice none 0 0,.slice none 0 0,.slice none 0 0,.slice none 0 0,.slice none 0 0]]
    [0,1,2,3,4,5,6,7,9] [8] [[],[],[],[1,2],[1,2,3],[0,1,2,3,4],[0,1,2,3,4,5],[0,1,2,3,4,5,6],[0,1,2,3,4,5,6],[],[0,1,2,3,4,5,6,7,9],[0,1,2,3,4,5,6,7,8,9,10]] [] (.one [] 10 (.last [11])) (by kernel_rfl) (by kernel_rfl) (by intro c a w d v h; cases d <;> exact h) (by simp) ⟨stKC _,stKC _,stKC _,stKC _,stKC _,stKAp _ _ _ _,stKAp _ _ _ _,stKApR _ _ _ _,stKC _,stKR _ _ _,trivial⟩ ?_ ?_ ?_
   ·refine ⟨?_,?_,?_,?_,?_,?_,?_,?_,?_,trivial⟩
    ·intro ts wx hts hX hd
     obtain ⟨t0,ts0,rfl,hts0⟩:=vcons hts
     obtain ⟨t1,ts1,rfl,hts1⟩:=vcons hts0
     obtain ⟨t2,ts2,rfl,hts2⟩:=vcons hts1
     obtain ⟨t3,ts3,rfl,hts3⟩:=vcons hts2
     obtain ⟨t4,ts4,rfl,hts4⟩:=vcons hts3
     obtain ⟨t5,ts5,rfl,hts5⟩:=vcons hts4
     obtain ⟨t6,ts6,rfl,hts6⟩:=vcons hts5
     obtain ⟨t7,ts7,rfl,hts7⟩:=vcons hts6
     obtain ⟨t8,ts8,rfl,hts8⟩:=vcons hts7
     obtain ⟨t9,ts9,rfl,hts9⟩:=vcons hts8
     obtain ⟨t10,ts10,rfl,hts10⟩:=vcons hts9
     obtain ⟨t11,ts11,rfl,hts11⟩:=vcons hts10
     obtain rfl:=vnil hts11
     clear hts hts0 hts1 hts2 hts3 hts4 hts5 hts6 hts7 hts8 hts9 hts10 hts11
     simp only [putAll,nthO,Act.put,List.setIfInBounds_toArray,List.set_cons_succ,List.set_cons_zero]
     obtain ⟨z0,z1,z2,z3,z4,z5⟩:=(row_in hrow).ext hX
     go_wp2_with fail
     exact ⟨Ext.refl _,_,rfl,rfl⟩
    ·intro ts wx hts hX hd
     obtain ⟨t0,ts0,rfl,hts0⟩:=vcons hts
     obtain ⟨t1,ts1,rfl,hts1⟩:=vcons hts0
     obtain ⟨t2,ts2,rfl,hts2⟩:=vcons hts1
     obtain ⟨t3,ts3,rfl,hts3⟩:=vcons hts2
     obtain ⟨t4,ts4,rfl,hts4⟩:=vcons hts3
     obtain ⟨t5,ts5,rfl,hts5⟩:=vcons hts4
     obtain ⟨t6,ts6,rfl,hts6⟩:=vcons hts5
     obtain ⟨t7,ts7,rfl,hts7⟩:=vcons hts6
     obtain ⟨t8,ts8,rfl,hts8⟩:=vcons hts7
     obtain ⟨t9,ts9,rfl,hts9⟩:=vcons hts8
     obtain ⟨t10,ts10,rfl,hts10⟩:=vcons hts9
     obtain ⟨t11,ts11,rfl,hts11⟩:=vcons hts10
     obtain rfl:=vnil hts11
     clear hts hts0 hts1 hts2 hts3 hts4 hts5 hts6 hts7 hts8 hts9 hts10 hts11
     simp only [putAll,nthO,Act.put,List.setIfInBounds_toArray,List.set_cons_succ,List.set_cons_zero]
     go_wp2_with fail
     exact ⟨Ext.refl _,_,rfl,rfl⟩
    ·intro ts wx hts hX hd
     obtain ⟨t0,ts0,rfl,hts0⟩:=vcons hts
     obtain ⟨t1,ts1,rfl,hts1⟩:=vcons hts0
     obtain ⟨t2,ts2,rfl,hts2⟩:=vcons hts1
     obtain ⟨t3,ts3,rfl,hts3⟩:=vcons hts2
     obtain ⟨t4,ts4,rfl,hts4⟩:=vcons hts3
     obtain ⟨t5,ts5,rfl,hts5⟩:=vcons hts4
     obtain ⟨t6,ts6,rfl,hts6⟩:=vcons hts5
     obtain ⟨t7,ts7,rfl,hts7⟩:=vcons hts6
     obtain ⟨t8,ts8,rfl,hts8⟩:=vcons hts7
     obtain ⟨t9,ts9,rfl,hts9⟩:=vcons hts8
     obtain ⟨t10,ts10,rfl,hts10⟩:=vcons hts9
     obtain ⟨t11,ts11,rfl,hts11⟩:=vcons hts10
     obtain rfl:=vnil hts11
     clear hts hts0 hts1 hts2 hts3 hts4 hts5 hts6 hts7 hts8 hts9 hts10 hts11
     simp only [putAll,nthO,Act.put,List.setIfInBounds_toArray,List.set_cons_succ,List.set_cons_zero]
     go_wp2_with fail
     exact ⟨Ext.refl _,_,rfl,rfl⟩
    ·intro ts wx hts hX hd
     obtain ⟨t0,ts0,rfl,hts0⟩:=vcons hts
     obtain ⟨t1,ts1,rfl,hts1⟩:=vcons hts0
     obtain ⟨t2,ts2,rfl,hts2⟩:=vcons hts1
     obtain ⟨t3,ts3,rfl,hts3⟩:=vcons hts2
     obtain ⟨t4,ts4,rfl,hts4⟩:=vcons hts3
     obtain ⟨t5,ts5,rfl,hts5⟩:=vcons hts4
     obtain ⟨t6,ts6,rfl,hts6⟩:=vcons hts5
     obtain ⟨t7,ts7,rfl,hts7⟩:=vcons hts6
     obtain ⟨t8,ts8,rfl,hts8⟩:=vcons hts7
     obtain ⟨t9,ts9,rfl,hts9⟩:=vcons hts8
     obtain ⟨t10,ts10,rfl,hts10⟩:=vcons hts9
     obtain ⟨t11,ts11,rfl,hts11⟩:=vcons hts10
     obtain rfl:=vnil hts11
     clear hts hts0 hts1 hts2 hts3 hts4 hts5 hts6 hts7 hts8 hts9 hts10 hts11
     simp only [putAll,nthO,Act.put,List.setIfInBounds_toArray,List.set_cons_succ,List.set_cons_zero]
     obtain ⟨rfl,rfl,-⟩:=hd
     go_wp2_with fail
     exact ⟨Ext.refl _,_,rfl,rfl⟩
    ·intro ts wx hts hX hd
     obtain ⟨t0,ts0,rfl,hts0⟩:=vcons hts
     obtain ⟨t1,ts1,rfl,hts1⟩:=vcons hts0
     obtain ⟨t2,ts2,rfl,hts2⟩:=vcons hts1
     obtain ⟨t3,ts3,rfl,hts3⟩:=vcons hts2
     obtain ⟨t4,ts4,rfl,hts4⟩:=vcons hts3
     obtain ⟨t5,ts5,rfl,hts5⟩:=vcons hts4
     obtain ⟨t6,ts6,rfl,hts6⟩:=vcons hts5
     obtain ⟨t7,ts7,rfl,hts7⟩:=vcons hts6
     obtain ⟨t8,ts8,rfl,hts8⟩:=vcons hts7
     obtain ⟨t9,ts9,rfl,hts9⟩:=vcons hts8
     obtain ⟨t10,ts10,rfl,hts10⟩:=vcons hts9
     obtain ⟨t11,ts11,rfl,hts11⟩:=vcons hts10
     obtain rfl:=vnil hts11
     clear hts hts0 hts1 hts2 hts3 hts4 hts5 hts6 hts7 hts8 hts9 hts10 hts11
     simp only [putAll,nthO,Act.put,List.setIfInBounds_toArray,List.set_cons_succ,List.set_cons_zero]
     obtain ⟨rfl,rfl,rfl,-⟩:=hd
     have z0:=(hX.cell _ _ hbl).trans tq0
     have z1:=(hX.cell _ _ hbl).trans tq1
     have z2:=(hX.cell _ _ hbl).trans tq2
     have z3:=(hX.cell _ _ hbl).trans tq3
     have z4:=(hX.cell _ _ hbl).trans tq4
     go_wp2_with fail
     exact ⟨Ext.refl _,_,rfl,rfl⟩
    ·intro ts wx hts hX hd
     obtain ⟨t0,ts0,rfl,hts0⟩:=vcons hts
     obtain ⟨t1,ts1,rfl,hts1⟩:=vcons hts0
     obtain ⟨t2,ts2,rfl,hts2⟩:=vcons hts1
     obtain ⟨t3,ts3,rfl,hts3⟩:=vcons hts2
     obtain ⟨t4,ts4,rfl,hts4⟩:=vcons hts3
     obtain ⟨t5,ts5,rfl,hts5⟩:=vcons hts4
     obtain ⟨t6,ts6,rfl,hts6⟩:=vcons hts5
     obtain ⟨t7,ts7,rfl,hts7⟩:=vcons hts6
     obtain ⟨t8,ts8,rfl,hts8⟩:=vcons hts7
     obtain ⟨t9,ts9,rfl,hts9⟩:=vcons hts8
     obtain ⟨t10,ts10,rfl,hts10⟩:=vcons hts9
     obtain ⟨t11,ts11,rfl,hts11⟩:=vcons hts10
     obtain rfl:=vnil hts11
     clear hts hts0 hts1 hts2 hts3 hts4 hts5 hts6 hts7 hts8 hts9 hts10 hts11
     simp only [putAll,nthO,Act.put,List.setIfInBounds_toArray,List.set_cons_succ,List.set_cons_zero]
     obtain ⟨rfl,-,-,-,rfl,-⟩:=hd
     go_wp2_with fail
     refine (c_l33Apply O1 O2 O3 O4 O5 o1 q1 o2 q2 o3 q3 o4 q4 o5 q5 R x _ (hatR.ext hX) hokR hev).mono ?_
     intro e w5 hap
     obtain ⟨v,rfl,hkv,hx5⟩:=KAp.of hap hX.size
     go_wp2_with fail
     exact ⟨hx5,_,rfl,hkv⟩
    ·intro ts wx hts hX hd
     obtain ⟨t0,ts0,rfl,hts0⟩:=vcons hts
     obtain ⟨t1,ts1,rfl,hts1⟩:=vcons hts0
     obtain ⟨t2,ts2,rfl,hts2⟩:=vcons hts1
     obtain ⟨t3,ts3,rfl,hts3⟩:=vcons hts2
     obtain ⟨t4,ts4,rfl,hts4⟩:=vcons hts3
     obtain ⟨t5,ts5,rfl,hts5⟩:=vcons hts4
     obtain ⟨t6,ts6,rfl,hts6⟩:=vcons hts5
     obtain ⟨t7,ts7,rfl,hts7⟩:=vcons hts6
     obtain ⟨t8,ts8,rfl,hts8⟩:=vcons hts7
     obtain ⟨t9,ts9,rfl,hts9⟩:=vcons hts8
     obtain ⟨t10,ts10,rfl,hts10⟩:=vcons hts9
     obtain ⟨t11,ts11,rfl,hts11⟩:=vcons hts10
     obtain rfl:=vnil hts11
     clear hts hts0 hts1 hts2 hts3 hts4 hts5 hts6 hts7 hts8 hts9 hts10 hts11
     simp only [putAll,nthO,Act.put,List.setIfInBounds_toArray,List.set_cons_succ,List.set_cons_zero]
     obtain ⟨-,-,-,-,-,h5,-⟩:=hd
     go_wp2_with fail
     exact ⟨Ext.refl _,_,rfl,h5⟩
    ·intro ts wx hts hX hd
     obtain ⟨t0,ts0,rfl,hts0⟩:=vcons hts
     obtain ⟨t1,ts1,rfl,hts1⟩:=vcons hts0
     obtain ⟨t2,ts2,rfl,hts2⟩:=vcons hts1
     obtain ⟨t3,ts3,rfl,hts3⟩:=vcons hts2
     obtain ⟨t4,ts4,rfl,hts4⟩:=vcons hts3
     obtain ⟨t5,ts5,rfl,hts5⟩:=vcons hts4
     obtain ⟨t6,ts6,rfl,hts6⟩:=vcons hts5
     obtain ⟨t7,ts7,rfl,hts7⟩:=vcons hts6
     obtain ⟨t8,ts8,rfl,hts8⟩:=vcons hts7
     obtain ⟨t9,ts9,rfl,hts9⟩:=vcons hts8
     obtain ⟨t10,ts10,rfl,hts10⟩:=vcons hts9
     obtain ⟨t11,ts11,rfl,hts11⟩:=vcons hts10
     obtain rfl:=vnil hts11
     clear hts hts0 hts1 hts2 hts3 hts4 hts5 hts6 hts7 hts8 hts9 hts10 hts11
     simp only [putAll,nthO,Act.put,List.setIfInBounds_toArray,List.set_cons_succ,List.set_cons_zero]
     obtain ⟨-,-,-,-,-,-,⟨a,rfl,h5⟩,-⟩:=hd
     go_wp2_with fail
     exact ⟨Ext.refl _,_,rfl,h5⟩
    ·intro ts wx hts hX hd
     obtain ⟨t0,ts0,rfl,hts0⟩:=vcons hts
     obtain ⟨t1,ts1,rfl,hts1⟩:=vcons hts0
     obtain ⟨t2,ts2,rfl,hts2⟩:=vcons hts1
     obtain ⟨t3,ts3,rfl,hts3⟩:=vcons hts2
     obtain ⟨t4,ts4,rfl,hts4⟩:=vcons hts3
     obtain ⟨t5,ts5,rfl,hts5⟩:=vcons hts4
     obtain ⟨t6,ts6,rfl,hts6⟩:=vcons hts5
     obtain ⟨t7,ts7,rfl,hts7⟩:=vcons hts6
     obtain ⟨t8,ts8,rfl,hts8⟩:=vcons hts7
     obtain ⟨t9,ts9,rfl,hts9⟩:=vcons hts8
     obtain ⟨t10,ts10,rfl,hts10⟩:=vcons hts9
     obtain ⟨t11,ts11,rfl,hts11⟩:=vcons hts10
     obtain rfl:=vnil hts11
     clear hts hts0 hts1 hts2 hts3 hts4 hts5 hts6 hts7 hts8 hts9 hts10 hts11
     simp only [putAll,nthO,Act.put,List.setIfInBounds_toArray,List.set_cons_succ,List.set_cons_zero]
     go_wp2_with fail
     exact ⟨Ext.alloc _ _,_,rfl,⟨_,rfl,Row.new _ _ _,hX.size⟩⟩
   ·refine ⟨?_,trivial⟩
    intro ts wx hts hX hd
    obtain ⟨t0,ts0,rfl,hts0⟩:=vcons hts
    obtain ⟨t1,ts1,rfl,hts1⟩:=vcons hts0
    obtain ⟨t2,ts2,rfl,hts2⟩:=vcons hts1
    obtain ⟨t3,ts3,rfl,hts3⟩:=vcons hts2
    obtain ⟨t4,ts4,rfl,hts4⟩:=vcons hts3
    obtain ⟨t5,ts5,rfl,hts5⟩:=vcons hts4
    obtain ⟨t6,ts6,rfl,hts6⟩:=vcons hts5
    obtain ⟨t7,ts7,rfl,hts7⟩:=vcons hts6
    obtain ⟨t8,ts8,rfl,hts8⟩:=vcons hts7
    obtain ⟨t9,ts9,rfl,hts9⟩:=vcons hts8
    obtain ⟨t10,ts10,rfl,hts10⟩:=vcons hts9
    obtain ⟨t11,ts11,rfl,hts11⟩:=vcons hts10
    obtain rfl:=vnil hts11
    clear hts hts0 hts1 hts2 hts3 hts4 hts5 hts6 hts7 hts8 hts9 hts10 hts11
    simp only [putAll,nthO,Act.put,List.setIfInBounds_toArray,List.set_cons_succ,List.set_cons_zero]
    obtain ⟨-,-,-,-,-,-,⟨a,rfl,h5⟩,-⟩:=hd
    repeat (go_big_quiet_step (fail))
    exact wpQuiet_nil ⟨_,rfl,rfl⟩
   intro ts wx hts hX hd
   obtain ⟨t0,ts0,rfl,hts0⟩:=vcons hts
   obtain ⟨t1,ts1,rfl,hts1⟩:=vcons hts0
   obtain ⟨t2,ts2,rfl,hts2⟩:=vcons hts1
   obtain ⟨t3,ts3,rfl,hts3⟩:=vcons hts2
   obtain ⟨t4,ts4,rfl,hts4⟩:=vcons hts3
   obtain ⟨t5,ts5,rfl,hts5⟩:=vcons hts4
   obtain ⟨t6,ts6,rfl,hts6⟩:=vcons hts5
   obtain ⟨t7,ts7,rfl,hts7⟩:=vcons hts6
   obtain ⟨t8,ts8,rfl,hts8⟩:=vcons hts7
   obtain ⟨t9,ts9,rfl,hts9⟩:=vcons hts8
   obtain ⟨t10,ts10,rfl,hts10⟩:=vcons hts9
   obtain ⟨t11,ts11,rfl,hts11⟩:=vcons hts10
   obtain rfl:=vnil hts11
   clear hts hts0 hts1 hts2 hts3 hts4 hts5 hts6 hts7 hts8 hts9 hts10 hts11
   simp only [putAll,Act.put,List.setIfInBounds_toArray,List.set_cons_succ,List.set_cons_zero]
   obtain ⟨-,-,-,-,-,-,-,⟨C1,C2,C3,C4,C5,j1,f1,j2,f2,j3,f3,j4,f4,j5,f5,r'',loC,hiC,rfl,himp⟩,⟨g,rfl,hg,hgle⟩,h8,-⟩:=hd
   obtain rfl:=h8
   have u0:=hg.cell 0
   have u1:=hg.cell 1
   have u2:=hg.cell 2
   have u3:=hg.cell 3
   have u4:=hg.cell 4
   have uf:=hg.frozen
   have ul:=hg.lt
   simp only [List.getElem?_cons_zero,List.getElem?_cons_succ] at u0 u1 u2 u3 u4
   simp only [wpPhT,pickL,nthO]
   refine wpQuiet_nil ?_
   go_wp2_with fail
   refine ⟨fun _ h=>(by cases h),?_⟩
   repeat (go_big_quiet_step (fail))
   refine wpQuiet_nil ?_
   have rC:=five_row (u0:= .slice C1 j1 f1) (u1:= .slice C2 j2 f2) (u2:= .slice C3 j3 f3) (u3:= .slice C4 j4 f4) (u4:= .slice C5 j5 f5) hg
   have tC:=(Turn.refl (S:=fun b=>b=g) wx).five (g:=g) rfl (.slice C1 j1 f1) (.slice C2 j2 f2) (.slice C3 j3 f3) (.slice C4 j4 f4) (.slice C5 j5 f5)
   have hX5:Ext wr (((((wx.setCell ⟨g,0,none⟩ (.slice C1 j1 f1)).setCell ⟨g,1,none⟩ (.slice C2 j2 f2)).setCell ⟨g,2,none⟩ (.slice C3 j3 f3)).setCell ⟨g,3,none⟩ (.slice C4 j4 f4)).setCell ⟨g,4,none⟩ (.slice C5 j5 f5)):=hX.turn tC (fun b hb=>by omega)
   have himp5:appB (o1:Int) R x=true→wr.heap.size≤loC∧ROwn (((((wx.setCell ⟨g,0,none⟩ (.slice C1 j1 f1)).setCell ⟨g,1,none⟩ (.slice C2 j2 f2)).setCell ⟨g,2,none⟩ (.slice C3 j3 f3)).setCell ⟨g,3,none⟩ (.slice C4 j4 f4)).setCell ⟨g,4,none⟩ (.slice C5 j5 f5)) loC hiC C1 C2 C3 C4 C5 j1 f1 j2 f2 j3 f3 j4 f4 j5 f5 r''∧r''.Like (appR R x)∧hiC≤((((((wx.setCell ⟨g,0,none⟩ (.slice C1 j1 f1)).setCell ⟨g,1,none⟩ (.slice C2 j2 f2)).setCell ⟨g,2,none⟩ (.slice C3 j3 f3)).setCell ⟨g,3,none⟩ (.slice C4 j4 f4)).setCell ⟨g,4,none⟩ (.slice C5 j5 f5))).heap.size:=fun hb=>let ⟨h1,h2,h3,h4⟩:=himp hb; ⟨h1,h3.turnR tC (fun b hb=>by subst hb; exact ⟨_,hg⟩),h4,Nat.le_trans h2 tC.size⟩
   generalize (((((wx.setCell ⟨g,0,none⟩ (.slice C1 j1 f1)).setCell ⟨g,1,none⟩ (.slice C2 j2 f2)).setCell ⟨g,2,none⟩ (.slice C3 j3 f3)).setCell ⟨g,3,none⟩ (.slice C4 j4 f4)).setCell ⟨g,4,none⟩ (.slice C5 j5 f5))=w5 at *
   clear u0 u1 u2 u3 u4 uf ul tC himp hg hX
   have hrow5:=hrow.ext hX5
   have hz5:=hX5.size
   have hzw:w.heap.size≤wr.heap.size:=XR.size
   cases hab:appB (o1:Int) R x
   ·have HST:Hid (replR (o1:Int) R0 (es.take (k+1))=((replR (o1:Int) R0 (es.take k)).1,(replR (o1:Int) R0 (es.take k)).2+1)):=hide (by
     rw [replR_take HX.out]; unfold stepE
     rw [←appB_like HLK.out,if_neg (by rw [hab]; decide)])
    clear himp5
    go_wp2_with fail
    go_roundw
    case rel=>
     refine ⟨k+1,m+1,by omega,by first | rfl | (rw [e1]) | go_num,by go_num,⟨htn.trans (Turn.of_ext hX5),⟨O1,O2,O3,O4,O5,o1,q1,o2,q2,o3,q3,o4,q4,o5,q5,R,hrow5,(hRo.ext hX5).wider (Nat.le_refl _) hz5,hne,by rw [HST.out]; exact HLK.out,by rw [HST.out]; exact congrArg (· +1) HMM.out⟩⟩⟩
    case measure=>simp [intOf]; omega
   ·obtain ⟨hlo5,hO5,hl5,hhi5⟩:=himp5 hab
    have HST:Hid (replR (o1:Int) R0 (es.take (k+1))=(appR (replR (o1:Int) R0 (es.take k)).1 x,(replR (o1:Int) R0 (es.take k)).2)):=hide (by
     rw [replR_take HX.out]; unfold stepE
     rw [←appB_like HLK.out,if_pos hab])
    have HO5:=hide hO5
    have HL5:=hide hl5
    clear himp5 hO5 hl5 p0 p1 p2 p3 p4 pf pl
    have p0:=hrow5.cell 0
    have p1:=hrow5.cell 1
    have p2:=hrow5.cell 2
    have p3:=hrow5.cell 3
    have p4:=hrow5.cell 4
    have pf:=hrow5.frozen
    have pl:=hrow5.lt
    simp only [List.getElem?_cons_zero,List.getElem?_cons_succ] at p0 p1 p2 p3 p4
    have hgl2:=hrow.lt
    obtain ⟨ul,u0,u1,u2,u3,u4⟩:=row_in rC
    go_wp2_with fail
    go_roundw
    case rel=>
     have t5:=(Turn.refl (S:=fun b=>b=w1.heap.size) w5).five (g:=w1.heap.size) rfl (.slice C1 j1 f1) (.slice C2 j2 f2) (.slice C3 j3 f3) (.slice C4 j4 f4) (.slice C5 j5 f5)
     refine ⟨k+1,m,by omega,rfl,by go_num,⟨(htn.trans (Turn.of_ext hX5)).trans t5,⟨C1,C2,C3,C4,C5,j1,f1,j2,f2,j3,f3,j4,f4,j5,f5,r'',five_row hrow5,(HO5.out.turnR t5 (fun b hb=>by subst hb; exact ⟨_,hrow5⟩)).wider (by omega) (Nat.le_trans hhi5 t5.size),fun b hb=> ?_,by rw [HST.out]; exact HL5.out.trans (appR_like HLK.out x),by rw [HST.out]; exact HMM.out⟩⟩⟩
     have hq1:=HO5.out.rblk hb
     omega
    case measure=>simp [intOf]; omega
  ·obtain rfl:es.length=k:=by omega
   have hresk:=hres.turn htn (fun (e:w.heap.size+1=w1.heap.size)=>by omega)
   have r0:=(hresk).cell 0
   have r1:=(hresk).cell 1
   have r2:=(hresk).cell 2
   have r3:=(hresk).cell 3
   have r4:=(hresk).cell 4
   have rf:=(hresk).frozen
   have rl:=(hresk).lt
   simp only [List.getElem?_cons_zero,List.getElem?_cons_succ] at r0 r1 r2 r3 r4
   have hRF:=five_row (u0:= .slice O1 o1 q1) (u1:= .slice O2 o2 q2) (u2:= .slice O3 o3 q3) (u3:= .slice O4 o4 q4) (u4:= .slice O5 o5 q5) hresk
   have z0:=hRF.cell 0
   have z1:=hRF.cell 1
   have z2:=hRF.cell 2
   have z3:=hRF.cell 3
   have z4:=hRF.cell 4
   simp only [List.getElem?_cons_zero,List.getElem?_cons_succ] at z0 z1 z2 z3 z4
   have t5:=(Turn.refl (S:=fun b=>b=w.heap.size+1) wr).five (g:=w.heap.size+1) rfl (.slice O1 o1 q1) (.slice O2 o2 q2) (.slice O3 o3 q3) (.slice O4 o4 q4) (.slice O5 o5 q5)
   have HF:=hide (show RetRp ((replR (n1:Int) R0 es).1,((replR (n1:Int) R0 es).2:Int),0) w (.returned (.tuple #[.agg #[.slice O1 o1 q1,.slice O2 o2 q2,.slice O3 o3 q3,.slice O4 o4 q4,.slice O5 o5 q5],.int .i64 m,.int .i64 0])) _ from
    ⟨O1,O2,O3,O4,O5,o1,q1,o2,q2,o3,q3,o4,q4,o5,q5,R,by have e:=HMM.out; rw [List.take_length] at e; rw [e],(hRo.turnR t5 (fun b hb=>by subst hb; exact ⟨_,hresk⟩)).wider (Nat.le_refl _) (by simp),by have e:=HLK.out; rw [List.take_length] at e; exact e,XR.turn t5 (fun b hb=>by omega)⟩)
   clear hRF hresk
   go_wp2_with fail
   rw [HR.out]
   refine bodyPost_ret (v:= .tuple #[.agg #[.slice O1 o1 q1,.slice O2 o2 q2,.slice O3 o3 q3,.slice O4 o4 q4,.slice O5 o5 q5],.int .i64 m,.int .i64 0]) (by simp [results,Tryz.results16,go_sem,z0,z1,z2,z3,z4]) rfl ?_
   exact HF.out
end Go.Proofs.YtinindjjapblcaaGreatDoor
