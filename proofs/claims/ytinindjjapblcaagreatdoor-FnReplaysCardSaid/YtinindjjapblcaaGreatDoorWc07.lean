/-
  FnReplays: the law on a journal that is replayed.
-/
import Derived.Test.YtinindjjapblcaaGreatDoorWc01
import Derived.Test.YtinindjjapblcaaGreatDoorWa40
import Derived.Test.YtinindjjapblcaaGreatDoorWc03
import Derived.Test.YtinindjjapblcaaGreatDoorWc04
import Derived.Test.YtinindjjapblcaaGreatDoorWc05
import Derived.Test.YtinindjjapblcaaGreatDoorWc06
namespace Go.Proofs.YtinindjjapblcaaGreatDoor
open Go.RowKit
open Go.Lib hiding intOf
def KRcR (lo:Nat) (nn:Int) (R:Room) (x:Event):Value→World→Prop:=fun v w=>∃(A1 A2 A3 A4 A5:Option Addr) (n1 c1 n2 c2 n3 c3 n4 c4 n5 c5:Nat) (r':Room) (lo' hi:Nat),v= .agg #[.slice A1 n1 c1,.slice A2 n2 c2,.slice A3 n3 c3,.slice A4 n4 c4,.slice A5 n5 c5]∧lo≤lo'∧hi≤w.heap.size∧ROwn w lo' hi A1 A2 A3 A4 A5 n1 c1 n2 c2 n3 c3 n4 c4 n5 c5 r'∧r'.Like (applyRR nn R x).1
theorem stKRcR (lo:Nat) (nn:Int) (R:Room) (x:Event):stK (KRcR lo nn R x):=fun _ _ _ ⟨A1,A2,A3,A4,A5,n1,c1,n2,c2,n3,c3,n4,c4,n5,c5,r',lo',hi,h1,a,b,c,d⟩ hx=>⟨A1,A2,A3,A4,A5,n1,c1,n2,c2,n3,c3,n4,c4,n5,c5,r',lo',hi,h1,a,Nat.le_trans b hx.size,c.ext hx,d⟩
def KRc (lo:Nat) (nn:Int) (R:Room) (x:Event):Value→World→Prop:=fun v w=>∃a,v= .tuple #[a,.int .i64 (applyRR nn R x).2]∧KRcR lo nn R x a w
theorem stKRc (lo:Nat) (nn:Int) (R:Room) (x:Event):stK (KRc lo nn R x):=fun _ _ _ ⟨a,h1,h2⟩ hx=>⟨a,h1,stKRcR _ _ _ _ _ _ _ h2 hx⟩
theorem KRc.of {lo:Nat} {nn:Int} {R:Room} {x:Event} {w w':World} {e:Ending} (h:RetRC (applyRR nn R x) w e w') (hlo:lo≤w.heap.size):∃v,e= .returned v∧KRc lo nn R x v w'∧Ext w w':=by
 obtain ⟨A1,A2,A3,A4,A5,n1,c1,n2,c2,n3,c3,n4,c4,n5,c5,r',rfl,h2,h3,hx⟩:=h
 exact ⟨_,rfl,⟨_,rfl,A1,A2,A3,A4,A5,n1,c1,n2,c2,n3,c3,n4,c4,n5,c5,r',_,_,rfl,hlo,Nat.le_refl _,h2,h3⟩,hx⟩
theorem repV_good {n1:Int} {ns:List Node} {ps:List Pipe} {xs:List Contract} {l:List UInt8} (h:(repV n1 ns ps xs l).2.2=0):(netB ns ps&&bookB n1 xs)=true∧l.length≤20000:=by
 unfold repV at h
 split at h
 ·rename_i hb
  split at h
  ·simp at h
  ·exact ⟨hb,by omega⟩
 ·simp at h
set_option maxHeartbeats 8000000 in
set_option maxRecDepth 8000 in
theorem law_Replays (A:Option Addr) (n c:Nat) (bs:List Int) (w:World) (hbs:SliceOf w 1 byteC A n c bs) (hbd:∀z∈bs,0≤z∧z≤255) (hg:Glob w):
  Calls Tryz.prog 4 #[.slice A n c] w (Ret (.bool true) w):=by
 have HD:=hide hbd
 clear hbd
 by_cases hbig:(4096:Int)<n
 ·have hb:decide ((4096:Int)<n)=true:=by simpa using hbig
  go_enter Tryz.func4,Tryz.ntmps4
  go_wp2_with fail
  refine (c_big A n c _).mono ?_
  rw [hb]
  rintro e w' ⟨rfl,rfl⟩
  go_wp2_with fail
  go_ret
  exact Ret.bool rfl (Ext.refl _)
 have hb:decide ((4096:Int)<n)=false:=by simpa using hbig
 go_enter Tryz.func4,Tryz.ntmps4
 go_wp2_with fail
 refine (c_big A n c _).mono ?_
 rw [hb]
 rintro e w' ⟨rfl,rfl⟩
 clear hb
 go_wp2_with fail
 refine (c_DrawReplayEvents A n c bs _ hbs HD.out (by omega)).mono ?_
 rintro e w1 ⟨A1,A2,A3,c1,c2,c3,ns,ps,xs,l,rfl,h1,h2,h3,b1,b2,b3,hnm,hll,hx1⟩
 have HNM:=hide (show ∀x∈ns,x.name.size≤1048576 from fun x hx=>Nat.le_trans (hnm x hx) (by omega))
 clear hnm
 obtain ⟨W2,HW2⟩:∃W,Hid (w1.alloc (.cells ([.slice A1 ns.length c1,.slice A2 ps.length c2]).toArray 27)=W):=⟨_,hide rfl⟩
 have hN:Row W2 w1.heap.size 27 ([.slice A1 ns.length c1,.slice A2 ps.length c2]):=by rw [←HW2.out]; exact Row.new _ _ _
 have hxb:Ext w1 W2:=by rw [←HW2.out]; exact Ext.alloc _ _
 have X2:=hx1.trans hxb
 obtain ⟨R,HR⟩:∃R,Hid (repV ns.length ns ps xs l=R):=⟨_,hide rfl⟩
 have p0:=(hN).cell 0
 have p1:=(hN).cell 1
 simp at p0 p1
 have pf:=(hN).frozen
 have pl:=(hN).lt
 go_wp2_with fail
 rw [HW2.out]
 refine (c_ReplayEvents A1 A2 ns.length c1 ps.length c2 ns ps A3 xs.length c3 xs _ (h1.ext hxb) (h2.ext hxb) (h3.ext hxb) (by omega) (by omega) (by omega) l (by omega) (hg.ext X2)).mono ?_
 rw [HR.out]
 rintro e w3 ⟨I1,I2,I3,I4,I5,i1,e1,i2,e2,i3,e3,i4,e4,i5,e5,ri,rfl,hio,hil,hx3⟩
 clear p0 p1 pf pl
 obtain ⟨W4,HW4⟩:∃W,Hid (w3.alloc (.cells ([.slice I1 i1 e1,.slice I2 i2 e2,.slice I3 i3 e3,.slice I4 i4 e4,.slice I5 i5 e5]).toArray 32)=W):=⟨_,hide rfl⟩
 have hI:Row W4 w3.heap.size 32 ([.slice I1 i1 e1,.slice I2 i2 e2,.slice I3 i3 e3,.slice I4 i4 e4,.slice I5 i5 e5]):=by rw [←HW4.out]; exact Row.new _ _ _
 have hxc:Ext w3 W4:=by rw [←HW4.out]; exact Ext.alloc _ _
 have X4:=X2.trans (hx3.trans hxc)
 have hx24:=hx3.trans hxc
 have hN4:=hN.ext hx24
 have hio4:=hio.ext hxc
 have hi4:∀b,RBlk I1 I2 I3 I4 I5 i1 i2 i3 i4 i5 ri b→b<w3.heap.size:=fun b hb=>(hio.rblk hb).2
 clear hio
 have hN3:=hN.ext hx3
 have p0:=(hN3).cell 0
 have p1:=(hN3).cell 1
 simp at p0 p1
 have pf:=(hN3).frozen
 have pl:=(hN3).lt
 go_wp2_with fail
 rw [HW4.out]
 refine (c_specReplayEvents A1 A2 ns.length c1 ps.length c2 ns ps A3 xs.length c3 xs _ (h1.ext (hxb.trans hx24)) (h2.ext (hxb.trans hx24)) (h3.ext (hxb.trans hx24)) (by omega) (by omega) (by omega) HNM.out l (by omega)).mono ?_
 rw [HR.out]
 rintro e w5 ⟨S1,S2,S3,S4,S5,s1,d1,s2,d2,s3,d3,s4,d4,s5,d5,rs,rfl,hso,hsl,hx5⟩
 clear p0 p1 pf pl
 obtain ⟨W6,HW6⟩:∃W,Hid (w5.alloc (.cells ([.slice S1 s1 d1,.slice S2 s2 d2,.slice S3 s3 d3,.slice S4 s4 d4,.slice S5 s5 d5]).toArray 32)=W):=⟨_,hide rfl⟩
 have hS:Row W6 w5.heap.size 32 ([.slice S1 s1 d1,.slice S2 s2 d2,.slice S3 s3 d3,.slice S4 s4 d4,.slice S5 s5 d5]):=by rw [←HW6.out]; exact Row.new _ _ _
 have hxd:Ext w5 W6:=by rw [←HW6.out]; exact Ext.alloc _ _
 have hx46:=hx5.trans hxd
 have hx26:=hx24.trans hx46
 have X6:=X4.trans hx46
 have hN6:=hN4.ext hx46
 have hI6:=hI.ext hx46
 have hio6:=hio4.ext hx46
 have HSL:=hide hsl
 have HIL:=hide hil
 have hz4:w3.heap.size<W6.heap.size:=hI6.lt
 have hI5:=hI.ext hx5
 have p0:=(hI5).cell 0
 have p1:=(hI5).cell 1
 have p2:=(hI5).cell 2
 have p3:=(hI5).cell 3
 have p4:=(hI5).cell 4
 simp at p0 p1 p2 p3 p4
 have pf:=(hI5).frozen
 have pl:=(hI5).lt
 clear hN hI hio4 hN4 hN3 hI5 hsl hil
 go_wp2_with fail
 rw [HW6.out]
 refine (c_likeRooms I1 I2 I3 I4 I5 i1 e1 i2 e2 i3 e3 i4 e4 i5 e5 S1 S2 S3 S4 S5 s1 d1 s2 d2 s3 d3 s4 d4 s5 d5 ri rs _ hio6.at_ (hso.at_.ext hxd) (HIL.out.trans HSL.out.symm)).mono ?_
 rintro e w7 ⟨rfl,hx7⟩
 have X7:=X6.trans hx7
 have hx27:=hx26.trans hx7
 clear p0 p1 p2 p3 p4 pf pl hso hS
 by_cases hbad:R.2.2=0
 ·obtain ⟨hbk,h20⟩:=repV_good (n1:=ns.length) (ns:=ns) (ps:=ps) (xs:=xs) (l:=l) (by rw [HR.out]; exact hbad)
  have HRV:Hid (R=((replR ns.length (newR ns ps xs) (recS l)).1,((replR ns.length (newR ns ps xs) (recS l)).2:Int),0)):=hide (by rw [←HR.out]; unfold repV; rw [if_pos hbk,if_neg (by omega)])
  have HWH:=fun (k:Nat)=>repV_whole (n1:=ns.length) (ns:=ns) (ps:=ps) (xs:=xs) (es:=(recS l).take k) hbk
  have HB:=hide (newR_val (k:=ns.length) hbk)
  have HEV:=hide (show ∀e∈recS l,evB e=true from recL_valid _ _ _)
  have h300:(recS l).length≤300:=recL_len (splitL 10 l).dropLast maxEv 1
  have hE:recR l=(recS l,(l.length:Int)-longL l,0):=by unfold recR; rw [if_neg (by omega)]
  have HE:=hide hE
  have HWH:=hide HWH
  clear hE hbk
  go_wp2_with fail
  refine (c_specRecoverEvents l (by omega) _).mono ?_
  unfold RetRec
  rw [HE.out]
  rintro e w8 ⟨EA,ec,rfl,heo,heb,hx8⟩
  simp only at heo heb
  obtain ⟨es,HES⟩:∃es,Hid (recS l=es):=⟨_,hide rfl⟩
  rw [HES.out] at heo heb HRV HWH HEV h300 ⊢
  have hes:=heo.slice event_len
  have X8:=X7.trans hx8
  have hx28:=hx27.trans hx8
  have hw1:IntKind.u64.wrap 3301=3301:=by decide
  have hbs8:=hbs.ext X8
  clear HE
  go_wp2_with fail
  refine (c_roll A n c 3301 bs _ hbs8).mono ?_
  rintro e w9 ⟨g,rfl,hg9,hd9,hx9⟩
  go_wp2_with fail
  refine (c_below g ((es.length:Int)+1) A n c bs w8 w9 hbs8 HD.out hx9 hg9 hd9 (by omega) (by omega)).mono ?_
  rintro e w10 ⟨x10,rfl,hx0,hxm,hx10⟩
  have hx210:=hx28.trans hx10
  have X10:=X8.trans hx10
  obtain ⟨k0,rfl⟩:=Int.eq_ofNat_of_zero_le hx0
  have hk0:k0≤es.length:=by omega
  have hec:=heo.2.1
  have hem:=heo.2.2.1
  have hes10:=hes.ext hx10
  have hsk:=hes10.take hk0
  clear hx0 hxm hx9 hd9 hg9 hes
  go_wp2_with fail
  refine (c_specJournalOf EA k0 ec (es.take k0) _ hsk).mono ?_
  have hlk:(es.take k0).length≤300:=by rw [List.length_take]; omega
  have hvk:∀e∈es.take k0,evB e=true:=fun e he=>HEV.out e (List.mem_of_mem_take he)
  rw [jourR_valid hlk hvk]
  rintro e w11 ⟨rfl,hx11⟩
  have htl:=text_shortR (es.take k0) hvk hlk
  have HV:=hide (HWH.out k0 hlk hvk)
  obtain ⟨j,HT⟩:∃j,Hid (textL (es.take k0) 1=j):=⟨_,hide rfl⟩
  rw [HT.out] at HV htl ⊢
  have hx211:=hx210.trans hx11
  have X11:=X10.trans hx11
  have hN11:=hN6.ext (hx7.trans (hx8.trans (hx10.trans hx11)))
  have hx611:=hx7.trans (hx8.trans (hx10.trans hx11))
  clear hlk hvk HWH hsk hN6
  have p0:=(hN11).cell 0
  have p1:=(hN11).cell 1
  simp at p0 p1
  have pf:=(hN11).frozen
  have pl:=(hN11).lt
  go_wp2_with fail
  refine (c_ReplayEvents A1 A2 ns.length c1 ps.length c2 ns ps A3 xs.length c3 xs _ (h1.ext (hxb.trans hx211)) (h2.ext (hxb.trans hx211)) (h3.ext (hxb.trans hx211)) (by omega) (by omega) (by omega) j (by omega) (hg.ext X11)).mono ?_
  rw [HV.out]
  rintro e w12 ⟨B1,B2,B3,B4,B5,k1,m1,k2,m2,k3,m3,k4,m4,k5,m5,r',rfl,hyo,hyl,hx12⟩
  clear p0 p1 pf pl hN11
  obtain ⟨Wg,HWg⟩:∃W,Hid (w12.alloc (.cells ([.slice B1 k1 m1,.slice B2 k2 m2,.slice B3 k3 m3,.slice B4 k4 m4,.slice B5 k5 m5]).toArray 32)=W):=⟨_,hide rfl⟩
  have rB:Row Wg w12.heap.size 32 ([.slice B1 k1 m1,.slice B2 k2 m2,.slice B3 k3 m3,.slice B4 k4 m4,.slice B5 k5 m5]):=by rw [←HWg.out]; exact Row.new _ _ _
  have hxg:Ext w12 Wg:=by rw [←HWg.out]; exact Ext.alloc _ _
  have hx10g:=hx11.trans (hx12.trans hxg)
  have hx6g:=hx7.trans (hx8.trans (hx10.trans hx10g))
  have XG:=X10.trans hx10g
  have hesg:=hes10.ext hx10g
  have hIg:=hI6.ext hx6g
  have hiog:=hio6.ext hx6g
  have hzg:W6.heap.size≤w12.heap.size:=(hx611.trans hx12).size
  have hgE:∀b,blkOf EA es.length=some b→b≠w12.heap.size:=fun b hb=>by have:=heo.lt hb; have:=(hx10.trans (hx11.trans hx12)).size; omega
  obtain ⟨R0,HR0⟩:∃R0,Hid (newR ns ps xs=R0):=⟨_,hide rfl⟩
  have HNS:Hid (R0.ns=ns):=hide (by rw [←HR0.out]; rfl)
  rw [HR0.out] at HRV HB hyl ⊢
  have hz11:=X11.size
  have hzw:w.heap.size≤w12.heap.size:=by have:=(X11.trans hx12).size; omega
  clear hes10 hI6 hio6 heo heb HV h1 h2 h3 hg
  go_wp2_with fail
  rw [HWg.out]
  go_loopw [19,21] (fun v i wr=>∃k m:Nat,k≤es.length∧v= .int .i64 m∧i= .int .i64 k∧LoopP ns.length R0 es w.heap.size Wg wr w12.heap.size k m) (fun _ i _=>es.length-(intOf i).toNat)
  case atStart=>exact ⟨k0,(replR ns.length R0 (es.take k0)).2,hk0,rfl,rfl,⟨Turn.refl _,⟨B1,B2,B3,B4,B5,k1,m1,k2,m2,k3,m3,k4,m4,k5,m5,r',rB,(hyo.ext hxg).wider (by omega) hxg.size,fun b hb=>by have:=(hyo.rblk hb).2; omega,hyl,rfl⟩⟩⟩
  case round=>
   obtain ⟨k,m,hk,rfl,rfl,⟨htn,O1,O2,O3,O4,O5,o1,q1,o2,q2,o3,q3,o4,q4,o5,q5,Y,hrow,hRo,hne,hLk,hmm⟩⟩:=hrel
   have XR:=XG.turn htn (fun b hb=>by omega)
   have hm3:m≤300:=by
    have:=replR_count (n:=(ns.length:Int)) (es.take k) (R0,0)
    have h2:(es.take k).length≤es.length:=by rw [List.length_take]; omega
    rw [hmm]; unfold replR; simp only [Nat.zero_add] at this; omega
   have p0:=hrow.cell 0
   have p1:=hrow.cell 1
   have p2:=hrow.cell 2
   have p3:=hrow.cell 3
   have p4:=hrow.cell 4
   have pf:=hrow.frozen
   have pl:=hrow.lt
   simp only [List.getElem?_cons_zero,List.getElem?_cons_succ] at p0 p1 p2 p3 p4
   have HLK:=hide hLk
   have HMM:=hide hmm
   clear hLk hmm
   by_cases hklt:k<es.length
   ·obtain ⟨b,off,x,rfl,hbb,hxk,hc⟩:=(hesg.turn htn (fun b hb hS=>hgE b hb hS)).get hklt
    have tq0:=hc 0 _ rfl
    have tq1:=hc 1 _ rfl
    have tq2:=hc 2 _ rfl
    have tq3:=hc 3 _ rfl
    have tq4:=hc 4 _ rfl
    simp only [Nat.add_zero] at tq0
    have hev:=HEV.out x (List.mem_of_getElem? hxk)
    have HX:=hide hxk
    have hokR:roomB ns.length Y=true:=by rw [roomB_like HLK.out]; exact replR_ok HB.out _
    have ho1:ns.length=o1:=by rw [hRo.at_.s1.len,HLK.out.1,replR_ns,HNS.out]
    have HN1:=hide ho1
    rw [ho1] at hokR
    have e1:IntKind.i64.wrap ((m:Int)+1)=((m+1:Nat):Int):=by rw [IntWalk.i64_in _ (by omega)]; omega
    have hbl:=hbb
    have hatR:=hRo.at_
    clear hxk hc ho1
    go_wp2_with fail
    refine wp_region_KP [KC (.agg #[.slice O1 o1 q1,.slice O2 o2 q2,.slice O3 o3 q3,.slice O4 o4 q4,.slice O5 o5 q5]),KC (.slice (some ⟨b,off,none⟩) es.length ec),KC (.int .i64 (k:Int)),KC (.pointer (some ⟨b,off+k*5,none⟩)),KC (.agg #[.int .i64 x.kind,.int .i64 x.a,.int .i64 x.b,.int .i64 x.c,.int .i64 x.d]),KRc wr.heap.size o1 Y x,KRc wr.heap.size o1 Y x,KRcR wr.heap.size o1 Y x,KC (.int .i64 (applyRR o1 Y x).2),KR wr.heap.size 32 [.slice none 0 0,.slice none 0 0,.slice none 0 0,.slice none 0 0,.slice none 0 0]]
     [0,1,2,3,4,5,6,7,9] [8] [[],[],[],[1,2],[1,2,3],[0,1,2,3,4],[0,1,2,3,4,5],[0,1,2,3,4,5,6],[0,1,2,3,4,5,6],[],[0,1,2,3,4,5,6,7,9],[0,1,2,3,4,5,6,7,8,9,10]] [] (.one [] 10 (.last [11])) (by kernel_rfl) (by kernel_rfl) (by intro c a w d v h; cases d <;> exact h) (by simp) ⟨stKC _,stKC _,stKC _,stKC _,stKC _,stKRc _ _ _ _,stKRc _ _ _ _,stKRcR _ _ _ _,stKC _,stKR _ _ _,trivial⟩ ?_ ?_ ?_
    ·refine ⟨?_,?_,?_,?_,?_,?_,?_,?_,?_,trivial⟩
     ·intro ts wx hts hX hd
      obtain ⟨t0,ts0,rfl,hts0⟩:=vcons hts
      obtain ⟨t1,ts1,rfl,hts1⟩:=vcons hts0
      obtain ⟨t2,ts2,rfl,hts2⟩:=vcons hts1
      obtain ⟨t3,ts3,rfl,hts3⟩:=vcons hts2
      obtain ⟨t4,ts4,rfl,hts4⟩:=vcons hts3
      obtain ⟨t5,ts5,rfl,hts5⟩:=vcons hts4
      obtain ⟨t6,ts6,rfl,hts6⟩:=vcons hts5
      obtain ⟨t7,ts7,rfl,hts7⟩:=vcons hts6
      obtain ⟨t8,ts8,rfl,hts8⟩:=vcons hts7
      obtain ⟨t9,ts9,rfl,hts9⟩:=vcons hts8
      obtain ⟨t10,ts10,rfl,hts10⟩:=vcons hts9
      obtain ⟨t11,ts11,rfl,hts11⟩:=vcons hts10
      obtain rfl:=vnil hts11
      clear hts hts0 hts1 hts2 hts3 hts4 hts5 hts6 hts7 hts8 hts9 hts10 hts11
      simp only [putAll,nthO,Act.put,List.setIfInBounds_toArray,List.set_cons_succ,List.set_cons_zero]
      obtain ⟨z0,z1,z2,z3,z4,z5⟩:=(row_in hrow).ext hX
      go_wp2_with fail
      exact ⟨Ext.refl _,_,rfl,rfl⟩
     ·intro ts wx hts hX hd
      obtain ⟨t0,ts0,rfl,hts0⟩:=vcons hts
      obtain ⟨t1,ts1,rfl,hts1⟩:=vcons hts0
      obtain ⟨t2,ts2,rfl,hts2⟩:=vcons hts1
      obtain ⟨t3,ts3,rfl,hts3⟩:=vcons hts2
      obtain ⟨t4,ts4,rfl,hts4⟩:=vcons hts3
      obtain ⟨t5,ts5,rfl,hts5⟩:=vcons hts4
      obtain ⟨t6,ts6,rfl,hts6⟩:=vcons hts5
      obtain ⟨t7,ts7,rfl,hts7⟩:=vcons hts6
      obtain ⟨t8,ts8,rfl,hts8⟩:=vcons hts7
      obtain ⟨t9,ts9,rfl,hts9⟩:=vcons hts8
      obtain ⟨t10,ts10,rfl,hts10⟩:=vcons hts9
      obtain ⟨t11,ts11,rfl,hts11⟩:=vcons hts10
      obtain rfl:=vnil hts11
      clear hts hts0 hts1 hts2 hts3 hts4 hts5 hts6 hts7 hts8 hts9 hts10 hts11
      simp only [putAll,nthO,Act.put,List.setIfInBounds_toArray,List.set_cons_succ,List.set_cons_zero]
      go_wp2_with fail
      exact ⟨Ext.refl _,_,rfl,rfl⟩
     ·intro ts wx hts hX hd
      obtain ⟨t0,ts0,rfl,hts0⟩:=vcons hts
      obtain ⟨t1,ts1,rfl,hts1⟩:=vcons hts0
      obtain ⟨t2,ts2,rfl,hts2⟩:=vcons hts1
      obtain ⟨t3,ts3,rfl,hts3⟩:=vcons hts2
      obtain ⟨t4,ts4,rfl,hts4⟩:=vcons hts3
      obtain ⟨t5,ts5,rfl,hts5⟩:=vcons hts4
      obtain ⟨t6,ts6,rfl,hts6⟩:=vcons hts5
      obtain ⟨t7,ts7,rfl,hts7⟩:=vcons hts6
      obtain ⟨t8,ts8,rfl,hts8⟩:=vcons hts7
      obtain ⟨t9,ts9,rfl,hts9⟩:=vcons hts8
      obtain ⟨t10,ts10,rfl,hts10⟩:=vcons hts9
      obtain ⟨t11,ts11,rfl,hts11⟩:=vcons hts10
      obtain rfl:=vnil hts11
      clear hts hts0 hts1 hts2 hts3 hts4 hts5 hts6 hts7 hts8 hts9 hts10 hts11
      simp only [putAll,nthO,Act.put,List.setIfInBounds_toArray,List.set_cons_succ,List.set_cons_zero]
      go_wp2_with fail
      exact ⟨Ext.refl _,_,rfl,rfl⟩
     ·intro ts wx hts hX hd
      obtain ⟨t0,ts0,rfl,hts0⟩:=vcons hts
      obtain ⟨t1,ts1,rfl,hts1⟩:=vcons hts0
      obtain ⟨t2,ts2,rfl,hts2⟩:=vcons hts1
      obtain ⟨t3,ts3,rfl,hts3⟩:=vcons hts2
      obtain ⟨t4,ts4,rfl,hts4⟩:=vcons hts3
      obtain ⟨t5,ts5,rfl,hts5⟩:=vcons hts4
      obtain ⟨t6,ts6,rfl,hts6⟩:=vcons hts5
      obtain ⟨t7,ts7,rfl,hts7⟩:=vcons hts6
      obtain ⟨t8,ts8,rfl,hts8⟩:=vcons hts7
      obtain ⟨t9,ts9,rfl,hts9⟩:=vcons hts8
      obtain ⟨t10,ts10,rfl,hts10⟩:=vcons hts9
      obtain ⟨t11,ts11,rfl,hts11⟩:=vcons hts10
      obtain rfl:=vnil hts11
      clear hts hts0 hts1 hts2 hts3 hts4 hts5 hts6 hts7 hts8 hts9 hts10 hts11
      simp only [putAll,nthO,Act.put,List.setIfInBounds_toArray,List.set_cons_succ,List.set_cons_zero]
      obtain ⟨rfl,rfl,-⟩:=hd
      go_wp2_with fail
      exact ⟨Ext.refl _,_,rfl,rfl⟩
     ·intro ts wx hts hX hd
      obtain ⟨t0,ts0,rfl,hts0⟩:=vcons hts
      obtain ⟨t1,ts1,rfl,hts1⟩:=vcons hts0
      obtain ⟨t2,ts2,rfl,hts2⟩:=vcons hts1
      obtain ⟨t3,ts3,rfl,hts3⟩:=vcons hts2
      obtain ⟨t4,ts4,rfl,hts4⟩:=vcons hts3
      obtain ⟨t5,ts5,rfl,hts5⟩:=vcons hts4
      obtain ⟨t6,ts6,rfl,hts6⟩:=vcons hts5
      obtain ⟨t7,ts7,rfl,hts7⟩:=vcons hts6
      obtain ⟨t8,ts8,rfl,hts8⟩:=vcons hts7
      obtain ⟨t9,ts9,rfl,hts9⟩:=vcons hts8
      obtain ⟨t10,ts10,rfl,hts10⟩:=vcons hts9
      obtain ⟨t11,ts11,rfl,hts11⟩:=vcons hts10
      obtain rfl:=vnil hts11
      clear hts hts0 hts1 hts2 hts3 hts4 hts5 hts6 hts7 hts8 hts9 hts10 hts11
      simp only [putAll,nthO,Act.put,List.setIfInBounds_toArray,List.set_cons_succ,List.set_cons_zero]
      obtain ⟨rfl,rfl,rfl,-⟩:=hd
      have z0:=(hX.cell _ _ hbl).trans tq0
      have z1:=(hX.cell _ _ hbl).trans tq1
      have z2:=(hX.cell _ _ hbl).trans tq2
      have z3:=(hX.cell _ _ hbl).trans tq3
      have z4:=(hX.cell _ _ hbl).trans tq4
      go_wp2_with fail
      exact ⟨Ext.refl _,_,rfl,rfl⟩
     ·intro ts wx hts hX hd
      obtain ⟨t0,ts0,rfl,hts0⟩:=vcons hts
      obtain ⟨t1,ts1,rfl,hts1⟩:=vcons hts0
      obtain ⟨t2,ts2,rfl,hts2⟩:=vcons hts1
      obtain ⟨t3,ts3,rfl,hts3⟩:=vcons hts2
      obtain ⟨t4,ts4,rfl,hts4⟩:=vcons hts3
      obtain ⟨t5,ts5,rfl,hts5⟩:=vcons hts4
      obtain ⟨t6,ts6,rfl,hts6⟩:=vcons hts5
      obtain ⟨t7,ts7,rfl,hts7⟩:=vcons hts6
      obtain ⟨t8,ts8,rfl,hts8⟩:=vcons hts7
      obtain ⟨t9,ts9,rfl,hts9⟩:=vcons hts8
      obtain ⟨t10,ts10,rfl,hts10⟩:=vcons hts9
      obtain ⟨t11,ts11,rfl,hts11⟩:=vcons hts10
      obtain rfl:=vnil hts11
      clear hts hts0 hts1 hts2 hts3 hts4 hts5 hts6 hts7 hts8 hts9 hts10 hts11
      simp only [putAll,nthO,Act.put,List.setIfInBounds_toArray,List.set_cons_succ,List.set_cons_zero]
      obtain ⟨rfl,-,-,-,rfl,-⟩:=hd
      go_wp2_with fail
      refine (c_ApplyEvent O1 O2 O3 O4 O5 o1 q1 o2 q2 o3 q3 o4 q4 o5 q5 Y x _ (hatR.ext hX)).mono ?_
      intro e w5 hap
      obtain ⟨v,rfl,hkv,hx5⟩:=KRc.of hap hX.size
      go_wp2_with fail
      exact ⟨hx5,_,rfl,hkv⟩
     ·intro ts wx hts hX hd
      obtain ⟨t0,ts0,rfl,hts0⟩:=vcons hts
      obtain ⟨t1,ts1,rfl,hts1⟩:=vcons hts0
      obtain ⟨t2,ts2,rfl,hts2⟩:=vcons hts1
      obtain ⟨t3,ts3,rfl,hts3⟩:=vcons hts2
      obtain ⟨t4,ts4,rfl,hts4⟩:=vcons hts3
      obtain ⟨t5,ts5,rfl,hts5⟩:=vcons hts4
      obtain ⟨t6,ts6,rfl,hts6⟩:=vcons hts5
      obtain ⟨t7,ts7,rfl,hts7⟩:=vcons hts6
      obtain ⟨t8,ts8,rfl,hts8⟩:=vcons hts7
      obtain ⟨t9,ts9,rfl,hts9⟩:=vcons hts8
      obtain ⟨t10,ts10,rfl,hts10⟩:=vcons hts9
      obtain ⟨t11,ts11,rfl,hts11⟩:=vcons hts10
      obtain rfl:=vnil hts11
      clear hts hts0 hts1 hts2 hts3 hts4 hts5 hts6 hts7 hts8 hts9 hts10 hts11
      simp only [putAll,nthO,Act.put,List.setIfInBounds_toArray,List.set_cons_succ,List.set_cons_zero]
      obtain ⟨-,-,-,-,-,h5,-⟩:=hd
      go_wp2_with fail
      exact ⟨Ext.refl _,_,rfl,h5⟩
     ·intro ts wx hts hX hd
      obtain ⟨t0,ts0,rfl,hts0⟩:=vcons hts
      obtain ⟨t1,ts1,rfl,hts1⟩:=vcons hts0
      obtain ⟨t2,ts2,rfl,hts2⟩:=vcons hts1
      obtain ⟨t3,ts3,rfl,hts3⟩:=vcons hts2
      obtain ⟨t4,ts4,rfl,hts4⟩:=vcons hts3
      obtain ⟨t5,ts5,rfl,hts5⟩:=vcons hts4
      obtain ⟨t6,ts6,rfl,hts6⟩:=vcons hts5
      obtain ⟨t7,ts7,rfl,hts7⟩:=vcons hts6
      obtain ⟨t8,ts8,rfl,hts8⟩:=vcons hts7
      obtain ⟨t9,ts9,rfl,hts9⟩:=vcons hts8
      obtain ⟨t10,ts10,rfl,hts10⟩:=vcons hts9
      obtain ⟨t11,ts11,rfl,hts11⟩:=vcons hts10
      obtain rfl:=vnil hts11
      clear hts hts0 hts1 hts2 hts3 hts4 hts5 hts6 hts7 hts8 hts9 hts10 hts11
      simp only [putAll,nthO,Act.put,List.setIfInBounds_toArray,List.set_cons_succ,List.set_cons_zero]
      obtain ⟨-,-,-,-,-,-,⟨a,rfl,h5⟩,-⟩:=hd
      go_wp2_with fail
      exact ⟨Ext.refl _,_,rfl,h5⟩
     ·intro ts wx hts hX hd
      obtain ⟨t0,ts0,rfl,hts0⟩:=vcons hts
      obtain ⟨t1,ts1,rfl,hts1⟩:=vcons hts0
      obtain ⟨t2,ts2,rfl,hts2⟩:=vcons hts1
      obtain ⟨t3,ts3,rfl,hts3⟩:=vcons hts2
      obtain ⟨t4,ts4,rfl,hts4⟩:=vcons hts3
      obtain ⟨t5,ts5,rfl,hts5⟩:=vcons hts4
      obtain ⟨t6,ts6,rfl,hts6⟩:=vcons hts5
      obtain ⟨t7,ts7,rfl,hts7⟩:=vcons hts6
      obtain ⟨t8,ts8,rfl,hts8⟩:=vcons hts7
      obtain ⟨t9,ts9,rfl,hts9⟩:=vcons hts8
      obtain ⟨t10,ts10,rfl,hts10⟩:=vcons hts9
      obtain ⟨t11,ts11,rfl,hts11⟩:=vcons hts10
      obtain rfl:=vnil hts11
      clear hts hts0 hts1 hts2 hts3 hts4 hts5 hts6 hts7 hts8 hts9 hts10 hts11
      simp only [putAll,nthO,Act.put,List.setIfInBounds_toArray,List.set_cons_succ,List.set_cons_zero]
      go_wp2_with fail
      exact ⟨Ext.alloc _ _,_,rfl,⟨_,rfl,Row.new _ _ _,hX.size⟩⟩
    ·refine ⟨?_,trivial⟩
     intro ts wx hts hX hd
     obtain ⟨t0,ts0,rfl,hts0⟩:=vcons hts
     obtain ⟨t1,ts1,rfl,hts1⟩:=vcons hts0
     obtain ⟨t2,ts2,rfl,hts2⟩:=vcons hts1
     obtain ⟨t3,ts3,rfl,hts3⟩:=vcons hts2
     obtain ⟨t4,ts4,rfl,hts4⟩:=vcons hts3
     obtain ⟨t5,ts5,rfl,hts5⟩:=vcons hts4
     obtain ⟨t6,ts6,rfl,hts6⟩:=vcons hts5
     obtain ⟨t7,ts7,rfl,hts7⟩:=vcons hts6
     obtain ⟨t8,ts8,rfl,hts8⟩:=vcons hts7
     obtain ⟨t9,ts9,rfl,hts9⟩:=vcons hts8
     obtain ⟨t10,ts10,rfl,hts10⟩:=vcons hts9
     obtain ⟨t11,ts11,rfl,hts11⟩:=vcons hts10
     obtain rfl:=vnil hts11
     clear hts hts0 hts1 hts2 hts3 hts4 hts5 hts6 hts7 hts8 hts9 hts10 hts11
     simp only [putAll,nthO,Act.put,List.setIfInBounds_toArray,List.set_cons_succ,List.set_cons_zero]
     obtain ⟨-,-,-,-,-,-,⟨a,rfl,h5⟩,-⟩:=hd
     repeat (go_big_quiet_step (fail))
     exact wpQuiet_nil ⟨_,rfl,rfl⟩
    intro ts wx hts hX hd
    obtain ⟨t0,ts0,rfl,hts0⟩:=vcons hts
    obtain ⟨t1,ts1,rfl,hts1⟩:=vcons hts0
    obtain ⟨t2,ts2,rfl,hts2⟩:=vcons hts1
    obtain ⟨t3,ts3,rfl,hts3⟩:=vcons hts2
    obtain ⟨t4,ts4,rfl,hts4⟩:=vcons hts3
    obtain ⟨t5,ts5,rfl,hts5⟩:=vcons hts4
    obtain ⟨t6,ts6,rfl,hts6⟩:=vcons hts5
    obtain ⟨t7,ts7,rfl,hts7⟩:=vcons hts6
    obtain ⟨t8,ts8,rfl,hts8⟩:=vcons hts7
    obtain ⟨t9,ts9,rfl,hts9⟩:=vcons hts8
    obtain ⟨t10,ts10,rfl,hts10⟩:=vcons hts9
    obtain ⟨t11,ts11,rfl,hts11⟩:=vcons hts10
    obtain rfl:=vnil hts11
    clear hts hts0 hts1 hts2 hts3 hts4 hts5 hts6 hts7 hts8 hts9 hts10 hts11
    simp only [putAll,Act.put,List.setIfInBounds_toArray,List.set_cons_succ,List.set_cons_zero]
    obtain ⟨-,-,-,-,-,-,-,⟨C1,C2,C3,C4,C5,j1,f1,j2,f2,j3,f3,j4,f4,j5,f5,r'',loC,hiC,rfl,hlo5,hhi5,hO5,hl5⟩,⟨g,rfl,hg,hgle⟩,h8,-⟩:=hd
    obtain rfl:=h8
    have u0:=hg.cell 0
    have u1:=hg.cell 1
    have u2:=hg.cell 2
    have u3:=hg.cell 3
    have u4:=hg.cell 4
    have uf:=hg.frozen
    have ul:=hg.lt
    simp only [List.getElem?_cons_zero,List.getElem?_cons_succ] at u0 u1 u2 u3 u4
    simp only [wpPhT,pickL,nthO]
    refine wpQuiet_nil ?_
    go_wp2_with fail
    refine ⟨fun _ h=>(by cases h),?_⟩
    repeat (go_big_quiet_step (fail))
    refine wpQuiet_nil ?_
    have rC:=five_row (u0:= .slice C1 j1 f1) (u1:= .slice C2 j2 f2) (u2:= .slice C3 j3 f3) (u3:= .slice C4 j4 f4) (u4:= .slice C5 j5 f5) hg
    have tC:=(Turn.refl (S:=fun b=>b=g) wx).five (g:=g) rfl (.slice C1 j1 f1) (.slice C2 j2 f2) (.slice C3 j3 f3) (.slice C4 j4 f4) (.slice C5 j5 f5)
    have hX5:Ext wr (((((wx.setCell ⟨g,0,none⟩ (.slice C1 j1 f1)).setCell ⟨g,1,none⟩ (.slice C2 j2 f2)).setCell ⟨g,2,none⟩ (.slice C3 j3 f3)).setCell ⟨g,3,none⟩ (.slice C4 j4 f4)).setCell ⟨g,4,none⟩ (.slice C5 j5 f5)):=hX.turn tC (fun b hb=>by omega)
    have hO5:=hO5.turnR tC (fun b hb=>by subst hb; exact ⟨_,hg⟩)
    have hhi5:=Nat.le_trans hhi5 tC.size
    generalize (((((wx.setCell ⟨g,0,none⟩ (.slice C1 j1 f1)).setCell ⟨g,1,none⟩ (.slice C2 j2 f2)).setCell ⟨g,2,none⟩ (.slice C3 j3 f3)).setCell ⟨g,3,none⟩ (.slice C4 j4 f4)).setCell ⟨g,4,none⟩ (.slice C5 j5 f5))=w5 at *
    clear u0 u1 u2 u3 u4 uf ul tC hg hX
    have hrow5:=hrow.ext hX5
    have hz5:=hX5.size
    have hzr:w.heap.size≤wr.heap.size:=XR.size
    cases hab:appB (o1:Int) Y x
    ·have HST:Hid (replR (ns.length:Int) R0 (es.take (k+1))=((replR (ns.length:Int) R0 (es.take k)).1,(replR (ns.length:Int) R0 (es.take k)).2+1)):=hide (by
      rw [replR_take HX.out]; unfold stepE
      rw [←appB_like HLK.out,if_neg (by rw [HN1.out,hab]; decide)])
     have hcode:(applyRR (o1:Int) Y x).2=5:=by unfold applyRR; rw [if_neg (by rw [hokR]; decide),if_neg (by rw [hev]; decide),if_pos hab]
     rw [hcode]
     clear hO5 hl5 hlo5 hhi5 hcode
     go_wp2_with fail
     go_roundw
     case rel=>
      refine ⟨k+1,m+1,by omega,by first | rfl | (rw [e1]) | go_num,by go_num,⟨htn.trans (Turn.of_ext hX5),⟨O1,O2,O3,O4,O5,o1,q1,o2,q2,o3,q3,o4,q4,o5,q5,Y,hrow5,(hRo.ext hX5).wider (Nat.le_refl _) hz5,hne,by rw [HST.out]; exact HLK.out,by rw [HST.out]; exact congrArg (· +1) HMM.out⟩⟩⟩
     case measure=>simp [intOf]; omega
    ·have HST:Hid (replR (ns.length:Int) R0 (es.take (k+1))=(appR (replR (ns.length:Int) R0 (es.take k)).1 x,(replR (ns.length:Int) R0 (es.take k)).2)):=hide (by
      rw [replR_take HX.out]; unfold stepE
      rw [←appB_like HLK.out,if_pos (by rw [HN1.out]; exact hab)])
     have hval:applyRR (o1:Int) Y x=(appR Y x,0):=by unfold applyRR; rw [if_neg (by rw [hokR]; decide),if_neg (by rw [hev]; decide),if_neg (by rw [hab]; decide)]
     rw [hval] at hl5 ⊢
     have HO5:=hide hO5
     have HL5:=hide hl5
     clear hO5 hl5 p0 p1 p2 p3 p4 pf pl hval
     have p0:=hrow5.cell 0
     have p1:=hrow5.cell 1
     have p2:=hrow5.cell 2
     have p3:=hrow5.cell 3
     have p4:=hrow5.cell 4
     have pf:=hrow5.frozen
     have pl:=hrow5.lt
     simp only [List.getElem?_cons_zero,List.getElem?_cons_succ] at p0 p1 p2 p3 p4
     have hgl2:=hrow.lt
     obtain ⟨ul,u0,u1,u2,u3,u4⟩:=row_in rC
     go_wp2_with fail
     go_roundw
     case rel=>
      have t5:=(Turn.refl (S:=fun b=>b=w12.heap.size) w5).five (g:=w12.heap.size) rfl (.slice C1 j1 f1) (.slice C2 j2 f2) (.slice C3 j3 f3) (.slice C4 j4 f4) (.slice C5 j5 f5)
      refine ⟨k+1,m,by omega,rfl,by go_num,⟨(htn.trans (Turn.of_ext hX5)).trans t5,⟨C1,C2,C3,C4,C5,j1,f1,j2,f2,j3,f3,j4,f4,j5,f5,r'',five_row hrow5,(HO5.out.turnR t5 (fun b hb=>by subst hb; exact ⟨_,hrow5⟩)).wider (by omega) (Nat.le_trans hhi5 t5.size),fun b hb=> ?_,by rw [HST.out]; exact HL5.out.trans (appR_like HLK.out x),by rw [HST.out]; exact HMM.out⟩⟩⟩
      have hq1:=HO5.out.rblk hb
      omega
     case measure=>simp [intOf]; omega
   ·obtain rfl:es.length=k:=by omega
    have hIr:=hIg.turn htn (fun (e:w3.heap.size=w12.heap.size)=>by omega)
    have hir:=hiog.at_.turnB htn (fun b hb hS=>by have:=hi4 b hb; omega)
    have eM:=HMM.out
    have eL:=HLK.out
    rw [List.take_length] at eM eL
    have hleft:R.2.1=(m:Int):=by rw [HRV.out,eM]
    have hlike:Y.Like ri:=by
     have:=HIL.out
     rw [HRV.out] at this
     exact eL.trans this.symm
    have HLL:=hide hlike
    have t0:=(hIr).cell 0
    have t1:=(hIr).cell 1
    have t2:=(hIr).cell 2
    have t3:=(hIr).cell 3
    have t4:=(hIr).cell 4
    simp at t0 t1 t2 t3 t4
    have tf:=(hIr).frozen
    have tl:=(hIr).lt
    clear hIr eM eL hlike
    go_wp2_with fail
    refine (c_likeRooms O1 O2 O3 O4 O5 o1 q1 o2 q2 o3 q3 o4 q4 o5 q5 I1 I2 I3 I4 I5 i1 e1 i2 e2 i3 e3 i4 e4 i5 e5 Y ri _ hRo.at_ hir HLL.out).mono ?_
    rintro e w13 ⟨rfl,hx13⟩
    go_wp2_with fail
    go_ret
    exact Ret.bool rfl (XR.trans hx13)
 ·have hcb:(R.2.2 != 0)=true:=by rw [bne_iff_ne]; exact hbad
  go_wp2_with fail
  go_ret
  exact Ret.bool rfl X7
end Go.Proofs.YtinindjjapblcaaGreatDoor
