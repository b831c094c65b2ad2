/-
  FnSettledRooms: for every code the law returns true and the code reads as before.
-/
import Derived.Test.YtfkpghdmljjegaaGreatVd25
import Derived.Test.YtfkpghdmljjegaaGreatVd46
import Derived.Test.YtfkpghdmljjegaaGreatVd03
namespace Go.Proofs.YtfkpghdmljjegaaGreat
open Go.RowKit Go.ChangeShapes Go.WideShapes Go.ChangeAt Go.Deep Go.Joins
theorem srV_zero {n1:Nat} {r:Room} {band percent price:Int} {ts:List Tier} {P:List Posting} (h:srV n1 r band percent price ts=(P,0)):
  roomB n1 r=true∧isTermsB band percent price ts=true∧rdB n1 (r.rs.take (r.rs.length-1))=true∧HrOk n1 r.ns r.ps r.xs r.L 0∧r.rs.length-1≤48∧P=hsL r.ps n1 r.xs r.L 0 (r.rs.take (r.rs.length-1)) band percent price ts (r.rs.length-1):=by
 unfold srV at h
 split at h
 ·rename_i hr
  unfold hsV at h
  split at h
  ·rename_i hc
   obtain ⟨h1,h2,h3,h4,h5,h6⟩:=hsC_ok hc
   have hl:(r.rs.take (r.rs.length-1)).length=r.rs.length-1:=by rw [List.length_take]; omega
   rw [hl] at h h5
   refine ⟨hr,h2,h3,h4,h5,?_⟩
   split at h
   ·injection h with _ h; cases h
   ·injection h with h _; exact h.symm
  ·rename_i hc
   injection h with _ h
   exact absurd h hc
 ·injection h with _ h; cases h
set_option maxRecDepth 20000 in
set_option maxHeartbeats 8000000 in
theorem law_SettledRooms (A:Option Addr) (n c:Nat) (bs:List Int) (w:World) (hbs:SliceOf w 1 byteC A n c bs) (hbd:∀z∈bs,0≤z∧z≤255):
  Calls Tryz.prog 8 #[.slice A n c] w (Ret (.bool true) w):=by
 have HD:=hide hbd
 clear hbd
 by_cases hbig:(4096:Int)<n
 ·have hb:decide ((4096:Int)<n)=true:=by simpa using hbig
  go_enter Tryz.func8,Tryz.ntmps8
  go_wp2_with fail
  refine (c_big A n c _).mono ?_
  rw [hb]
  rintro e w' ⟨rfl,rfl⟩
  go_wp2_with fail
  go_ret
  exact Ret.bool rfl (Ext.refl _)
 have hb:decide ((4096:Int)<n)=false:=by simpa using hbig
 go_enter Tryz.func8,Tryz.ntmps8
 go_wp2_with fail
 refine (c_big A n c _).mono ?_
 rw [hb]
 rintro e w' ⟨rfl,rfl⟩
 clear hb
 go_wp2_with fail
 refine (c_DrawSettleRoom A n c bs _ hbs HD.out (by omega)).mono ?_
 rintro e w1 ⟨C1,C2,C3,C4,C5,l1,f1,l2,f2,l3,f3,l4,f4,l5,f5,r,band,percent,price,K,kn,kc,ts,rfl,hat,hsz,hL,hrs,hq,hK,hx1⟩
 have HNM:=hide (show ∀x∈r.ns,x.name.size≤1048576 from fun x hx=>Nat.le_trans (hsz.nm x hx) (by omega))
 have HL5:=hide hat.s5.len
 have hl50:l5≤50:=by rw [HL5.out]; exact hrs
 clear hsz hL hrs hq hbs
 obtain ⟨W1,HW1⟩:∃W1,Hid ((w1.alloc (.cells #[.slice C1 l1 f1,.slice C2 l2 f2,.slice C3 l3 f3,.slice C4 l4 f4,.slice C5 l5 f5] 82)).alloc (.cells #[.int .i64 band,.int .i64 percent,.int .i64 price,.slice K kn kc] 73)=W1):=⟨_,hide rfl⟩
 have hx1':Ext w1 W1:=by rw [←HW1.out]; exact (Ext.alloc _ _).and_alloc _
 have hC:RoomIn W1 w1.heap.size C1 C2 C3 C4 C5 l1 f1 l2 f2 l3 f3 l4 f4 l5 f5:=by rw [←HW1.out]; exact (RoomIn.new w1 _ _ _ _ _ _ _ _ _ _ _ _ _ _ _ _).ext (Ext.alloc _ _)
 have hT:Row W1 (w1.heap.size+1) 73 [.int .i64 band,.int .i64 percent,.int .i64 price,.slice K kn kc]:=by rw [←HW1.out]; exact Row.newG (W:=w1.alloc (.cells #[.slice C1 l1 f1,.slice C2 l2 f2,.slice C3 l3 f3,.slice C4 l4 f4,.slice C5 l5 f5] 82)) _ [.int .i64 band,.int .i64 percent,.int .i64 price,.slice K kn kc] (by simp)
 obtain ⟨RR,HRR⟩:∃RR,Hid (srV l1 r band percent price ts=RR):=⟨_,hide rfl⟩
 have hsm:RR.1.length≤300:=by rw [←HRR.out]; exact srV_len
 have hat1:=hat.ext hx1'
 have hK1:=hK.ext hx1'
 have X1:=hx1.trans hx1'
 clear hat hK hx1 hx1'
 go_wp2_with fail
 rw [HW1.out]
 refine (c_SettleRoom C1 C2 C3 C4 C5 l1 f1 l2 f2 l3 f3 l4 f4 l5 f5 r band percent price K kn kc ts _ hat1 hK1).mono ?_
 rw [HRR.out]
 rintro e w2 ⟨v2,p2,z2,rfl,ho2,hx2,HP2⟩
 obtain ⟨rfl,rfl⟩:p2=RR.1∧z2=RR.2:=by have:=HP2.out; exact ⟨congrArg Prod.fst this,congrArg Prod.snd this⟩
 obtain ⟨P2,c2,rfl,hp2⟩:=ho2.sl post_len (by omega)
 obtain ⟨cl,y0,y1,y2,y3,y4⟩:=hC.ext (hx2)
 have hTr:=hT.ext (hx2)
 have j0:=hTr.cell 0
 have j1:=hTr.cell 1
 have j2:=hTr.cell 2
 have j3:=hTr.cell 3
 simp at j0 j1 j2 j3
 have hjl:=hTr.lt
 go_wp2_with fail
 refine (c_specSettleRoom C1 C2 C3 C4 C5 l1 f1 l2 f2 l3 f3 l4 f4 l5 f5 r band percent price K kn kc ts _ (hat1.ext hx2) (hK1.ext hx2) HNM.out).mono ?_
 rw [HRR.out]
 rintro e w3 ⟨v3,p3,z3,rfl,ho3,hx3,HP3⟩
 obtain ⟨rfl,rfl⟩:p3=RR.1∧z3=RR.2:=by have:=HP3.out; exact ⟨congrArg Prod.fst this,congrArg Prod.snd this⟩
 obtain ⟨P3,c3,rfl,hp3⟩:=ho3.sl post_len (by omega)
 clear ho2 ho3
 clear cl y0 y1 y2 y3 y4
 clear hTr j0 j1 j2 j3 hjl
 go_wp2_with fail
 refine (c_likePostings _ _ _ _ _ _ RR.1 _ (hp2.ext hx3) hp3).mono ?_
 rintro e w4 ⟨rfl,hx4⟩
 have hx24:=hx3.trans hx4
 have hx14:=hx2.trans hx24
 have hp4:=hp2.ext hx24
 clear hp2 hp3 hx2 hx3 hx4 hx24
 by_cases hz:RR.2=0
 ·obtain ⟨hrb,hte,hrd,hk0,h48,hPL⟩:=srV_zero (P:=RR.1) (by rw [HRR.out, ←hz])
  have HRB:=hide hrb
  have HTE:=hide hte
  have HRD:=hide hrd
  have HK0:=hide hk0
  have HPL:=hide hPL
  have hp5:1≤l5:=by have:=room_pos hrb; have:=HL5.out; omega
  have hl48:l5-1≤48:=by rw [HL5.out]; exact h48
  obtain ⟨m5,hm5⟩:∃m5,l5=m5+1:=⟨l5-1,by omega⟩
  have HM5:=hide hm5
  have em:((l5:Int)-1)=(m5:Int):=by omega
  have hm48:m5≤48:=by omega
  obtain ⟨pl,hpl⟩:∃pl,RR.1=pl:=⟨_,rfl⟩
  have HPP:Hid (pl=hsL r.ps l1 r.xs r.L 0 (r.rs.take m5) band percent price ts m5):=hide (by rw [←hpl,HPL.out]; have e:r.rs.length-1=m5:=(by have:=HL5.out; omega); rw [e])
  rw [hpl] at hp4
  rw [hpl,hz]
  have hpl300:pl.length≤300:=by rw [←hpl]; exact hsm
  have HOUR:Hid (hourR l1 r=((m5:Int),0)):=hide (by unfold hourR; rw [HRB.out,if_pos rfl]; have:=HL5.out; congr 1; omega)
  clear hrb hte hrd hk0 hPL HPL hpl hz h48 hm5 hsm HRR HP2 HP3
  obtain ⟨cl,y0,y1,y2,y3,y4⟩:=hC.ext (hx14)
  go_wp2_with fail
  refine (c_CurrentHour C1 C2 C3 C4 C5 l1 f1 l2 f2 l3 f3 l4 f4 l5 f5 r _ (hat1.ext hx14)).mono ?_
  rw [HOUR.out]
  rintro e w5 ⟨rfl,hx5⟩
  clear cl y0 y1 y2 y3 y4
  have hx15:=hx14.trans hx5
  have hp5':=hp4.ext hx5
  obtain ⟨w6,HW6⟩:∃w6,Hid (w5.alloc (.cells #[] 188)=w6):=⟨_,hide rfl⟩
  have hx6:Ext w5 w6:=by rw [←HW6.out]; exact Ext.alloc _ _
  have ho0:OwnL w6 w5.heap.size 188 4 Posting.cells (.slice (some ⟨w5.heap.size,0,none⟩) 0 0) ([]:List Posting):=by rw [←HW6.out]; exact OwnL.empty w5 _ _ _ _ (Nat.le_refl _)
  have hsz15:=hx15.size
  clear hx14 hx5 hp4
  go_wp2_with fail
  rw [HW6.out]
  go_loopw [11,12] (fun v i wr=>∃(k:Nat) (Q:List Posting),k≤m5∧i= .int .i64 k∧OwnL wr w5.heap.size 188 4 Posting.cells v Q∧Q.length≤32*k∧Hid (Q=hsL r.ps l1 r.xs r.L 0 (r.rs.take m5) band percent price ts k)∧Ext w5 wr) (fun _ i _=>m5-(intOf i).toNat)
  case atStart=>exact ⟨0,[],Nat.zero_le _,rfl,ho0,by simp,hide rfl,hx6⟩
  case round=>
   clear ho0 hx6
   obtain ⟨k,Q,hk,rfl,ho,hQl,HQ,hxw⟩:=hrel
   have hx:=hx15.trans hxw
   by_cases hlt:k<m5
   ·obtain ⟨bb,off,p,hA,hbb,hxk,t⟩:=((hat1.ext hx).s5).get (k:=k) (by have:=HM5.out; omega)
    have tt:=t 0 _ rfl
    simp only [Nat.add_zero,Nat.mul_one] at tt
    have HX:=hide hxk
    have HPM:=hide (List.mem_of_getElem? hxk)
    have hkl:k<l5:=by have:=HM5.out; omega
    subst hA
    clear hxk t
    have HXT:Hid ((r.rs.take m5)[k]? =some p):=hide (by rw [List.getElem?_take,if_pos hlt]; exact HX.out)
    have HRDK:Hid (readsB l1 p.xs=true):=hide (by
     have h0:=HRD.out
     have e:r.rs.length-1=m5:=by have:=HL5.out; have:=HM5.out; omega
     rw [e] at h0
     unfold rdB at h0
     rw [List.all_eq_true] at h0
     exact h0 p (List.mem_of_getElem? HXT.out))
    have hk0':=HK0.out.at_hour (k:=k) (by omega)
    rw [show (0:Int)+(k:Int)=k by omega] at hk0'
    have HSV:Hid (shV l1 r.ns r.ps r.xs r.L k p.xs band percent price ts=(stlH r.ps l1 r.xs r.L k p.xs band percent price ts,0)):=hide (shV_ok hk0' HTE.out HRDK.out)
    have HSP:Hid (hsL r.ps l1 r.xs r.L 0 (r.rs.take m5) band percent price ts (k+1)=Q++(stlH r.ps l1 r.xs r.L k p.xs band percent price ts).psn):=hide (by
     simp only [hsL]
     rw [←HQ.out]
     unfold rdK
     rw [HXT.out,show (0:Int)+(k:Int)=k by omega]; rfl)
    have HP32:=hide (stlH_psn r.ps l1 r.xs r.L k p.xs band percent price ts)
    have HOB:Hid (∀j,u11.ownBlock=some j→w5.heap.size≤j∧j<wr.heap.size):=hide (fun j hj=>⟨ho.block_le hj,(ho.ltG hj).2⟩)
    clear hk0'
    generalize stlH r.ps l1 r.xs r.L k p.xs band percent price ts=X at *
    obtain ⟨cl,y0,y1,y2,y3,y4⟩:=hC.ext (hx)
    go_wp2_with fail
    clear cl y0 y1 y2 y3 y4
    refine wp_region_KP [KC (.pointer (some ⟨w1.heap.size,0,none⟩)),KC (.agg #[.slice C1 l1 f1,.slice C2 l2 f2]),KC (.pointer (some ⟨w1.heap.size,2,none⟩)),KC (.slice C3 l3 f3),KC (.pointer (some ⟨w1.heap.size,3,none⟩)),KC (.slice C4 l4 f4),KC (.int .i64 k),KC (.pointer (some ⟨w1.heap.size,4,none⟩)),KC (.slice (some ⟨bb,off,none⟩) l5 f5),KC (.int .i64 k),KC (.pointer (some ⟨bb,off+k,none⟩)),KC (.slice p.A p.n p.c),KC (.agg #[.int .i64 band,.int .i64 percent,.int .i64 price,.slice K kn kc]),KSC (X,0),KSC (X,0),KStl X,KC (.int .i64 0),KR wr.heap.size 28 [.slice none 0 0,.slice none 0 0,.slice none 0 0,.slice none 0 0,.slice none 0 0]]
     [0,1,2,3,4,5,6,7,8,9,10,11,12,13,14,15,17] [16] [[],[0],[],[2],[],[4],[],[],[7],[],[7,8,9],[7,8,9,10],[],[0,1,2,3,4,5,6,7,8,9,10,11,12],[0,1,2,3,4,5,6,7,8,9,10,11,12,13],[0,1,2,3,4,5,6,7,8,9,10,11,12,13,14],[0,1,2,3,4,5,6,7,8,9,10,11,12,13,14],[],[0,1,2,3,4,5,6,7,8,9,10,11,12,13,14,15,17],[0,1,2,3,4,5,6,7,8,9,10,11,12,13,14,15,16,17,18]] [] (.one [] 18 (.last [19])) (by kernel_rfl) (by kernel_rfl) (by intro c a w d v h; cases d <;> exact h) (by simp) ⟨stKC _,stKC _,stKC _,stKC _,stKC _,stKC _,stKC _,stKC _,stKC _,stKC _,stKC _,stKC _,stKC _,stKSC _,stKSC _,stKStl _,stKC _,stKR _ _ _,trivial⟩ ?_ ?_ ?_
    ·refine ⟨?_,?_,?_,?_,?_,?_,?_,?_,?_,?_,?_,?_,?_,?_,?_,?_,?_,trivial⟩
     all_goals
      intro ts' wx hts hX hd
      obtain ⟨t0,ts0,rfl,hts0⟩:=vcons hts
      obtain ⟨t1,ts1,rfl,hts1⟩:=vcons hts0
      obtain ⟨t2,ts2,rfl,hts2⟩:=vcons hts1
      obtain ⟨t3,ts3,rfl,hts3⟩:=vcons hts2
      obtain ⟨t4,ts4,rfl,hts4⟩:=vcons hts3
      obtain ⟨t5,ts5,rfl,hts5⟩:=vcons hts4
      obtain ⟨t6,ts6,rfl,hts6⟩:=vcons hts5
      obtain ⟨t7,ts7,rfl,hts7⟩:=vcons hts6
      obtain ⟨t8,ts8,rfl,hts8⟩:=vcons hts7
      obtain ⟨t9,ts9,rfl,hts9⟩:=vcons hts8
      obtain ⟨t10,ts10,rfl,hts10⟩:=vcons hts9
      obtain ⟨t11,ts11,rfl,hts11⟩:=vcons hts10
      obtain ⟨t12,ts12,rfl,hts12⟩:=vcons hts11
      obtain ⟨t13,ts13,rfl,hts13⟩:=vcons hts12
      obtain ⟨t14,ts14,rfl,hts14⟩:=vcons hts13
      obtain ⟨t15,ts15,rfl,hts15⟩:=vcons hts14
      obtain ⟨t16,ts16,rfl,hts16⟩:=vcons hts15
      obtain ⟨t17,ts17,rfl,hts17⟩:=vcons hts16
      obtain ⟨t18,ts18,rfl,hts18⟩:=vcons hts17
      obtain ⟨t19,ts19,rfl,hts19⟩:=vcons hts18
      obtain rfl:=vnil hts19
      clear hts hts0 hts1 hts2 hts3 hts4 hts5 hts6 hts7 hts8 hts9 hts10 hts11 hts12 hts13 hts14 hts15 hts16 hts17 hts18 hts19
      simp only [putAll,nthO,Act.put,List.setIfInBounds_toArray,List.set_cons_succ,List.set_cons_zero]
     ·go_wp2_with fail
      exact ⟨Ext.refl _,_,rfl,rfl⟩
     ·obtain ⟨rfl,-⟩:=hd
      obtain ⟨cl,y0,y1,y2,y3,y4⟩:=hC.ext (hx.trans hX)
      go_wp2_with fail
      exact ⟨Ext.refl _,_,rfl,rfl⟩
     ·go_wp2_with fail
      exact ⟨Ext.refl _,_,rfl,rfl⟩
     ·obtain ⟨rfl,-⟩:=hd
      obtain ⟨cl,y0,y1,y2,y3,y4⟩:=hC.ext (hx.trans hX)
      go_wp2_with fail
      exact ⟨Ext.refl _,_,rfl,rfl⟩
     ·go_wp2_with fail
      exact ⟨Ext.refl _,_,rfl,rfl⟩
     ·obtain ⟨rfl,-⟩:=hd
      obtain ⟨cl,y0,y1,y2,y3,y4⟩:=hC.ext (hx.trans hX)
      go_wp2_with fail
      exact ⟨Ext.refl _,_,rfl,rfl⟩
     ·go_wp2_with fail
      exact ⟨Ext.refl _,_,rfl,rfl⟩
     ·go_wp2_with fail
      exact ⟨Ext.refl _,_,rfl,rfl⟩
     ·obtain ⟨rfl,-⟩:=hd
      obtain ⟨cl,y0,y1,y2,y3,y4⟩:=hC.ext (hx.trans hX)
      go_wp2_with fail
      exact ⟨Ext.refl _,_,rfl,rfl⟩
     ·go_wp2_with fail
      exact ⟨Ext.refl _,_,rfl,rfl⟩
     ·obtain ⟨-,rfl,rfl,-⟩:=hd
      go_wp2_with fail
      exact ⟨Ext.refl _,_,rfl,rfl⟩
     ·obtain ⟨-,-,-,rfl,-⟩:=hd
      have tt2:=((hX.cell _ _ hbb).trans tt)
      have hbb2:=Nat.lt_of_lt_of_le hbb hX.size
      go_wp2_with fail
      exact ⟨Ext.refl _,_,rfl,rfl⟩
     ·have hTr:=hT.ext (hx.trans hX)
      have j0:=hTr.cell 0
      have j1:=hTr.cell 1
      have j2:=hTr.cell 2
      have j3:=hTr.cell 3
      simp at j0 j1 j2 j3
      have hjl:=hTr.lt
      go_wp2_with fail
      exact ⟨Ext.refl _,_,rfl,rfl⟩
     ·obtain ⟨-,rfl,-,rfl,-,rfl,rfl,-,-,-,-,rfl,rfl,-⟩:=hd
      go_wp2_with fail
      refine (c_SettleHour C1 C2 l1 f1 l2 f2 r.ns r.ps C3 l3 f3 r.xs C4 l4 f4 r.L k p.A p.n p.c p.xs band percent price K kn kc ts _ (hat1.ext (hx.trans hX)).s1 (hat1.ext (hx.trans hX)).s2 (hat1.ext (hx.trans hX)).s3 (hat1.ext (hx.trans hX)).s4 ((hat1.ext (hx.trans hX)).s6 p HPM.out) (hK1.ext (hx.trans hX))).mono ?_
      rw [HSV.out]
      rintro e wy ⟨A0,A1',A2',A3,A4,m0,d0,m1,d1,m2,d2,m3,d3,m4,d4,X',z',rfl,hXo,hxy,HPX⟩
      obtain ⟨rfl,rfl⟩:X'=X∧z'=0:=by have:=HPX.out; exact ⟨congrArg Prod.fst this,congrArg Prod.snd this⟩
      go_wp2_with fail
      exact ⟨hxy,_,rfl,⟨_,rfl,A0,A1',A2',A3,A4,m0,d0,m1,d1,m2,d2,m3,d3,m4,d4,rfl,hXo.at_⟩⟩
     ·obtain ⟨-,-,-,-,-,-,-,-,-,-,-,-,-,hk13,-⟩:=hd
      go_wp2_with fail
      exact ⟨Ext.refl _,_,rfl,hk13⟩
     ·obtain ⟨-,-,-,-,-,-,-,-,-,-,-,-,-,-,⟨a,rfl,hk14⟩,-⟩:=hd
      go_wp2_with fail
      exact ⟨Ext.refl _,hk14⟩
     ·go_wp2_with fail
      exact ⟨Ext.alloc _ _,_,rfl,⟨_,rfl,Row.new _ _ _,hX.size⟩⟩
    ·refine ⟨?_,trivial⟩
     intro ts' wx hts hX hd
     obtain ⟨t0,ts0,rfl,hts0⟩:=vcons hts
     obtain ⟨t1,ts1,rfl,hts1⟩:=vcons hts0
     obtain ⟨t2,ts2,rfl,hts2⟩:=vcons hts1
     obtain ⟨t3,ts3,rfl,hts3⟩:=vcons hts2
     obtain ⟨t4,ts4,rfl,hts4⟩:=vcons hts3
     obtain ⟨t5,ts5,rfl,hts5⟩:=vcons hts4
     obtain ⟨t6,ts6,rfl,hts6⟩:=vcons hts5
     obtain ⟨t7,ts7,rfl,hts7⟩:=vcons hts6
     obtain ⟨t8,ts8,rfl,hts8⟩:=vcons hts7
     obtain ⟨t9,ts9,rfl,hts9⟩:=vcons hts8
     obtain ⟨t10,ts10,rfl,hts10⟩:=vcons hts9
     obtain ⟨t11,ts11,rfl,hts11⟩:=vcons hts10
     obtain ⟨t12,ts12,rfl,hts12⟩:=vcons hts11
     obtain ⟨t13,ts13,rfl,hts13⟩:=vcons hts12
     obtain ⟨t14,ts14,rfl,hts14⟩:=vcons hts13
     obtain ⟨t15,ts15,rfl,hts15⟩:=vcons hts14
     obtain ⟨t16,ts16,rfl,hts16⟩:=vcons hts15
     obtain ⟨t17,ts17,rfl,hts17⟩:=vcons hts16
     obtain ⟨t18,ts18,rfl,hts18⟩:=vcons hts17
     obtain ⟨t19,ts19,rfl,hts19⟩:=vcons hts18
     obtain rfl:=vnil hts19
     clear hts hts0 hts1 hts2 hts3 hts4 hts5 hts6 hts7 hts8 hts9 hts10 hts11 hts12 hts13 hts14 hts15 hts16 hts17 hts18 hts19
     simp only [putAll,nthO,Act.put,List.setIfInBounds_toArray,List.set_cons_succ,List.set_cons_zero]
     obtain ⟨-,-,-,-,-,-,-,-,-,-,-,-,-,-,⟨a,rfl,hk14⟩,-⟩:=hd
     repeat (go_big_quiet_step (fail))
     exact wpQuiet_nil ⟨_,rfl,rfl⟩
    ·
     intro ts' wx hts hX hd
     obtain ⟨t0,ts0,rfl,hts0⟩:=vcons hts
     obtain ⟨t1,ts1,rfl,hts1⟩:=vcons hts0
     obtain ⟨t2,ts2,rfl,hts2⟩:=vcons hts1
     obtain ⟨t3,ts3,rfl,hts3⟩:=vcons hts2
     obtain ⟨t4,ts4,rfl,hts4⟩:=vcons hts3
     obtain ⟨t5,ts5,rfl,hts5⟩:=vcons hts4
     obtain ⟨t6,ts6,rfl,hts6⟩:=vcons hts5
     obtain ⟨t7,ts7,rfl,hts7⟩:=vcons hts6
     obtain ⟨t8,ts8,rfl,hts8⟩:=vcons hts7
     obtain ⟨t9,ts9,rfl,hts9⟩:=vcons hts8
     obtain ⟨t10,ts10,rfl,hts10⟩:=vcons hts9
     obtain ⟨t11,ts11,rfl,hts11⟩:=vcons hts10
     obtain ⟨t12,ts12,rfl,hts12⟩:=vcons hts11
     obtain ⟨t13,ts13,rfl,hts13⟩:=vcons hts12
     obtain ⟨t14,ts14,rfl,hts14⟩:=vcons hts13
     obtain ⟨t15,ts15,rfl,hts15⟩:=vcons hts14
     obtain ⟨t16,ts16,rfl,hts16⟩:=vcons hts15
     obtain ⟨t17,ts17,rfl,hts17⟩:=vcons hts16
     obtain ⟨t18,ts18,rfl,hts18⟩:=vcons hts17
     obtain ⟨t19,ts19,rfl,hts19⟩:=vcons hts18
     obtain rfl:=vnil hts19
     clear hts hts0 hts1 hts2 hts3 hts4 hts5 hts6 hts7 hts8 hts9 hts10 hts11 hts12 hts13 hts14 hts15 hts16 hts17 hts18 hts19
     simp only [putAll,Act.put,List.setIfInBounds_toArray,List.set_cons_succ,List.set_cons_zero]
     obtain ⟨-,-,-,-,-,-,-,-,-,-,-,-,-,-,-,h15,⟨gS,rfl,hg,hgl⟩,h16,-⟩:=hd
     obtain ⟨S0,S1,S2,S3,S4,s0,e0,s1,e1,s2,e2,s3,e3,s4,e4,rfl,hS0⟩:=h15
     obtain rfl:=h16
     have p0:=hg.cell 0
     have p1:=hg.cell 1
     have p2:=hg.cell 2
     have p3:=hg.cell 3
     have p4:=hg.cell 4
     have pf:=hg.frozen
     have pl':=hg.lt
     simp only [List.getElem?_cons_zero,List.getElem?_cons_succ] at p0 p1 p2 p3 p4
     simp only [wpPhT,pickL,nthO]
     refine wpQuiet_nil ?_
     go_wp2_with fail
     refine ⟨fun _ h=>(by cases h),?_⟩
     repeat (go_big_quiet_step (fail))
     refine wpQuiet_nil ?_
     have rS:=five_rowS (u0:= .slice S0 s0 e0) (u1:= .slice S1 s1 e1) (u2:= .slice S2 s2 e2) (u3:= .slice S3 s3 e3) (u4:= .slice S4 s4 e4) hg
     have tS:=Turn.fiveS (g:=gS) wx (.slice S0 s0 e0) (.slice S1 s1 e1) (.slice S2 s2 e2) (.slice S3 s3 e3) (.slice S4 s4 e4)
     have hX3:Ext wr (((((wx.setCell ⟨gS,0,none⟩ (.slice S0 s0 e0)).setCell ⟨gS,1,none⟩ (.slice S1 s1 e1)).setCell ⟨gS,2,none⟩ (.slice S2 s2 e2)).setCell ⟨gS,3,none⟩ (.slice S3 s3 e3)).setCell ⟨gS,4,none⟩ (.slice S4 s4 e4)):=hX.turn tS (fun b hb=>by omega)
     have hS:StlAt (((((wx.setCell ⟨gS,0,none⟩ (.slice S0 s0 e0)).setCell ⟨gS,1,none⟩ (.slice S1 s1 e1)).setCell ⟨gS,2,none⟩ (.slice S2 s2 e2)).setCell ⟨gS,3,none⟩ (.slice S3 s3 e3)).setCell ⟨gS,4,none⟩ (.slice S4 s4 e4)) S0 S1 S2 S3 S4 s0 e0 s1 e1 s2 e2 s3 e3 s4 e4 X:=smFar hS0 hg tS
     generalize (((((wx.setCell ⟨gS,0,none⟩ (.slice S0 s0 e0)).setCell ⟨gS,1,none⟩ (.slice S1 s1 e1)).setCell ⟨gS,2,none⟩ (.slice S2 s2 e2)).setCell ⟨gS,3,none⟩ (.slice S3 s3 e3)).setCell ⟨gS,4,none⟩ (.slice S4 s4 e4))=wS at *
     clear p0 p1 p2 p3 p4 pf pl' tS hS0 hg
     have q4:=rS.cell 4
     simp only [List.getElem?_cons_zero,List.getElem?_cons_succ] at q4
     have ql:=rS.lt
     have hs4:=hS.s4
     have HL4:=hide hs4.len
     go_wp2_with (at_builtin; go_must (refine wpList_append_grow rfl _ _ 26 rfl w5.heap.size 188 _ 4 32 Tryz.underlying26 posting_info rfl (by decide) Posting.cells post_len post_one u11 Q rfl (ho.ext hX3) S4 s4 e4 _ rfl hs4 (by have:=HP32.out; have:=HL4.out; omega) (by omega) (by have:=hxw.size; have:=hX3.size; omega) ?_))
     intro v7 w7 ho7 hg7
     have hx7:=(hxw.trans hX3).grown hg7 (fun j hj=>(HOB.out j hj).1)
     have hq32:(Q++X.psn).length≤32*(k+1):=by rw [List.length_append]; have:=HP32.out; omega
     rw [←HSP.out] at ho7 hq32
     clear ho hg7 hs4 hS rS q4 ql hX3 hX
     go_wp2_with fail
     go_roundw
     case rel=>exact ⟨k+1,_,by omega,by go_num,ho7,hq32,hide rfl,hx7⟩
     case measure=>simp [intOf]; omega
   ·obtain rfl:k=m5:=by omega
    obtain rfl:Q=pl:=by rw [HQ.out,HPP.out]
    obtain ⟨PA,pc,rfl,-⟩:=ho.form
    obtain ⟨cl,y0,y1,y2,y3,y4⟩:=hC.ext (hx)
    go_wp2_with fail
    refine (c_likePostings PA P2 Q.length pc Q.length c2 Q _ (ho.slE post_len (by omega)) (hp5'.ext hxw)).mono ?_
    rintro e w8 ⟨rfl,hx8⟩
    go_wp2_with fail
    go_ret
    exact Ret.bool rfl (X1.trans (hx.trans hx8))
 ·have hb:(RR.2 != 0)=true:=by rw [bne_iff_ne]; exact hz
  go_wp2_with fail
  go_ret
  exact Ret.bool rfl (X1.trans hx14)
set_option maxRecDepth 100000 in
theorem lifted_SettledRooms (os:Os) (started:os.Started) (H:Type) (enc:TypeId×Value→H):
  ReturnsInHanded {} Tryz.checked os 8 .any (Rows.fnSettledRoomsSpec.pre6 enc Tryz.prog Tryz.f8 Rows.fnSettledRoomsRow.domain false) (Rows.fnSettledRoomsSpec.post enc Tryz.prog Tryz.f8 false true false false):=by
 refine returnsInHanded_of_change (C:=Tryz.checked) own started (by kernel_rfl) Tryz.func8
  (ChangeSpec.witness6 (enc:=enc) (C:=Tryz.checked) false ⟨#[],#[.slice none 0 0],[]⟩ 8 (by kernel_rfl) (by kernel_rfl) (by kernel_rfl) (by kernel_rfl)) ?_
 intro W base args ds gs before hval0 hW _ _
 have hval:∀(j:Nat) t v,Tryz.f8.params[j]? =some t→args[j]? =some v→Value.okWide Tryz.prog W .any base t v:=hval0
 have hW':=hW
 obtain ⟨p,q,hA0,hV,rfl,hfz,hnd⟩:=hW
 have hA:DataW.TrodAll enc Tryz.prog W 0 (fun _=>true) true Tryz.f8.params.toList args.toList ds p:=hA0
 rw [Tryz.params8] at hA hval
 obtain ⟨v0,vs0,d0,ds0,p0,q0,hargs,rfl,rfl,h0,r0⟩:=trodAll_cons hA
 obtain ⟨rfl,rfl,rfl⟩:=trodAll_nil r0
 obtain rfl:args= #[v0]:=by cases args; simp_all
 obtain ⟨rfl,rfl⟩:=trodVars_none hV
 have k0:=h0
 have lt0:∀x∈p0,x.block<W.heap.size:=by obtain ⟨m,hm⟩:=k0; exact DataW.trod_lt m _ _ _ hm
 obtain ⟨A,n,c,bs,e0,hs,hbd⟩:=open_bytes (hval 0 22 v0 rfl rfl) h0
 rw [e0]
 clear hA0 hval0
 refine (law_SettledRooms A n c bs W hs hbd).mono fun e W' ⟨he,bel⟩=> ?_
 subst he
 rw [e0] at hW'
 exact ⟨_,rfl,_,_,_,[],_,[],hW',trodAll_mk1 (shut_bool Tryz.underlying4 _),(trodAll_cons_mk (Below.trod laidOut (by kernel_rfl) (of_decide_eq_true (by kernel_rfl)) (e0 ▸ k0) bel lt0) trodAll_mk0),rfl,bel.frame _,fun h=>by cases h⟩
theorem cf_SettledRooms:Tryz.pinned.checked.prog.funcNamed Rows.fnSettledRoomsRow.func=some 8:=by kernel_rfl
theorem cA_SettledRooms:jA Tryz.pinned.checked.prog Tryz.f8 Rows.fnSettledRoomsSpec Rows.fnSettledRoomsRow=true:=by kernel_rfl
theorem cB_SettledRooms:jB Tryz.pinned.checked.prog 8 Rows.fnSettledRoomsRow=true:=by kernel_rfl
theorem cC_SettledRooms:jC Tryz.pinned.checked.prog 8 Rows.fnSettledRoomsRow=true:=by kernel_rfl
theorem cD_SettledRooms:jD Tryz.pinned.checked.prog Tryz.f8 Rows.fnSettledRoomsSpec Rows.fnSettledRoomsRow=true:=by kernel_rfl
theorem cE_SettledRooms:jE Tryz.pinned.checked.prog Rows.fnSettledRoomsRow=true:=by kernel_rfl
theorem cF_SettledRooms:jF Tryz.pinned.checked.prog Tryz.f8 Rows.fnSettledRoomsSpec Rows.fnSettledRoomsRow=true:=by kernel_rfl
theorem cI_SettledRooms:decide (Tryz.f8.isInstance Tryz.pinned.checked.prog Rows.fnSettledRoomsRow.origin Rows.fnSettledRoomsRow.targs)=true:=by kernel_rfl
theorem cW_SettledRooms:Tryz.f8.isWrapper Tryz.pinned.checked.prog Rows.fnSettledRoomsRow.wrapper Rows.fnSettledRoomsRow.mainSum:=by unfold Func.isWrapper; first | (rw [if_pos (by decide +kernel)]; kernel_rfl) | (rw [if_neg (by decide +kernel)]; exact ⟨rfl,rfl⟩)
theorem holds_SettledRooms:Rows.FnSettledRoomsSaid:=
 OpenClaim.holds_of_wide 8 Tryz.f8 rfl rfl rfl rfl rfl rfl rfl ⟨rfl,rfl,rfl,rfl,rfl⟩ rfl rfl rfl rfl rfl cf_SettledRooms Tryz.func8
  (joined_of cA_SettledRooms cB_SettledRooms cC_SettledRooms cD_SettledRooms cE_SettledRooms cF_SettledRooms) (of_decide_eq_true cI_SettledRooms) cW_SettledRooms
  (fun os started H enc _=>lifted_SettledRooms os started H enc)
#print axioms holds_SettledRooms
end Go.Proofs.YtfkpghdmljjegaaGreat
