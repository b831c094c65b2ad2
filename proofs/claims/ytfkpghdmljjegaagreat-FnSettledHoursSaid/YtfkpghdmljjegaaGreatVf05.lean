/-
  FnSettledHours: for every code the law returns true and the code reads as before.
-/
import Derived.Test.YtfkpghdmljjegaaGreatVf01
import Derived.Test.YtfkpghdmljjegaaGreatVf03
import Derived.Test.YtfkpghdmljjegaaGreatVf04
import Derived.Test.YtfkpghdmljjegaaGreatVe40
import Derived.Test.YtfkpghdmljjegaaGreatVe46
import Derived.Test.YtfkpghdmljjegaaGreatVe03
import Derived.Test.YtfkpghdmljjegaaGreatVe38
namespace Go.Proofs.YtfkpghdmljjegaaGreat
open Go.RowKit Go.ChangeShapes Go.WideShapes Go.ChangeAt Go.Deep Go.Joins
theorem HrAt.extH {A1 A2:Option Addr} {n1 c1 n2 c2:Nat} {ns:List Node} {ps:List Pipe} {A3:Option Addr} {n3 c3:Nat} {xs:List Contract} {A4:Option Addr} {n4 c4:Nat} {L:List Nomination} {w w':World} (h:HrAt A1 A2 n1 c1 n2 c2 ns ps A3 n3 c3 xs A4 n4 c4 L w) (hx:Ext w w'):HrAt A1 A2 n1 c1 n2 c2 ns ps A3 n3 c3 xs A4 n4 c4 L w':=
 ⟨h.s1.ext hx,h.s2.ext hx,h.s3.ext hx,h.s4.ext hx,h.nm,h.b1,h.b2,h.b3,h.b4⟩
theorem hsV_zero {n1:Nat} {ns:List Node} {ps:List Pipe} {xs:List Contract} {L:List Nomination} {h:Int} {rs:List RS} {band percent price:Int} {ts:List Tier} {P:List Posting} (hv:hsV n1 ns ps xs L h rs band percent price ts=(P,0)):
  isTermsB band percent price ts=true∧rdB n1 rs=true∧HrOk n1 ns ps xs L h∧h+(rs.length:Int)≤48∧rs.length≤48∧P=hsL ps n1 xs L h rs band percent price ts rs.length:=by
 unfold hsV at hv
 split at hv
 ·rename_i hc
  obtain ⟨h1,h2,h3,h4,h5,h6⟩:=hsC_ok hc
  split at hv
  ·injection hv with _ hv; cases hv
  ·injection hv with hv _
   exact ⟨h2,h3,h4,h6,h5,hv.symm⟩
 ·rename_i hc
  injection hv with _ hv
  exact absurd hv hc
set_option maxRecDepth 20000 in
set_option maxHeartbeats 8000000 in
theorem law_SettledHours (A:Option Addr) (n c:Nat) (bs:List Int) (w:World) (hbs:SliceOf w 1 byteC A n c bs) (hbd:∀z∈bs,0≤z∧z≤255):
  Calls Tryz.prog 7 #[.slice A n c] w (Ret (.bool true) w):=by
 have HD:=hide hbd
 clear hbd
 by_cases hbig:(4096:Int)<n
 ·have hb:decide ((4096:Int)<n)=true:=by simpa using hbig
  go_enter Tryz.func7,Tryz.ntmps7
  go_wp2_with fail
  refine (c_big A n c _).mono ?_
  rw [hb]
  rintro e w' ⟨rfl,rfl⟩
  go_wp2_with fail
  go_ret
  exact Ret.bool rfl (Ext.refl _)
 have hb:decide ((4096:Int)<n)=false:=by simpa using hbig
 go_enter Tryz.func7,Tryz.ntmps7
 go_wp2_with fail
 refine (c_big A n c _).mono ?_
 rw [hb]
 rintro e w' ⟨rfl,rfl⟩
 clear hb
 go_wp2_with fail
 refine (c_DrawSettleHours A n c bs _ hbs HD.out (by omega)).mono ?_
 rintro e w1 ⟨A1,A2,n1,c1,n2,c2,ns,ps,A3,n3,c3,xs,A4,n4,c4,L,h,A5,n5,c5,rs,band,percent,price,K,kn,kc,ts,rfl,hat,hrd5,hel,hr3,hK,hx1⟩
 have HNM:=hide hat.nm
 have HL5:=hide hrd5.len
 have hl3:n5≤3:=by rw [HL5.out]; exact hr3
 clear hr3 hbs
 obtain ⟨W1,HW1⟩:∃W1,Hid ((w1.alloc (.cells #[.slice A1 n1 c1,.slice A2 n2 c2] 45)).alloc (.cells #[.int .i64 band,.int .i64 percent,.int .i64 price,.slice K kn kc] 73)=W1):=⟨_,hide rfl⟩
 have hx1':Ext w1 W1:=by rw [←HW1.out]; exact (Ext.alloc _ _).and_alloc _
 have hN:Row W1 w1.heap.size 45 [.slice A1 n1 c1,.slice A2 n2 c2]:=by rw [←HW1.out]; exact (Row.new w1 45 [.slice A1 n1 c1,.slice A2 n2 c2]).ext (Ext.alloc _ _)
 have hT:Row W1 (w1.heap.size+1) 73 [.int .i64 band,.int .i64 percent,.int .i64 price,.slice K kn kc]:=by rw [←HW1.out]; exact Row.newG (W:=w1.alloc (.cells #[.slice A1 n1 c1,.slice A2 n2 c2] 45)) _ [.int .i64 band,.int .i64 percent,.int .i64 price,.slice K kn kc] (by simp)
 obtain ⟨RR,HRR⟩:∃RR,Hid (hsV n1 ns ps xs L h rs band percent price ts=RR):=⟨_,hide rfl⟩
 have hsm:RR.1.length≤300:=by rw [←HRR.out]; exact hsV_len
 have hat1:=hat.extH hx1'
 have hK1:=hK.ext hx1'
 have hR1:=hrd5.ext hx1'
 have HEL:=hide (fun q hq=>(hel q hq).ext hx1')
 have X1:=hx1.trans hx1'
 clear hat hK hx1 hx1' hrd5 hel
 go_wp2_with fail
 rw [HW1.out]
 refine (c_SettleHours A1 A2 n1 c1 n2 c2 ns ps A3 n3 c3 xs A4 n4 c4 L h A5 n5 c5 rs band percent price K kn kc ts _ hat1.s1 hat1.s2 hat1.s3 hat1.s4 hR1 HEL.out hK1).mono ?_
 rw [HRR.out]
 rintro e w2 ⟨v2,p2,z2,rfl,ho2,hx2,HP2⟩
 obtain ⟨rfl,rfl⟩:p2=RR.1∧z2=RR.2:=by have:=HP2.out; exact ⟨congrArg Prod.fst this,congrArg Prod.snd this⟩
 obtain ⟨P2,c2',rfl,hp2⟩:=ho2.sl post_len (by omega)
 have hNr:=hN.ext (hx2)
 have y0:=hNr.cell 0
 have y1:=hNr.cell 1
 simp at y0 y1
 have yl:=hNr.lt
 have hTr:=hT.ext (hx2)
 have j0:=hTr.cell 0
 have j1:=hTr.cell 1
 have j2:=hTr.cell 2
 have j3:=hTr.cell 3
 simp at j0 j1 j2 j3
 have hjl:=hTr.lt
 have hat2:=hat1.extH hx2
 go_wp2_with fail
 refine (c_specSettleHours A1 A2 n1 c1 n2 c2 ns ps A3 n3 c3 xs A4 n4 c4 L h A5 n5 c5 rs band percent price K kn kc ts _ hat2.s1 hat2.s2 hat2.s3 hat2.s4 (hR1.ext hx2) (fun q hq=>(HEL.out q hq).ext hx2) (hK1.ext hx2) HNM.out).mono ?_
 rw [HRR.out]
 rintro e w3 ⟨v3,p3,z3,rfl,ho3,hx3,HP3⟩
 obtain ⟨rfl,rfl⟩:p3=RR.1∧z3=RR.2:=by have:=HP3.out; exact ⟨congrArg Prod.fst this,congrArg Prod.snd this⟩
 obtain ⟨P3,c3',rfl,hp3⟩:=ho3.sl post_len (by omega)
 clear ho2 ho3 hat2
 clear hNr y0 y1 yl
 clear hTr j0 j1 j2 j3 hjl
 go_wp2_with fail
 refine (c_likePostings _ _ _ _ _ _ RR.1 _ (hp2.ext hx3) hp3).mono ?_
 rintro e w4 ⟨rfl,hx4⟩
 have hx24:=hx3.trans hx4
 have hx14:=hx2.trans hx24
 have hp4:=hp2.ext hx24
 clear hp2 hp3 hx2 hx3 hx4 hx24
 by_cases hz:RR.2=0
 ·obtain ⟨hte,hrd,hk0,hh48,h48,hPL⟩:=hsV_zero (P:=RR.1) (by rw [HRR.out, ←hz])
  have HTE:=hide hte
  have HRD:=hide hrd
  have HK0:=hide hk0
  have hh:=inB_true.1 hk0.hr
  have h5n:(rs.length:Int)=n5:=by have:=HL5.out; omega
  obtain ⟨pl,hpl⟩:∃pl,RR.1=pl:=⟨_,rfl⟩
  have HPP:Hid (pl=hsL ps n1 xs L h rs band percent price ts n5):=hide (by rw [←hpl,hPL,HL5.out])
  rw [hpl] at hp4
  rw [hpl,hz]
  have hpl300:pl.length≤300:=by rw [←hpl]; exact hsm
  clear hte hrd hk0 hPL hpl hz hsm HRR HP2 HP3
  obtain ⟨w6,HW6⟩:∃w6,Hid (w4.alloc (.cells #[] 188)=w6):=⟨_,hide rfl⟩
  have hx6:Ext w4 w6:=by rw [←HW6.out]; exact Ext.alloc _ _
  have ho0:OwnL w6 w4.heap.size 188 4 Posting.cells (.slice (some ⟨w4.heap.size,0,none⟩) 0 0) ([]:List Posting):=by rw [←HW6.out]; exact OwnL.empty w4 _ _ _ _ (Nat.le_refl _)
  have hsz14:=hx14.size
  go_wp2_with fail
  rw [HW6.out]
  go_loopw [13,14] (fun v i wr=>∃(k:Nat) (Q:List Posting),k≤n5∧i= .int .i64 k∧OwnL wr w4.heap.size 188 4 Posting.cells v Q∧Q.length≤32*k∧Hid (Q=hsL ps n1 xs L h rs band percent price ts k)∧Ext w4 wr) (fun _ i _=>n5-(intOf i).toNat)
  case atStart=>exact ⟨0,[],Nat.zero_le _,rfl,ho0,by simp,hide rfl,hx6⟩
  case round=>
   clear ho0 hx6
   obtain ⟨k,Q,hk,rfl,ho,hQl,HQ,hxw⟩:=hrel
   have hx:=hx14.trans hxw
   by_cases hlt:k<n5
   ·obtain ⟨bb,off,p,hA,hbb,hxk,t⟩:=(hR1.ext hx).get hlt
    have tt:=t 0 _ rfl
    simp only [Nat.add_zero,Nat.mul_one] at tt
    have HX:=hide hxk
    have HPM:=hide (List.mem_of_getElem? hxk)
    subst hA
    clear hxk t
    have HRDK:Hid (readsB n1 p.xs=true):=hide (by
     have h0:=HRD.out
     unfold rdB at h0
     rw [List.all_eq_true] at h0
     exact h0 p HPM.out)
    have hk0':=HK0.out.at_hour (k:=k) (by omega)
    have HSV:Hid (shV n1 ns ps xs L (h+k) p.xs band percent price ts=(stlH ps n1 xs L (h+k) p.xs band percent price ts,0)):=hide (shV_ok hk0' HTE.out HRDK.out)
    have HCO:=hide (stl_cons hk0' HRDK.out (valid_of HTE.out))
    have HGL:Hid ((stlH ps n1 xs L (h+k) p.xs band percent price ts).got.length≤1000∧(stlH ps n1 xs L (h+k) p.xs band percent price ts).chg.length≤1000):=hide (stl_lens hk0')
    have HSP:Hid (hsL ps n1 xs L h rs band percent price ts (k+1)=Q++(stlH ps n1 xs L (h+k) p.xs band percent price ts).psn):=hide (by
     simp only [hsL]
     rw [←HQ.out]
     unfold rdK
     rw [HX.out]; rfl)
    have HP32:=hide (stlH_psn ps n1 xs L (h+k) p.xs band percent price ts)
    have HOB:Hid (∀j,u13.ownBlock=some j→w4.heap.size≤j∧j<wr.heap.size):=hide (fun j hj=>⟨ho.block_le hj,(ho.ltG hj).2⟩)
    have e1:IntKind.i64.wrap (h+(k:Int))=h+k:=IntWalk.i64_in _ (by omega)
    clear hk0'
    generalize stlH ps n1 xs L (h+k) p.xs band percent price ts=X at *
    go_wp2_with fail
    refine wp_region_KP [KC (.agg #[.slice A1 n1 c1,.slice A2 n2 c2]),KC (.slice A3 n3 c3),KC (.slice A4 n4 c4),KC (.int .i64 h),KC (.int .i64 k),KC (.int .i64 (h+k)),KC (.slice (some ⟨bb,off,none⟩) n5 c5),KC (.int .i64 k),KC (.pointer (some ⟨bb,off+k,none⟩)),KC (.slice p.A p.n p.c),KC (.agg #[.int .i64 band,.int .i64 percent,.int .i64 price,.slice K kn kc]),KSC (X,0),KSC (X,0),KStl X,KC (.int .i64 0),KR wr.heap.size 28 [.slice none 0 0,.slice none 0 0,.slice none 0 0,.slice none 0 0,.slice none 0 0]]
     [0,1,2,3,4,5,6,7,8,9,10,11,12,13,15] [14] [[],[],[],[],[],[3,4],[],[],[6,7],[6,7,8],[],[0,1,2,3,4,5,6,7,8,9,10],[0,1,2,3,4,5,6,7,8,9,10,11],[0,1,2,3,4,5,6,7,8,9,10,11,12],[0,1,2,3,4,5,6,7,8,9,10,11,12],[],[0,1,2,3,4,5,6,7,8,9,10,11,12,13,15],[0,1,2,3,4,5,6,7,8,9,10,11,12,13,14,15,16]] [] (.one [] 16 (.last [17])) (by kernel_rfl) (by kernel_rfl) (by intro c a w d v h; cases d <;> exact h) (by simp) ⟨stKC _,stKC _,stKC _,stKC _,stKC _,stKC _,stKC _,stKC _,stKC _,stKC _,stKC _,stKSC _,stKSC _,stKStl _,stKC _,stKR _ _ _,trivial⟩ ?_ ?_ ?_
    ·refine ⟨?_,?_,?_,?_,?_,?_,?_,?_,?_,?_,?_,?_,?_,?_,?_,trivial⟩
     all_goals
      intro ts' wx hts hX hd
      obtain ⟨t0,ts0,rfl,hts0⟩:=vcons hts
      obtain ⟨t1,ts1,rfl,hts1⟩:=vcons hts0
      obtain ⟨t2,ts2,rfl,hts2⟩:=vcons hts1
      obtain ⟨t3,ts3,rfl,hts3⟩:=vcons hts2
      obtain ⟨t4,ts4,rfl,hts4⟩:=vcons hts3
      obtain ⟨t5,ts5,rfl,hts5⟩:=vcons hts4
      obtain ⟨t6,ts6,rfl,hts6⟩:=vcons hts5
      obtain ⟨t7,ts7,rfl,hts7⟩:=vcons hts6
      obtain ⟨t8,ts8,rfl,hts8⟩:=vcons hts7
      obtain ⟨t9,ts9,rfl,hts9⟩:=vcons hts8
      obtain ⟨t10,ts10,rfl,hts10⟩:=vcons hts9
      obtain ⟨t11,ts11,rfl,hts11⟩:=vcons hts10
      obtain ⟨t12,ts12,rfl,hts12⟩:=vcons hts11
      obtain ⟨t13,ts13,rfl,hts13⟩:=vcons hts12
      obtain ⟨t14,ts14,rfl,hts14⟩:=vcons hts13
      obtain ⟨t15,ts15,rfl,hts15⟩:=vcons hts14
      obtain ⟨t16,ts16,rfl,hts16⟩:=vcons hts15
      obtain ⟨t17,ts17,rfl,hts17⟩:=vcons hts16
      obtain rfl:=vnil hts17
      clear hts hts0 hts1 hts2 hts3 hts4 hts5 hts6 hts7 hts8 hts9 hts10 hts11 hts12 hts13 hts14 hts15 hts16 hts17
      simp only [putAll,nthO,Act.put,List.setIfInBounds_toArray,List.set_cons_succ,List.set_cons_zero]
     ·have hNr:=hN.ext (hx.trans hX)
      have y0:=hNr.cell 0
      have y1:=hNr.cell 1
      simp at y0 y1
      have yl:=hNr.lt
      go_wp2_with fail
      exact ⟨Ext.refl _,_,rfl,rfl⟩
     ·go_wp2_with fail
      exact ⟨Ext.refl _,_,rfl,rfl⟩
     ·go_wp2_with fail
      exact ⟨Ext.refl _,_,rfl,rfl⟩
     ·go_wp2_with fail
      exact ⟨Ext.refl _,_,rfl,rfl⟩
     ·go_wp2_with fail
      exact ⟨Ext.refl _,_,rfl,rfl⟩
     ·obtain ⟨rfl,rfl,-⟩:=hd
      go_wp2_with fail
      exact ⟨Ext.refl _,_,rfl,rfl⟩
     ·go_wp2_with fail
      exact ⟨Ext.refl _,_,rfl,rfl⟩
     ·go_wp2_with fail
      exact ⟨Ext.refl _,_,rfl,rfl⟩
     ·obtain ⟨rfl,rfl,-⟩:=hd
      go_wp2_with fail
      exact ⟨Ext.refl _,_,rfl,rfl⟩
     ·obtain ⟨-,-,rfl,-⟩:=hd
      have tt2:=((hX.cell _ _ hbb).trans tt)
      have hbb2:=Nat.lt_of_lt_of_le hbb hX.size
      go_wp2_with fail
      exact ⟨Ext.refl _,_,rfl,rfl⟩
     ·have hTr:=hT.ext (hx.trans hX)
      have j0:=hTr.cell 0
      have j1:=hTr.cell 1
      have j2:=hTr.cell 2
      have j3:=hTr.cell 3
      simp at j0 j1 j2 j3
      have hjl:=hTr.lt
      go_wp2_with fail
      exact ⟨Ext.refl _,_,rfl,rfl⟩
     ·obtain ⟨rfl,rfl,rfl,-,-,rfl,-,-,-,rfl,rfl,-⟩:=hd
      have HH:=hat1
      have hxx:=hx.trans hX
      go_wp2_with fail
      refine (c_SettleHour A1 A2 n1 c1 n2 c2 ns ps A3 n3 c3 xs A4 n4 c4 L (h+k) p.A p.n p.c p.xs band percent price K kn kc ts _ (hat1.s1.ext hxx) (hat1.s2.ext hxx) (hat1.s3.ext hxx) (hat1.s4.ext hxx) ((HEL.out p HPM.out).ext hxx) (hK1.ext hxx)).mono ?_
      rw [HSV.out]
      rintro e wy ⟨B0,B1,B2,B3,B4,m0,d0,m1,d1,m2,d2,m3,d3,m4,d4,X',z',rfl,hXo,hxy,HPX⟩
      obtain ⟨rfl,rfl⟩:X'=X∧z'=0:=by have:=HPX.out; exact ⟨congrArg Prod.fst this,congrArg Prod.snd this⟩
      go_wp2_with fail
      exact ⟨hxy,_,rfl,⟨_,rfl,B0,B1,B2,B3,B4,m0,d0,m1,d1,m2,d2,m3,d3,m4,d4,rfl,hXo.at_⟩⟩
     ·obtain ⟨-,-,-,-,-,-,-,-,-,-,-,hk11,-⟩:=hd
      go_wp2_with fail
      exact ⟨Ext.refl _,_,rfl,hk11⟩
     ·obtain ⟨-,-,-,-,-,-,-,-,-,-,-,-,⟨a,rfl,hk12⟩,-⟩:=hd
      go_wp2_with fail
      exact ⟨Ext.refl _,hk12⟩
     ·go_wp2_with fail
      exact ⟨Ext.alloc _ _,_,rfl,⟨_,rfl,Row.new _ _ _,hX.size⟩⟩
    ·refine ⟨?_,trivial⟩
     intro ts' wx hts hX hd
     obtain ⟨t0,ts0,rfl,hts0⟩:=vcons hts
     obtain ⟨t1,ts1,rfl,hts1⟩:=vcons hts0
     obtain ⟨t2,ts2,rfl,hts2⟩:=vcons hts1
     obtain ⟨t3,ts3,rfl,hts3⟩:=vcons hts2
     obtain ⟨t4,ts4,rfl,hts4⟩:=vcons hts3
     obtain ⟨t5,ts5,rfl,hts5⟩:=vcons hts4
     obtain ⟨t6,ts6,rfl,hts6⟩:=vcons hts5
     obtain ⟨t7,ts7,rfl,hts7⟩:=vcons hts6
     obtain ⟨t8,ts8,rfl,hts8⟩:=vcons hts7
     obtain ⟨t9,ts9,rfl,hts9⟩:=vcons hts8
     obtain ⟨t10,ts10,rfl,hts10⟩:=vcons hts9
     obtain ⟨t11,ts11,rfl,hts11⟩:=vcons hts10
     obtain ⟨t12,ts12,rfl,hts12⟩:=vcons hts11
     obtain ⟨t13,ts13,rfl,hts13⟩:=vcons hts12
     obtain ⟨t14,ts14,rfl,hts14⟩:=vcons hts13
     obtain ⟨t15,ts15,rfl,hts15⟩:=vcons hts14
     obtain ⟨t16,ts16,rfl,hts16⟩:=vcons hts15
     obtain ⟨t17,ts17,rfl,hts17⟩:=vcons hts16
     obtain rfl:=vnil hts17
     clear hts hts0 hts1 hts2 hts3 hts4 hts5 hts6 hts7 hts8 hts9 hts10 hts11 hts12 hts13 hts14 hts15 hts16 hts17
     simp only [putAll,nthO,Act.put,List.setIfInBounds_toArray,List.set_cons_succ,List.set_cons_zero]
     obtain ⟨-,-,-,-,-,-,-,-,-,-,-,-,⟨a,rfl,hk12⟩,-⟩:=hd
     repeat (go_big_quiet_step (fail))
     exact wpQuiet_nil ⟨_,rfl,rfl⟩
    ·
     intro ts' wx hts hX hd
     obtain ⟨t0,ts0,rfl,hts0⟩:=vcons hts
     obtain ⟨t1,ts1,rfl,hts1⟩:=vcons hts0
     obtain ⟨t2,ts2,rfl,hts2⟩:=vcons hts1
     obtain ⟨t3,ts3,rfl,hts3⟩:=vcons hts2
     obtain ⟨t4,ts4,rfl,hts4⟩:=vcons hts3
     obtain ⟨t5,ts5,rfl,hts5⟩:=vcons hts4
     obtain ⟨t6,ts6,rfl,hts6⟩:=vcons hts5
     obtain ⟨t7,ts7,rfl,hts7⟩:=vcons hts6
     obtain ⟨t8,ts8,rfl,hts8⟩:=vcons hts7
     obtain ⟨t9,ts9,rfl,hts9⟩:=vcons hts8
     obtain ⟨t10,ts10,rfl,hts10⟩:=vcons hts9
     obtain ⟨t11,ts11,rfl,hts11⟩:=vcons hts10
     obtain ⟨t12,ts12,rfl,hts12⟩:=vcons hts11
     obtain ⟨t13,ts13,rfl,hts13⟩:=vcons hts12
     obtain ⟨t14,ts14,rfl,hts14⟩:=vcons hts13
     obtain ⟨t15,ts15,rfl,hts15⟩:=vcons hts14
     obtain ⟨t16,ts16,rfl,hts16⟩:=vcons hts15
     obtain ⟨t17,ts17,rfl,hts17⟩:=vcons hts16
     obtain rfl:=vnil hts17
     clear hts hts0 hts1 hts2 hts3 hts4 hts5 hts6 hts7 hts8 hts9 hts10 hts11 hts12 hts13 hts14 hts15 hts16 hts17
     simp only [putAll,Act.put,List.setIfInBounds_toArray,List.set_cons_succ,List.set_cons_zero]
     obtain ⟨-,-,-,-,-,-,-,-,-,-,-,-,-,h13,⟨gS,rfl,hg,hgl⟩,h14,-⟩:=hd
     obtain ⟨S0,S1,S2,S3,S4,s0,e0,s1,e1,s2,e2,s3,e3,s4,e4,rfl,hS0⟩:=h13
     obtain rfl:=h14
     have p0:=hg.cell 0
     have p1:=hg.cell 1
     have p2:=hg.cell 2
     have p3:=hg.cell 3
     have p4:=hg.cell 4
     have pf:=hg.frozen
     have pl':=hg.lt
     simp only [List.getElem?_cons_zero,List.getElem?_cons_succ] at p0 p1 p2 p3 p4
     simp only [wpPhT,pickL,nthO]
     refine wpQuiet_nil ?_
     go_wp2_with fail
     refine ⟨fun _ h=>(by cases h),?_⟩
     repeat (go_big_quiet_step (fail))
     refine wpQuiet_nil ?_
     have rS:=five_rowS (u0:= .slice S0 s0 e0) (u1:= .slice S1 s1 e1) (u2:= .slice S2 s2 e2) (u3:= .slice S3 s3 e3) (u4:= .slice S4 s4 e4) hg
     have tS:=Turn.fiveS (g:=gS) wx (.slice S0 s0 e0) (.slice S1 s1 e1) (.slice S2 s2 e2) (.slice S3 s3 e3) (.slice S4 s4 e4)
     have hX3:Ext wr (((((wx.setCell ⟨gS,0,none⟩ (.slice S0 s0 e0)).setCell ⟨gS,1,none⟩ (.slice S1 s1 e1)).setCell ⟨gS,2,none⟩ (.slice S2 s2 e2)).setCell ⟨gS,3,none⟩ (.slice S3 s3 e3)).setCell ⟨gS,4,none⟩ (.slice S4 s4 e4)):=hX.turn tS (fun b hb=>by omega)
     have hS:StlAt (((((wx.setCell ⟨gS,0,none⟩ (.slice S0 s0 e0)).setCell ⟨gS,1,none⟩ (.slice S1 s1 e1)).setCell ⟨gS,2,none⟩ (.slice S2 s2 e2)).setCell ⟨gS,3,none⟩ (.slice S3 s3 e3)).setCell ⟨gS,4,none⟩ (.slice S4 s4 e4)) S0 S1 S2 S3 S4 s0 e0 s1 e1 s2 e2 s3 e3 s4 e4 X:=smFar hS0 hg tS
     generalize (((((wx.setCell ⟨gS,0,none⟩ (.slice S0 s0 e0)).setCell ⟨gS,1,none⟩ (.slice S1 s1 e1)).setCell ⟨gS,2,none⟩ (.slice S2 s2 e2)).setCell ⟨gS,3,none⟩ (.slice S3 s3 e3)).setCell ⟨gS,4,none⟩ (.slice S4 s4 e4))=wS at *
     clear p0 p1 p2 p3 p4 pf pl' tS hS0 hg
     have q0:=rS.cell 0
     have q1:=rS.cell 1
     have q2:=rS.cell 2
     have q3:=rS.cell 3
     have q4:=rS.cell 4
     simp only [List.getElem?_cons_zero,List.getElem?_cons_succ] at q0 q1 q2 q3 q4
     have ql:=rS.lt
     have hs4:=hS.s4
     have HL4:=hide hs4.len
     go_wp2_with fail
     refine (c_IsConserved S0 S1 S2 S3 S4 s0 e0 s1 e1 s2 e2 s3 e3 s4 e4 X.got X.chg X.psn _ hS.s2 hS.s3 hs4 (by rw [hS.s2.len]; have:=HGL.out.1; omega) (by rw [hS.s3.len]; have:=HGL.out.2; omega)).mono ?_
     rw [HCO.out]
     rintro e w8 ⟨rfl,hx8⟩
     clear q0 q1 q2 q3 q4 ql
     have rS8:=rS.ext hx8
     have q4:=rS8.cell 4
     simp only [List.getElem?_cons_zero,List.getElem?_cons_succ] at q4
     have ql:=rS8.lt
     have hX8:=hX3.trans hx8
     have hs8:=hs4.ext hx8
     go_wp2_with (at_builtin; go_must (refine wpList_append_grow rfl _ _ 26 rfl w4.heap.size 188 _ 4 32 Tryz.underlying26 posting_info rfl (by decide) Posting.cells post_len post_one u13 Q rfl (ho.ext hX8) S4 s4 e4 _ rfl hs8 (by have:=HP32.out; have:=HL4.out; omega) (by omega) (by have:=hxw.size; have:=hX8.size; omega) ?_))
     intro v7 w7 ho7 hg7
     have hx7:=(hxw.trans hX8).grown hg7 (fun j hj=>(HOB.out j hj).1)
     have hq32:(Q++X.psn).length≤32*(k+1):=by rw [List.length_append]; have:=HP32.out; omega
     rw [←HSP.out] at ho7 hq32
     clear ho hg7 hs4 hs8 hS rS rS8 q4 ql hX3 hX8 hx8 hX
     go_wp2_with fail
     go_roundw
     case rel=>exact ⟨k+1,_,by omega,by go_num,ho7,hq32,hide rfl,hx7⟩
     case measure=>simp [intOf]; omega
   ·obtain rfl:k=n5:=by omega
    obtain rfl:Q=pl:=by rw [HQ.out,HPP.out]
    obtain ⟨PA,pc,rfl,-⟩:=ho.form
    go_wp2_with fail
    refine (c_likePostings PA P2 Q.length pc Q.length c2' Q _ (ho.slE post_len (by omega)) (hp4.ext hxw)).mono ?_
    rintro e w9 ⟨rfl,hx9⟩
    go_wp2_with fail
    go_ret
    exact Ret.bool rfl (X1.trans (hx.trans hx9))
 ·have hb:(RR.2 != 0)=true:=by rw [bne_iff_ne]; exact hz
  go_wp2_with fail
  go_ret
  exact Ret.bool rfl (X1.trans hx14)
set_option maxRecDepth 100000 in
theorem lifted_SettledHours (os:Os) (started:os.Started) (H:Type) (enc:TypeId×Value→H):
  ReturnsInHanded {} Tryz.checked os 7 .any (Rows.fnSettledHoursSpec.pre6 enc Tryz.prog Tryz.f7 Rows.fnSettledHoursRow.domain false) (Rows.fnSettledHoursSpec.post enc Tryz.prog Tryz.f7 false true false false):=by
 refine returnsInHanded_of_change (C:=Tryz.checked) own started (by kernel_rfl) Tryz.func7
  (ChangeSpec.witness6 (enc:=enc) (C:=Tryz.checked) false ⟨#[],#[.slice none 0 0],[]⟩ 8 (by kernel_rfl) (by kernel_rfl) (by kernel_rfl) (by kernel_rfl)) ?_
 intro W base args ds gs before hval0 hW _ _
 have hval:∀(j:Nat) t v,Tryz.f7.params[j]? =some t→args[j]? =some v→Value.okWide Tryz.prog W .any base t v:=hval0
 have hW':=hW
 obtain ⟨p,q,hA0,hV,rfl,hfz,hnd⟩:=hW
 have hA:DataW.TrodAll enc Tryz.prog W 0 (fun _=>true) true Tryz.f7.params.toList args.toList ds p:=hA0
 rw [Tryz.params7] at hA hval
 obtain ⟨v0,vs0,d0,ds0,p0,q0,hargs,rfl,rfl,h0,r0⟩:=trodAll_cons hA
 obtain ⟨rfl,rfl,rfl⟩:=trodAll_nil r0
 obtain rfl:args= #[v0]:=by cases args; simp_all
 obtain ⟨rfl,rfl⟩:=trodVars_none hV
 have k0:=h0
 have lt0:∀x∈p0,x.block<W.heap.size:=by obtain ⟨m,hm⟩:=k0; exact DataW.trod_lt m _ _ _ hm
 obtain ⟨A,n,c,bs,e0,hs,hbd⟩:=open_bytes (hval 0 22 v0 rfl rfl) h0
 rw [e0]
 clear hA0 hval0
 refine (law_SettledHours A n c bs W hs hbd).mono fun e W' ⟨he,bel⟩=> ?_
 subst he
 rw [e0] at hW'
 exact ⟨_,rfl,_,_,_,[],_,[],hW',trodAll_mk1 (shut_bool Tryz.underlying4 _),(trodAll_cons_mk (Below.trod laidOut (by kernel_rfl) (of_decide_eq_true (by kernel_rfl)) (e0 ▸ k0) bel lt0) trodAll_mk0),rfl,bel.frame _,fun h=>by cases h⟩
theorem cf_SettledHours:Tryz.pinned.checked.prog.funcNamed Rows.fnSettledHoursRow.func=some 7:=by kernel_rfl
theorem cA_SettledHours:jA Tryz.pinned.checked.prog Tryz.f7 Rows.fnSettledHoursSpec Rows.fnSettledHoursRow=true:=by kernel_rfl
theorem cB_SettledHours:jB Tryz.pinned.checked.prog 7 Rows.fnSettledHoursRow=true:=by kernel_rfl
theorem cC_SettledHours:jC Tryz.pinned.checked.prog 7 Rows.fnSettledHoursRow=true:=by kernel_rfl
theorem cD_SettledHours:jD Tryz.pinned.checked.prog Tryz.f7 Rows.fnSettledHoursSpec Rows.fnSettledHoursRow=true:=by kernel_rfl
theorem cE_SettledHours:jE Tryz.pinned.checked.prog Rows.fnSettledHoursRow=true:=by kernel_rfl
theorem cF_SettledHours:jF Tryz.pinned.checked.prog Tryz.f7 Rows.fnSettledHoursSpec Rows.fnSettledHoursRow=true:=by kernel_rfl
theorem cI_SettledHours:decide (Tryz.f7.isInstance Tryz.pinned.checked.prog Rows.fnSettledHoursRow.origin Rows.fnSettledHoursRow.targs)=true:=by kernel_rfl
theorem cW_SettledHours:Tryz.f7.isWrapper Tryz.pinned.checked.prog Rows.fnSettledHoursRow.wrapper Rows.fnSettledHoursRow.mainSum:=by unfold Func.isWrapper; first | (rw [if_pos (by decide +kernel)]; kernel_rfl) | (rw [if_neg (by decide +kernel)]; exact ⟨rfl,rfl⟩)
theorem holds_SettledHours:Rows.FnSettledHoursSaid:=
 OpenClaim.holds_of_wide 7 Tryz.f7 rfl rfl rfl rfl rfl rfl rfl ⟨rfl,rfl,rfl,rfl,rfl⟩ rfl rfl rfl rfl rfl cf_SettledHours Tryz.func7
  (joined_of cA_SettledHours cB_SettledHours cC_SettledHours cD_SettledHours cE_SettledHours cF_SettledHours) (of_decide_eq_true cI_SettledHours) cW_SettledHours
  (fun os started H enc _=>lifted_SettledHours os started H enc)
#print axioms holds_SettledHours
end Go.Proofs.YtfkpghdmljjegaaGreat
