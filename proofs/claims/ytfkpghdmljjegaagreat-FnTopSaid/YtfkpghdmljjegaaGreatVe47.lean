/-
  FnTop: for every code the law returns true and the code reads as before.
-/
import Derived.Test.YtfkpghdmljjegaaGreatVe35
import Derived.Test.YtfkpghdmljjegaaGreatVe38
import Derived.Test.YtfkpghdmljjegaaGreatVe40
import Derived.Test.YtfkpghdmljjegaaGreatVe46
import Derived.Test.YtfkpghdmljjegaaGreatVe43
namespace Go.Proofs.YtfkpghdmljjegaaGreat
open Go.RowKit Go.ChangeShapes Go.WideShapes Go.ChangeAt Go.Deep Go.Joins
set_option maxRecDepth 20000 in
set_option maxHeartbeats 8000000 in
theorem law_Top (A:Option Addr) (n c:Nat) (bs:List Int) (w:World) (hbs:SliceOf w 1 byteC A n c bs) (hbd:∀z∈bs,0≤z∧z≤255):
  Calls Tryz.prog 12 #[.slice A n c] w (Ret (.bool true) w):=by
 have HD:=hide hbd
 clear hbd
 by_cases hbig:(4096:Int)<n
 ·have hb:decide ((4096:Int)<n)=true:=by simpa using hbig
  go_enter Tryz.func12,Tryz.ntmps12
  go_wp2_with fail
  refine (c_big A n c _).mono ?_
  rw [hb]
  rintro e w' ⟨rfl,rfl⟩
  go_wp2_with fail
  go_ret
  exact Ret.bool rfl (Ext.refl _)
 have hb:decide ((4096:Int)<n)=false:=by simpa using hbig
 go_enter Tryz.func12,Tryz.ntmps12
 go_wp2_with fail
 refine (c_big A n c _).mono ?_
 rw [hb]
 rintro e w' ⟨rfl,rfl⟩
 clear hb
 go_wp2_with fail
 refine (c_DrawSettleHour A n c bs _ hbs HD.out (by omega)).mono ?_
 rintro e w1 ⟨A1,A2,n1,c1,n2,c2,ns,ps,A3,n3,c3,xs,A4,n4,c4,L,h,A5,n5,c5,rd,band,percent,price,K,kn,kc,ts,rfl,hat,hx1⟩
 have HNM:=hide hat.hr.nm
 have HLN:=hide hat.hr.s1.len
 have HL3:=hide hat.hr.s3.len
 have hn3:n3≤40:=by rw [HL3.out]; exact hat.hr.b3
 clear hbs
 obtain ⟨W1,HW1⟩:∃W1,Hid ((w1.alloc (.cells #[.slice A1 n1 c1,.slice A2 n2 c2] 45)).alloc (.cells #[.int .i64 band,.int .i64 percent,.int .i64 price,.slice K kn kc] 73)=W1):=⟨_,hide rfl⟩
 have hx1':Ext w1 W1:=by rw [←HW1.out]; exact (Ext.alloc _ _).and_alloc _
 have hN:Row W1 w1.heap.size 45 [.slice A1 n1 c1,.slice A2 n2 c2]:=by rw [←HW1.out]; exact (Row.new w1 45 [.slice A1 n1 c1,.slice A2 n2 c2]).ext (Ext.alloc _ _)
 have hT:Row W1 (w1.heap.size+1) 73 [.int .i64 band,.int .i64 percent,.int .i64 price,.slice K kn kc]:=by rw [←HW1.out]; exact Row.newG (W:=w1.alloc (.cells #[.slice A1 n1 c1,.slice A2 n2 c2] 45)) _ [.int .i64 band,.int .i64 percent,.int .i64 price,.slice K kn kc] (by simp)
 obtain ⟨RR,HRR⟩:∃RR,Hid (shV n1 ns ps xs L h rd band percent price ts=RR):=⟨_,hide rfl⟩
 have a1:=hat.hr.s1.ext hx1'
 have a2:=hat.hr.s2.ext hx1'
 have a3:=hat.hr.s3.ext hx1'
 have a4:=hat.hr.s4.ext hx1'
 have a5:=hat.rd.ext hx1'
 have a6:=hat.tm.ext hx1'
 have X1:=hx1.trans hx1'
 clear hat hx1 hx1'
 go_wp2_with fail
 rw [HW1.out]
 refine (c_SettleHour A1 A2 n1 c1 n2 c2 ns ps A3 n3 c3 xs A4 n4 c4 L h A5 n5 c5 rd band percent price K kn kc ts _ a1 a2 a3 a4 a5 a6).mono ?_
 rw [HRR.out]
 rintro e w2 ⟨G0,G1,G2,G3,G4,g0,f0,g1,f1,g2,f2,g3,f3,g4,f4,X,z,rfl,hX,hx2,HPX⟩
 obtain ⟨rfl,rfl⟩:X=RR.1∧z=RR.2:=by have:=HPX.out; exact ⟨congrArg Prod.fst this,congrArg Prod.snd this⟩
 have hNr:=hN.ext (hx2)
 have y0:=hNr.cell 0
 have y1:=hNr.cell 1
 simp at y0 y1
 have yl:=hNr.lt
 have hTr:=hT.ext (hx2)
 have j0:=hTr.cell 0
 have j1:=hTr.cell 1
 have j2:=hTr.cell 2
 have j3:=hTr.cell 3
 simp at j0 j1 j2 j3
 have hjl:=hTr.lt
 obtain ⟨W2,HW2⟩:∃W2,Hid (w2.alloc (.cells #[.slice G0 g0 f0,.slice G1 g1 f1,.slice G2 g2 f2,.slice G3 g3 f3,.slice G4 g4 f4] 28)=W2):=⟨_,hide rfl⟩
 have hSX:Row W2 w2.heap.size 28 [.slice G0 g0 f0,.slice G1 g1 f1,.slice G2 g2 f2,.slice G3 g3 f3,.slice G4 g4 f4]:=by rw [←HW2.out]; exact Row.new w2 28 [.slice G0 g0 f0,.slice G1 g1 f1,.slice G2 g2 f2,.slice G3 g3 f3,.slice G4 g4 f4]
 have hxa:Ext w2 W2:=by rw [←HW2.out]; exact Ext.alloc _ _
 have hX12:=hx2.trans hxa
 have hXA:=hX.at_.ext hxa
 clear hX hxa hx2
 go_wp2_with fail
 rw [HW2.out]
 refine (c_specSettleHour A1 A2 n1 c1 n2 c2 ns ps A3 n3 c3 xs A4 n4 c4 L h A5 n5 c5 rd band percent price K kn kc ts _ (a1.ext hX12) (a2.ext hX12) (a3.ext hX12) (a4.ext hX12) (a5.ext hX12) (a6.ext hX12) HNM.out).mono ?_
 rw [HRR.out]
 rintro e w3 ⟨M0,M1,M2,M3,M4,m0,d0,m1,d1,m2,d2,m3,d3,m4,d4,Y,z',rfl,hY,hx3,HPY,-⟩
 obtain ⟨rfl,rfl⟩:Y=RR.1∧z'=RR.2:=by have:=HPY.out; exact ⟨congrArg Prod.fst this,congrArg Prod.snd this⟩
 clear hNr y0 y1 yl
 clear hTr j0 j1 j2 j3 hjl
 have hXr:=hSX.ext (hx3)
 have p0:=hXr.cell 0
 have p1:=hXr.cell 1
 have p2:=hXr.cell 2
 have p3:=hXr.cell 3
 have p4:=hXr.cell 4
 simp at p0 p1 p2 p3 p4
 have pl:=hXr.lt
 obtain ⟨W3,HW3⟩:∃W3,Hid (w3.alloc (.cells #[.slice M0 m0 d0,.slice M1 m1 d1,.slice M2 m2 d2,.slice M3 m3 d3,.slice M4 m4 d4] 28)=W3):=⟨_,hide rfl⟩
 have hSM:Row W3 w3.heap.size 28 [.slice M0 m0 d0,.slice M1 m1 d1,.slice M2 m2 d2,.slice M3 m3 d3,.slice M4 m4 d4]:=by rw [←HW3.out]; exact Row.new w3 28 [.slice M0 m0 d0,.slice M1 m1 d1,.slice M2 m2 d2,.slice M3 m3 d3,.slice M4 m4 d4]
 have hxb:Ext w3 W3:=by rw [←HW3.out]; exact Ext.alloc _ _
 have hX23:=hx3.trans hxb
 have hX13:=hX12.trans hX23
 have hXA:=hXA.ext hX23
 have hYA:=hY.ext hxb
 have hSX:=hSX.ext hX23
 have hN:=hN.ext hX13
 have a1:=a1.ext hX13
 have a2:=a2.ext hX13
 have a3:=a3.ext hX13
 have a4:=a4.ext hX13
 have X3:=X1.trans hX13
 clear hY hxb hx3 hX23 hX12 a5 a6 hT HPX HPY
 go_wp2_with fail
 rw [HW3.out]
 refine (c_likeInts G0 M0 g0 f0 m0 d0 RR.1.sc _ ((hXA.s0).ext (Ext.refl W3)) ((hYA.s0).ext (Ext.refl W3))).mono ?_
 rintro e w4 ⟨rfl,h4⟩
 clear hXr p0 p1 p2 p3 p4 pl
 have hXr:=hSX.ext (h4)
 have p0:=hXr.cell 0
 have p1:=hXr.cell 1
 have p2:=hXr.cell 2
 have p3:=hXr.cell 3
 have p4:=hXr.cell 4
 simp at p0 p1 p2 p3 p4
 have pl:=hXr.lt
 have hMr:=hSM.ext (h4)
 have q0:=hMr.cell 0
 have q1:=hMr.cell 1
 have q2:=hMr.cell 2
 have q3:=hMr.cell 3
 have q4:=hMr.cell 4
 simp at q0 q1 q2 q3 q4
 have ql:=hMr.lt
 go_wp2_with fail
 refine (c_likeOrders G1 M1 g1 f1 m1 d1 RR.1.os _ ((hXA.s1).ext (h4)) ((hYA.s1).ext (h4))).mono ?_
 rintro e w5 ⟨rfl,h5⟩
 have k5:=h4.trans h5
 clear hXr p0 p1 p2 p3 p4 pl
 clear hMr q0 q1 q2 q3 q4 ql
 have hXr:=hSX.ext (k5)
 have p0:=hXr.cell 0
 have p1:=hXr.cell 1
 have p2:=hXr.cell 2
 have p3:=hXr.cell 3
 have p4:=hXr.cell 4
 simp at p0 p1 p2 p3 p4
 have pl:=hXr.lt
 have hMr:=hSM.ext (k5)
 have q0:=hMr.cell 0
 have q1:=hMr.cell 1
 have q2:=hMr.cell 2
 have q3:=hMr.cell 3
 have q4:=hMr.cell 4
 simp at q0 q1 q2 q3 q4
 have ql:=hMr.lt
 go_wp2_with fail
 refine (c_likeInts G2 M2 g2 f2 m2 d2 RR.1.got _ ((hXA.s2).ext (k5)) ((hYA.s2).ext (k5))).mono ?_
 rintro e w6 ⟨rfl,h6⟩
 have k6:=k5.trans h6
 clear hXr p0 p1 p2 p3 p4 pl
 clear hMr q0 q1 q2 q3 q4 ql
 have hXr:=hSX.ext (k6)
 have p0:=hXr.cell 0
 have p1:=hXr.cell 1
 have p2:=hXr.cell 2
 have p3:=hXr.cell 3
 have p4:=hXr.cell 4
 simp at p0 p1 p2 p3 p4
 have pl:=hXr.lt
 have hMr:=hSM.ext (k6)
 have q0:=hMr.cell 0
 have q1:=hMr.cell 1
 have q2:=hMr.cell 2
 have q3:=hMr.cell 3
 have q4:=hMr.cell 4
 simp at q0 q1 q2 q3 q4
 have ql:=hMr.lt
 go_wp2_with fail
 refine (c_likeInts G3 M3 g3 f3 m3 d3 RR.1.chg _ ((hXA.s3).ext (k6)) ((hYA.s3).ext (k6))).mono ?_
 rintro e w7 ⟨rfl,h7⟩
 have k7:=k6.trans h7
 clear hXr p0 p1 p2 p3 p4 pl
 clear hMr q0 q1 q2 q3 q4 ql
 have hXr:=hSX.ext (k7)
 have p0:=hXr.cell 0
 have p1:=hXr.cell 1
 have p2:=hXr.cell 2
 have p3:=hXr.cell 3
 have p4:=hXr.cell 4
 simp at p0 p1 p2 p3 p4
 have pl:=hXr.lt
 have hMr:=hSM.ext (k7)
 have q0:=hMr.cell 0
 have q1:=hMr.cell 1
 have q2:=hMr.cell 2
 have q3:=hMr.cell 3
 have q4:=hMr.cell 4
 simp at q0 q1 q2 q3 q4
 have ql:=hMr.lt
 go_wp2_with fail
 refine (c_likePostings G4 M4 g4 f4 m4 d4 RR.1.psn _ ((hXA.s4).ext (k7)) ((hYA.s4).ext (k7))).mono ?_
 rintro e w8 ⟨rfl,h8⟩
 have k8:=k7.trans h8
 clear hXr p0 p1 p2 p3 p4 pl
 clear hMr q0 q1 q2 q3 q4 ql
 clear h4 h5 h6 h7 h8 k5 k6 k7 hSM hYA
 by_cases hz:RR.2=0
 ·obtain ⟨hnet,hte,hrd,hk⟩:netB ns ps=true∧isTermsB band percent price ts=true∧readsB n1 rd=true∧HrOk n1 ns ps xs L h:=shC_ok (by
   have e:=HRR.out
   unfold shV at e
   split at e
   ·rename_i h0; exact h0
   ·rename_i h0; rw [←e] at hz; exact absurd hz h0)
  have hX1:RR.1=stlH ps n1 xs L h rd band percent price ts:=by
   have e:=HRR.out
   unfold shV at e
   split at e
   ·rw [←e]
   ·rename_i h0; rw [←e] at hz; exact absurd hz h0
  have HCO:Hid (consB RR.1.got RR.1.chg RR.1.psn=true):=hide (by rw [hX1]; exact stl_cons hk hrd (valid_of hte))
  have HLE:Hid (RR.1.got.length≤1000∧RR.1.chg.length≤1000):=hide (by rw [hX1]; exact stl_lens hk)
  have HSC:Hid (RR.1.sc=hrSc ps n1 xs L h):=hide (by rw [hX1]; rfl)
  have hg0:g0=4:=by rw [hXA.s0.len,HSC.out]; exact hrSc_len _ _ _ _ _
  have HK:=hide hk
  have HNT:=hide hnet
  have h20:n3≤20:=by rw [HL3.out]; exact hk.le
  have HTV:=hide (trn_v hk.bk hk.nm h)
  have HLV:=hide (less_v (ps:=ps) hk.bk hk.nm h)
  obtain ⟨F,hF1,hF2⟩:=pfV_flows (n1:=n1) (ns:=ns) (ps:=ps) (xs:=xs) (L:=L) (h:=h) HLN.out hk.code
  have HF1:=hide hF1
  have HF2:=hide hF2
  have HFIT:=hide (hr_fit ps n1 xs L h)
  have HFN:Hid (fnV n1 ns ps xs L h=(trnL xs L h,0)):=hide (by unfold fnV; rw [if_pos (amC_set hk)])
  subst hg0
  clear hnet hte hrd hX1 hk hF1 hF2
  have b1:=a1.ext k8
  rw [hz]
  clear hz
  have hNr:=hN.ext (k8)
  have y0:=hNr.cell 0
  have y1:=hNr.cell 1
  simp at y0 y1
  have yl:=hNr.lt
  go_wp2_with fail
  refine (c_FromNominations A1 A2 n1 c1 n2 c2 ns ps A3 n3 c3 xs A4 n4 c4 L h _ (a1.ext k8) (a2.ext k8) (a3.ext k8) (a4.ext k8) (by omega)).mono ?_
  rw [HFN.out]
  rintro e w9 ⟨v9,E9,z9,rfl,ho9,h9,HP9⟩
  obtain ⟨rfl,rfl⟩:E9=trnL xs L h∧z9=0:=by have:=HP9.out; exact ⟨congrArg Prod.fst this,congrArg Prod.snd this⟩
  have HTL:Hid ((trnL xs L h).length=n3):=hide (by rw [trnL_len,HL3.out])
  obtain ⟨B9,t9,rfl,hs9⟩:=ho9.sl trn_len (by omega)
  rw [HTL.out] at hs9 ⊢
  have k9:=k8.trans h9
  clear hNr y0 y1 yl
  have hNr:=hN.ext (k9)
  have y0:=hNr.cell 0
  have y1:=hNr.cell 1
  simp at y0 y1
  have yl:=hNr.lt
  have hXr:=hSX.ext (k9)
  have p0:=hXr.cell 0
  have p1:=hXr.cell 1
  have p2:=hXr.cell 2
  have p3:=hXr.cell 3
  have p4:=hXr.cell 4
  simp at p0 p1 p2 p3 p4
  have pl:=hXr.lt
  clear ho9 HP9
  go_wp2_with fail
  refine (c_CheckScales A1 A2 n1 c1 n2 c2 ns ps _ (a1.ext k9) (a2.ext k9) HNT.out B9 n3 t9 (trnL xs L h) hs9 (by omega) HTV.out G0 f0 RR.1.sc (hXA.s0.ext k9) (by rw [HSC.out]; exact hrSc_in _ _ _ _ _) (by rw [HSC.out]; rfl)).mono ?_
  rintro e w10 ⟨rfl,h10⟩
  have k10:=k9.trans h10
  clear hNr y0 y1 yl
  have hNr:=hN.ext (k10)
  have y0:=hNr.cell 0
  have y1:=hNr.cell 1
  simp at y0 y1
  have yl:=hNr.lt
  clear hXr p0 p1 p2 p3 p4 pl
  have hXr:=hSX.ext (k10)
  have p0:=hXr.cell 0
  have p1:=hXr.cell 1
  have p2:=hXr.cell 2
  have p3:=hXr.cell 3
  have p4:=hXr.cell 4
  simp at p0 p1 p2 p3 p4
  have pl:=hXr.lt
  go_wp2_with fail
  refine (c_ScaleTransports A1 A2 n1 c1 n2 c2 ns ps _ (a1.ext k10) (a2.ext k10) HNT.out B9 n3 t9 (trnL xs L h) (hs9.ext h10) (by omega) HTV.out G0 f0 RR.1.sc (hXA.s0.ext k10) (by rw [HSC.out]; exact hrSc_in _ _ _ _ _)).mono ?_
  rintro e w11 ⟨v11,E11,z11,rfl,ho11,h11,HP11⟩
  obtain ⟨rfl,rfl⟩:E11=lessT ps n1 xs L h∧z11=0:=by have:=HP11.out; rw [HSC.out, ←less_sc] at this; exact ⟨congrArg Prod.fst this,congrArg Prod.snd this⟩
  have HLL:Hid ((lessT ps n1 xs L h).length=n3):=hide (by rw [lessT_len,HL3.out])
  obtain ⟨B11,t11,rfl,hs11⟩:=ho11.sl trn_len (by omega)
  rw [HLL.out] at hs11 ⊢
  have k11:=k10.trans h11
  clear hNr y0 y1 yl
  have hNr:=hN.ext (k11)
  have y0:=hNr.cell 0
  have y1:=hNr.cell 1
  simp at y0 y1
  have yl:=hNr.lt
  clear hXr p0 p1 p2 p3 p4 pl
  clear ho11 HP11 hs9
  go_wp2_with fail
  refine (c_PlannedFlows A1 A2 n1 c1 n2 c2 ns ps A3 n3 c3 xs A4 n4 c4 L h _ (a1.ext k11) (a2.ext k11) (a3.ext k11) (a4.ext k11)).mono ?_
  rw [HF1.out]
  rintro e w12 ⟨B12,n12,t12,g12,E12,z12,rfl,hc12,hm12,-,ho12,h12,HP12⟩
  obtain ⟨rfl,rfl⟩:E12=F∧z12=0:=by have:=HP12.out; exact ⟨congrArg Prod.fst this,congrArg Prod.snd this⟩
  have hs12:=ho12.slice intC_len hc12 hm12
  have k12:=k11.trans h12
  clear hNr y0 y1 yl
  have hNr:=hN.ext (k12)
  have y0:=hNr.cell 0
  have y1:=hNr.cell 1
  simp at y0 y1
  have yl:=hNr.lt
  clear HP12 ho12
  go_wp2_with fail
  have HSB:Hid (supB (supT n1 (lessT ps n1 xs L h))=true):=hide (by have e:=HFIT.out; unfold routB at e; rw [Bool.and_eq_true,Bool.and_eq_true] at e; exact e.1.1)
  refine (c_TransportSupplies A1 A2 n1 c1 n2 c2 ns ps _ (a1.ext k12) (a2.ext k12) HNT.out B11 n3 t11 (lessT ps n1 xs L h) (hs11.ext h12) (by omega) HLV.out HSB.out).mono ?_
  rintro e w13 ⟨v13,E13,z13,rfl,ho13,h13,HP13⟩
  obtain ⟨rfl,rfl⟩:E13=supT n1 (lessT ps n1 xs L h)∧z13=0:=by have:=HP13.out; exact ⟨congrArg Prod.fst this,congrArg Prod.snd this⟩
  have HSL:Hid ((supT n1 (lessT ps n1 xs L h)).length=n1):=hide (supT_len _ _)
  have h24:n1≤24:=by rw [HLN.out]; exact (net_pipes HNT.out).1.n24
  obtain ⟨B13,t13,rfl,hs13⟩:=ho13.sl intC_len (by omega)
  rw [HSL.out] at hs13 ⊢
  have k13:=k12.trans h13
  clear hNr y0 y1 yl
  have hNr:=hN.ext (k13)
  have y0:=hNr.cell 0
  have y1:=hNr.cell 1
  simp at y0 y1
  have yl:=hNr.lt
  have hXr:=hSX.ext (k13)
  have p0:=hXr.cell 0
  have p1:=hXr.cell 1
  have p2:=hXr.cell 2
  have p3:=hXr.cell 3
  have p4:=hXr.cell 4
  simp at p0 p1 p2 p3 p4
  have pl:=hXr.lt
  clear ho13 HP13
  go_wp2_with fail
  have hXI:=hXA.ext k13
  refine (c_IsConserved G0 G1 G2 G3 G4 4 f0 g1 f1 g2 f2 g3 f3 g4 f4 RR.1.got RR.1.chg RR.1.psn _ hXI.s2 hXI.s3 hXI.s4 (by rw [hXI.s2.len]; have:=HLE.out.1; omega) (by rw [hXI.s3.len]; have:=HLE.out.2; omega)).mono ?_
  rw [HCO.out]
  rintro e w14 ⟨rfl,h14⟩
  have k14:=k13.trans h14
  clear hNr y0 y1 yl
  clear hXr p0 p1 p2 p3 p4 pl
  have hNr:=hN.ext (k14)
  have y0:=hNr.cell 0
  have y1:=hNr.cell 1
  simp at y0 y1
  have yl:=hNr.lt
  go_wp2_with fail
  refine (c_DoFit A1 A2 n1 c1 n2 c2 ns ps _ (a1.ext k14) (a2.ext k14) HNT.out B11 n3 t11 (lessT ps n1 xs L h) (hs11.ext ((h12.trans h13).trans h14)) (by omega) HLV.out).mono ?_
  rw [show fitB ps n1 (lessT ps n1 xs L h)=true from HFIT.out]
  rintro e w15 ⟨rfl,h15⟩
  have k15:=k14.trans h15
  clear hNr y0 y1 yl
  have hNr:=hN.ext (k15)
  have y0:=hNr.cell 0
  have y1:=hNr.cell 1
  simp at y0 y1
  have yl:=hNr.lt
  go_wp2_with fail
  refine (c_KeepsLimits A1 A2 n1 c1 n2 c2 ns ps B12 n12 t12 _ E12 n1 _ (a1.ext k15) (a2.ext k15) (hs12.ext ((h13.trans h14).trans h15)) HNT.out HF2.out).mono ?_
  rintro e w16 ⟨rfl,h16⟩
  have k16:=k15.trans h16
  clear hNr y0 y1 yl
  have hNr:=hN.ext (k16)
  have y0:=hNr.cell 0
  have y1:=hNr.cell 1
  simp at y0 y1
  have yl:=hNr.lt
  go_wp2_with fail
  refine (c_IsBalanced A1 A2 n1 c1 n2 c2 ns ps _ (a1.ext k16) (a2.ext k16) HNT.out B12 n12 t12 E12 B13 t13 _ (hs12.ext (((h13.trans h14).trans h15).trans h16)) (hs13.ext ((h14.trans h15).trans h16)) HF2.out HSB.out).mono ?_
  rintro e w17 ⟨rfl,h17⟩
  go_wp2_with fail
  go_ret
  exact Ret.bool rfl (X3.trans (k16.trans h17))
 ·have hb:(RR.2 != 0)=true:=by rw [bne_iff_ne]; exact hz
  go_wp2_with fail
  go_ret
  exact Ret.bool rfl (X3.trans k8)
set_option maxRecDepth 100000 in
theorem lifted_Top (os:Os) (started:os.Started) (H:Type) (enc:TypeId×Value→H):
  ReturnsInHanded {} Tryz.checked os 12 .any (Rows.fnTopSpec.pre6 enc Tryz.prog Tryz.f12 Rows.fnTopRow.domain false) (Rows.fnTopSpec.post enc Tryz.prog Tryz.f12 false true false false):=by
 refine returnsInHanded_of_change (C:=Tryz.checked) own started (by kernel_rfl) Tryz.func12
  (ChangeSpec.witness6 (enc:=enc) (C:=Tryz.checked) false ⟨#[],#[.slice none 0 0],[]⟩ 8 (by kernel_rfl) (by kernel_rfl) (by kernel_rfl) (by kernel_rfl)) ?_
 intro W base args ds gs before hval0 hW _ _
 have hval:∀(j:Nat) t v,Tryz.f12.params[j]? =some t→args[j]? =some v→Value.okWide Tryz.prog W .any base t v:=hval0
 have hW':=hW
 obtain ⟨p,q,hA0,hV,rfl,hfz,hnd⟩:=hW
 have hA:DataW.TrodAll enc Tryz.prog W 0 (fun _=>true) true Tryz.f12.params.toList args.toList ds p:=hA0
 rw [Tryz.params12] at hA hval
 obtain ⟨v0,vs0,d0,ds0,p0,q0,hargs,rfl,rfl,h0,r0⟩:=trodAll_cons hA
 obtain ⟨rfl,rfl,rfl⟩:=trodAll_nil r0
 obtain rfl:args= #[v0]:=by cases args; simp_all
 obtain ⟨rfl,rfl⟩:=trodVars_none hV
 have k0:=h0
 have lt0:∀x∈p0,x.block<W.heap.size:=by obtain ⟨m,hm⟩:=k0; exact DataW.trod_lt m _ _ _ hm
 obtain ⟨A,n,c,bs,e0,hs,hbd⟩:=open_bytes (hval 0 22 v0 rfl rfl) h0
 rw [e0]
 clear hA0 hval0
 refine (law_Top A n c bs W hs hbd).mono fun e W' ⟨he,bel⟩=> ?_
 subst he
 rw [e0] at hW'
 exact ⟨_,rfl,_,_,_,[],_,[],hW',trodAll_mk1 (shut_bool Tryz.underlying4 _),(trodAll_cons_mk (Below.trod laidOut (by kernel_rfl) (of_decide_eq_true (by kernel_rfl)) (e0 ▸ k0) bel lt0) trodAll_mk0),rfl,bel.frame _,fun h=>by cases h⟩
theorem cf_Top:Tryz.pinned.checked.prog.funcNamed Rows.fnTopRow.func=some 12:=by kernel_rfl
theorem cA_Top:jA Tryz.pinned.checked.prog Tryz.f12 Rows.fnTopSpec Rows.fnTopRow=true:=by kernel_rfl
theorem cB_Top:jB Tryz.pinned.checked.prog 12 Rows.fnTopRow=true:=by kernel_rfl
theorem cC_Top:jC Tryz.pinned.checked.prog 12 Rows.fnTopRow=true:=by kernel_rfl
theorem cD_Top:jD Tryz.pinned.checked.prog Tryz.f12 Rows.fnTopSpec Rows.fnTopRow=true:=by kernel_rfl
theorem cE_Top:jE Tryz.pinned.checked.prog Rows.fnTopRow=true:=by kernel_rfl
theorem cF_Top:jF Tryz.pinned.checked.prog Tryz.f12 Rows.fnTopSpec Rows.fnTopRow=true:=by kernel_rfl
theorem cI_Top:decide (Tryz.f12.isInstance Tryz.pinned.checked.prog Rows.fnTopRow.origin Rows.fnTopRow.targs)=true:=by kernel_rfl
theorem cW_Top:Tryz.f12.isWrapper Tryz.pinned.checked.prog Rows.fnTopRow.wrapper Rows.fnTopRow.mainSum:=by unfold Func.isWrapper; first | (rw [if_pos (by decide +kernel)]; kernel_rfl) | (rw [if_neg (by decide +kernel)]; exact ⟨rfl,rfl⟩)
theorem holds_Top:Rows.FnTopSaid:=
 OpenClaim.holds_of_wide 12 Tryz.f12 rfl rfl rfl rfl rfl rfl rfl ⟨rfl,rfl,rfl,rfl,rfl⟩ rfl rfl rfl rfl rfl cf_Top Tryz.func12
  (joined_of cA_Top cB_Top cC_Top cD_Top cE_Top cF_Top) (of_decide_eq_true cI_Top) cW_Top
  (fun os started H enc _=>lifted_Top os started H enc)
#print axioms holds_Top
end Go.Proofs.YtfkpghdmljjegaaGreat
