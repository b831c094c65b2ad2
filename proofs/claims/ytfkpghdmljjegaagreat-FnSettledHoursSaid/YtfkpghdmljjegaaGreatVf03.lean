/-
  SettleHours of the program, exactly.
-/
import Derived.Test.YtfkpghdmljjegaaGreatVf02
import Derived.Test.YtfkpghdmljjegaaGreatVe46
namespace Go.Proofs.YtfkpghdmljjegaaGreat
open Go.RowKit
set_option maxRecDepth 20000 in
set_option maxHeartbeats 2000000 in
theorem c_SettleHours (A1 A2:Option Addr) (n1 c1 n2 c2:Nat) (ns:List Node) (ps:List Pipe) (A:Option Addr) (n c:Nat) (xs:List Contract) (B:Option Addr) (m d:Nat) (L:List Nomination) (h:Int) (R:Option Addr) (nr cr:Nat) (rs:List RS) (band percent price:Int) (K:Option Addr) (kn kc:Nat) (ts:List Tier) (w:World) (hs1:SliceOf w 3 Node.cells A1 n1 c1 ns) (hs2:SliceOf w 5 Pipe.cells A2 n2 c2 ps) (hs:SliceOf w 8 Contract.cells A n c xs) (hL:SliceOf w 4 Nomination.cells B m d L) (hR:SliceOf w 1 RS.cells R nr cr rs) (h6:∀q∈rs,SliceOf w 2 Reading.cells q.A q.n q.c q.xs) (hK:SliceOf w 2 Tier.cells K kn kc ts):Calls Tryz.prog 46 #[.agg #[.slice A1 n1 c1,.slice A2 n2 c2],.slice A n c,.slice B m d,.int .i64 h,.slice R nr cr,.agg #[.int .i64 band,.int .i64 percent,.int .i64 price,.slice K kn kc]] w (RetOC 188 4 Posting.cells (hsV n1 ns ps xs L h rs band percent price ts) w):=by
 obtain ⟨W0,HW0⟩:∃W0,Hid (((w.alloc (.cells #[.slice A1 n1 c1,.slice A2 n2 c2] 45)).alloc (.cells #[.int .i64 band,.int .i64 percent,.int .i64 price,.slice K kn kc] 73))=W0):=⟨_,hide rfl⟩
 have hN:Row W0 w.heap.size 45 [.slice A1 n1 c1,.slice A2 n2 c2]:=by rw [←HW0.out]; exact (Row.new w 45 [.slice A1 n1 c1,.slice A2 n2 c2]).ext (Ext.alloc _ _)
 have hT:Row W0 (w.heap.size+1) 73 [.int .i64 band,.int .i64 percent,.int .i64 price,.slice K kn kc]:=by rw [←HW0.out]; exact Row.newG (W:=(w.alloc (.cells #[.slice A1 n1 c1,.slice A2 n2 c2] 45))) _ [.int .i64 band,.int .i64 percent,.int .i64 price,.slice K kn kc] (by simp)
 have hx0:Ext w W0:=by rw [←HW0.out]; exact (Ext.alloc _ _).and_alloc _
 have HRS:=hide h6
 have HRL:=hide hR.len
 have HLN:=hide hs.len
 have hrc:=hR.cap
 have hrm:=hR.max
 have hm1:n1≤9223372036854775807:=Nat.le_trans hs1.cap hs1.max
 obtain ⟨Z,HZ⟩:∃Z,Hid (hsC n1 ns ps xs L h rs band percent price ts=Z):=⟨_,hide rfl⟩
 have HBAD:Hid (Z≠0→hsV n1 ns ps xs L h rs band percent price ts=([],Z)):=hide (fun h=>by unfold hsV; rw [HZ.out,if_neg h])
 clear h6
 have hNr:=hN.ext ((Ext.refl W0))
 have hb0:=hNr.cell 0
 have hb1:=hNr.cell 1
 simp at hb0 hb1
 have hbl:=hNr.lt
 go_enter Tryz.func46,Tryz.ntmps46
 go_wp2_with fail
 rw [HW0.out]
 refine (c_IsNetwork A1 A2 n1 c1 n2 c2 ns ps _ (hs1.ext hx0) (hs2.ext hx0)).mono ?_
 cases hnet:netB ns ps
 ·have hZ1:Z=1:=by rw [←HZ.out]; unfold hsC; rw [if_pos hnet]
  have HR:Hid (hsV n1 ns ps xs L h rs band percent price ts=([],1)):=hide (by rw [HBAD.out (by omega),hZ1])
  clear hnet hZ1
  rintro e w1 ⟨rfl,hx1⟩
  go_wp2_with fail
  go_ret2
  exact RetOC.nil0 (hx0.trans hx1) HR.out.symm
 rintro e w1 ⟨rfl,hx1⟩
 have HNT:=hide hnet
 have HZ2:Hid ((if isTermsB band percent price ts=false then 1 else if 48<rs.length then 3 else if (setV n1 xs (rdB n1 rs) L h=0∨setV n1 xs (rdB n1 rs) L h=7)∧48<h+rs.length then 2 else setV n1 xs (rdB n1 rs) L h)=Z):=hide (by rw [←HZ.out]; unfold hsC; rw [hnet]; rfl)
 clear hnet
 clear hNr hb0 hb1 hbl
 have hTr:=hT.ext (hx1)
 have y0:=hTr.cell 0
 have y1:=hTr.cell 1
 have y2:=hTr.cell 2
 have y3:=hTr.cell 3
 simp at y0 y1 y2 y3
 have hyl:=hTr.lt
 have hX1:=hx0.trans hx1
 go_wp2_with fail
 refine (c_isTerms band percent price K kn kc ts _ (hK.ext hX1)).mono ?_
 cases hte:isTermsB band percent price ts
 ·have hZ1:Z=1:=by rw [←HZ2.out,if_pos hte]
  have HR:Hid (hsV n1 ns ps xs L h rs band percent price ts=([],1)):=hide (by rw [HBAD.out (by omega),hZ1])
  clear hte hZ1
  clear hTr y0 y1 y2 y3 hyl
  rintro e w2 ⟨rfl,hx2⟩
  go_wp2_with fail
  go_ret2
  exact RetOC.nil0 (hX1.trans hx2) HR.out.symm
 rintro e w2 ⟨rfl,hx2⟩
 have HTE:=hide hte
 have HZ3:Hid ((if 48<rs.length then 3 else if (setV n1 xs (rdB n1 rs) L h=0∨setV n1 xs (rdB n1 rs) L h=7)∧48<h+rs.length then 2 else setV n1 xs (rdB n1 rs) L h)=Z):=hide (by have e:=HZ2.out; rw [if_neg (by rw [hte]; decide)] at e; exact e)
 clear hte HZ2
 clear hTr y0 y1 y2 y3 hyl
 have hx02:=hx1.trans hx2
 have hX2:=hx0.trans hx02
 by_cases h48:48<nr
 ·have HR:Hid (hsV n1 ns ps xs L h rs band percent price ts=([],3)):=hide (by
   have hZ1:Z=3:=by rw [←HZ3.out,if_pos (by rw [←HRL.out]; exact h48)]
   rw [HBAD.out (by omega),hZ1])
  have hd:decide ((48:Int)<(nr:Int))=true:=decide_eq_true (by omega)
  go_wp2_with fail
  go_ret2
  exact RetOC.nil0 hX2 HR.out.symm
 have hd:decide ((48:Int)<(nr:Int))=false:=decide_eq_false (by omega)
 obtain ⟨C,HC⟩:∃C,Hid (setV n1 xs (rdB n1 rs) L h=C):=⟨_,hide rfl⟩
 have HZ5:Hid ((if (C=0∨C=7)∧(48:Int)<h+(nr:Int) then 2 else C)=Z):=hide (by have e:=HZ3.out; rw [if_neg (by rw [←HRL.out]; exact h48),HC.out, ←HRL.out] at e; exact e)
 have hhr:C=0∨C=7→inB h 0 47=true:=fun q=>setV_hour (by rw [HC.out]; exact q)
 clear HZ3
 have hNr:=hN.ext (hx02)
 have hb0:=hNr.cell 0
 have hb1:=hNr.cell 1
 simp at hb0 hb1
 have hbl:=hNr.lt
 go_wp2_with fail
 refine (c_checkSettle A1 A2 n1 c1 n2 c2 ns ps A n c xs B m d L h _ (hs1.ext hX2) (hs2.ext hX2) (hs.ext hX2) (hL.ext hX2) HNT.out R nr cr rs (hR.ext hX2) (fun q hq=>(HRS.out q hq).ext hX2)).mono ?_
 rw [HC.out]
 rintro e w5 ⟨rfl,hx5⟩
 clear hNr hb0 hb1 hbl
 clear hd
 have hx05:=hx02.trans hx5
 have hX5:=hx0.trans hx05
 by_cases hc:C=0∨C=7
 ·have hh:=hhr hc
  have hhb:=inB_true.1 hh
  have hnr:nr≤48:=by omega
  have e1:IntKind.i64.wrap (h+(nr:Int))=h+nr:=IntWalk.i64_in _ (by omega)
  by_cases hl48:48<h+(nr:Int)
  ·have HR:Hid (hsV n1 ns ps xs L h rs band percent price ts=([],2)):=hide (by
    have hZ1:Z=2:=by rw [←HZ5.out,if_pos ⟨hc,hl48⟩]
    rw [HBAD.out (by omega),hZ1])
   have hd2:decide ((48:Int)<h+(nr:Int))=true:=decide_eq_true hl48
   rcases hc with rfl | rfl
   ·go_wp2_with fail
    go_ret2
    exact RetOC.nil0 hX5 HR.out.symm
   ·go_wp2_with fail
    go_ret2
    exact RetOC.nil0 hX5 HR.out.symm
  have hd2:decide ((48:Int)<h+(nr:Int))=false:=decide_eq_false hl48
  have hZC:C=Z:=by rw [←HZ5.out,if_neg (fun q=>hl48 q.2)]
  rcases hc with rfl | rfl
  ·subst hZC
   have HOK:=hide (hsC_ok HZ.out)
   have ho0:OwnL w5 W0.heap.size 188 4 Posting.cells (.slice none 0 0) ([]:List Posting):=OwnL.nil_ _ _ _ _ _
   go_wp2_with fail
   clear e1 hd2
   go_loopw [15,53] (fun v i wr=>∃(k:Nat) (P:List Posting),k≤nr∧i= .int .i64 k∧OwnL wr W0.heap.size 188 4 Posting.cells v P∧P.length≤32*k∧Hid (P=hsL ps n1 xs L h rs band percent price ts k)∧Ext W0 wr) (fun _ i _=>nr-(intOf i).toNat)
   case atStart=>exact ⟨0,[],Nat.zero_le _,rfl,ho0,by simp,hide rfl,hx05⟩
   case round=>
    clear ho0 hx05 hX5 hx5 hx02 hX2 hx1 hx2 hX1
    obtain ⟨k,P,hk,rfl,ho,hPl,HP,hx⟩:=hrel
    have hX:=hx0.trans hx
    by_cases hlt:k<nr
    ·obtain ⟨bb,off,p,hA,hbb,hxk,t⟩:=(hR.ext hX).get hlt
     have t0:=t 0 _ rfl
     simp only [Nat.add_zero,Nat.mul_one] at t0
     have HX:=hide hxk
     have HPM:=hide (List.mem_of_getElem? hxk)
     clear hxk t
     subst hA
     have hbw:bb<w.heap.size:=hR.blk (b:=bb) (by unfold blkOf; rw [if_neg (by omega)]; rfl)
     have hNr:=hN.ext (hx)
     have hb0:=hNr.cell 0
     have hb1:=hNr.cell 1
     simp at hb0 hb1
     have hbl:=hNr.lt
     have hTr:=hT.ext (hx)
     have y0:=hTr.cell 0
     have y1:=hTr.cell 1
     have y2:=hTr.cell 2
     have y3:=hTr.cell 3
     simp at y0 y1 y2 y3
     have hyl:=hTr.lt
     have e1:IntKind.i64.wrap (h+(k:Int))=h+k:=IntWalk.i64_in _ (by omega)
     have hz0:=hx0.size
     have HOB:Hid (∀j,u15.ownBlock=some j→W0.heap.size≤j∧j<wr.heap.size):=hide (fun j hj=>⟨ho.block_le hj,(ho.ltG hj).2⟩)
     have HSP:Hid (hsL ps n1 xs L h rs band percent price ts (k+1)=P++(stlH ps n1 xs L (h+k) p.xs band percent price ts).psn):=hide (by simp only [hsL]; rw [←HP.out]; unfold rdK; rw [HX.out]; rfl)
     have hps32:=stlH_psn ps n1 xs L (h+k) p.xs band percent price ts
     have HRDK:Hid (readsB n1 p.xs=true):=hide (by have h0:=HOK.out.2.2.1; unfold rdB at h0; rw [List.all_eq_true] at h0; exact h0 p HPM.out)
     have HKK:=hide (HOK.out.2.2.2.1.at_hour (k:=k) (by omega))
     go_wp2_with fail
     refine (c_settleHour A1 A2 n1 c1 n2 c2 ns ps A n c xs B m d L (h+k) p.A p.n p.c p.xs band percent price K kn kc ts _ (hs1.ext hX) (hs2.ext hX) (hs.ext hX) (hL.ext hX) ((HRS.out p HPM.out).ext hX) (hK.ext hX) HKK.out HRDK.out (valid_of HTE.out)).mono ?_
     rintro e w6 ⟨A0,A1',A2',A3,A4,m0,d0,m1,d1,m2,d2,m3,d3,m4,d4,rfl,hSt,hx6⟩
     have hs4:=hSt.at_.s4
     have HML:=hide hs4.len
     have hfd:=fld4 A0 A1' A2' A3 A4 m0 d0 m1 d1 m2 d2 m3 d3 m4 d4
     go_wp2_with (at_builtin; go_must (refine wpList_append_grow rfl _ _ 26 rfl W0.heap.size 188 _ 4 32 Tryz.underlying26 posting_info rfl (by decide) Posting.cells post_len post_one u15 P rfl (ho.ext hx6) A4 m4 d4 _ rfl hs4 (by have:=HML.out; omega) (by omega) (by have:=hx.size; have:=hx6.size; omega) ?_))
     intro v7 w7 ho7 hg7
     have hx7:=(hx.trans hx6).grown hg7 (fun j hj=>(HOB.out j hj).1)
     rw [←HSP.out] at ho7
     clear ho hg7 hx6 hSt hs4 hfd
     clear hNr hb0 hb1 hbl
     clear hTr y0 y1 y2 y3 hyl
     go_wp2_with fail
     go_roundw
     case rel=>exact ⟨k+1,_,by omega,by go_num,ho7,by rw [HSP.out,List.length_append]; omega,hide rfl,hx7⟩
     case measure=>simp [intOf]; omega
    ·have HPE:Hid (P=hsL ps n1 xs L h rs band percent price ts rs.length):=hide (by rw [HP.out]; congr 1; have:=HRL.out; omega)
     obtain ⟨PA,pc,rfl,-⟩:=ho.form
     by_cases h300:300<P.length
     ·have HR:Hid (hsV n1 ns ps xs L h rs band percent price ts=([],3)):=hide (by unfold hsV; rw [if_pos HZ.out,if_pos (by rw [←HPE.out]; exact h300)])
      have hd3:decide ((300:Int)<(P.length:Int))=true:=decide_eq_true (by omega)
      go_wp2_with fail
      go_ret2
      exact RetOC.nil0 hX HR.out.symm
     ·have HR:Hid (hsV n1 ns ps xs L h rs band percent price ts=(P,0)):=hide (by unfold hsV; rw [if_pos HZ.out,if_neg (by rw [←HPE.out]; exact h300), ←HPE.out])
      have hd3:decide ((300:Int)<(P.length:Int))=false:=decide_eq_false (by omega)
      go_wp2_with fail
      go_ret2
      exact ⟨_,P,0,rfl,ho.lowG hx0.size,hX,hide HR.out.symm⟩
  ·have HR:Hid (hsV n1 ns ps xs L h rs band percent price ts=([],7)):=hide (by rw [HBAD.out (by omega), ←hZC])
   clear hZC
   go_wp2_with fail
   go_ret2
   exact RetOC.nil0 hX5 HR.out.symm
 ·have hZC:C=Z:=by rw [←HZ5.out,if_neg (fun q=>hc q.1)]
  have hc0:(C==0)=false:=by rw [beq_eq_false_iff_ne]; omega
  have hc7:(C==7)=false:=by rw [beq_eq_false_iff_ne]; omega
  have hb0:(C != 0)=true:=by rw [bne_iff_ne]; omega
  have HR:Hid (hsV n1 ns ps xs L h rs band percent price ts=([],C)):=hide (by rw [HBAD.out (by omega),hZC])
  clear hZC
  go_wp2_with fail
  go_ret2
  exact RetOC.nil0 hX5 HR.out.symm
end Go.Proofs.YtfkpghdmljjegaaGreat
