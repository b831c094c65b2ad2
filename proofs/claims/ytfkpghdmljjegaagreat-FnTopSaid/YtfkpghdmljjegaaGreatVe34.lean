/-
  The code, the scales and the orders of an hour; planned flows and readings; of the reference, exactly.
-/
import Derived.Test.YtfkpghdmljjegaaGreatVe29
import Derived.Test.YtfkpghdmljjegaaGreatVe20
import Derived.Test.YtfkpghdmljjegaaGreatVe33
namespace Go.Proofs.YtfkpghdmljjegaaGreat
open Go.RowKit
set_option maxHeartbeats 1000000 in
theorem c_l31Code (A1 A2:Option Addr) (n1 c1 n2 c2:Nat) (ns:List Node) (ps:List Pipe) (A:Option Addr) (n c:Nat) (xs:List Contract) (B:Option Addr) (m d:Nat) (L:List Nomination) (h:Int) (w:World) (hs1:SliceOf w 3 Node.cells A1 n1 c1 ns) (hs2:SliceOf w 5 Pipe.cells A2 n2 c2 ps) (hs:SliceOf w 8 Contract.cells A n c xs) (hL:SliceOf w 4 Nomination.cells B m d L) (hnm:∀x∈ns,x.name.size≤1048576):Calls Tryz.prog 100 #[.agg #[.slice A1 n1 c1,.slice A2 n2 c2],.slice A n c,.slice B m d,.int .i64 h] w (Ret (.int .i64 (setC n1 ns ps xs L h)) w):=by
 have hx0:Ext w (w.alloc (.cells #[.slice A1 n1 c1,.slice A2 n2 c2] 45)):=Ext.alloc _ _
 have HLN:=hide hs.len
 have hmx:=hs.max
 have hcp:=hs.cap
 have HNM:=hide hnm
 clear hnm
 obtain ⟨z,HZ⟩:∃z,Hid (nomC n1 ns ps xs L=z):=⟨_,hide rfl⟩
 go_enter Tryz.func100,Tryz.ntmps100
 go_wp2_with fail
 refine (c_l21Code A1 A2 n1 c1 n2 c2 ns ps A n c xs B m d L _ (hs1.ext hx0) (hs2.ext hx0) (hs.ext hx0) (hL.ext hx0) HNM.out).mono ?_
 rw [HZ.out]
 rintro e w1 ⟨rfl,hx1⟩
 by_cases h0:z=0
 ·subst h0
  have hb32:n≤32:=by
   have hb:=(nomC_ok3 HZ.out).2.1
   simp only [bookB,Bool.and_eq_true,decide_eq_true_eq] at hb
   rw [HLN.out]; exact hb.1
  cases hh:inB h 0 47
  ·have HR:Hid (setC n1 ns ps xs L h=2):=hide (by unfold setC; rw [if_pos HZ.out,if_pos hh])
   go_wp2_with (go_at_call 136; refine (c_l20Hour h _).mono ?_; rw [hh]; rintro e w' ⟨rfl,rfl⟩)
   go_ret
   exact Ret.int HR.out (hx0.trans hx1)
  ·have e1:IntKind.i64.wrap (2*(n:Int))=2*n:=IntWalk.i64_in _ (by omega)
   by_cases h20:20<n
   ·have HR:Hid (setC n1 ns ps xs L h=7):=hide (by unfold setC; rw [if_pos HZ.out,if_neg (by rw [hh]; decide),if_pos (by rw [←HLN.out]; exact h20)])
    have hd:decide (40<2*(n:Int))=true:=decide_eq_true (by omega)
    go_wp2_with (go_at_call 136; refine (c_l20Hour h _).mono ?_; rw [hh]; rintro e w' ⟨rfl,rfl⟩)
    go_ret
    exact Ret.int HR.out (hx0.trans hx1)
   ·have HR:Hid (setC n1 ns ps xs L h=0):=hide (by unfold setC; rw [if_pos HZ.out,if_neg (by rw [hh]; decide),if_neg (by rw [←HLN.out]; exact h20)])
    have hd:decide (40<2*(n:Int))=false:=decide_eq_false (by omega)
    go_wp2_with (go_at_call 136; refine (c_l20Hour h _).mono ?_; rw [hh]; rintro e w' ⟨rfl,rfl⟩)
    go_ret
    exact Ret.int HR.out (hx0.trans hx1)
 ·have HR:Hid (setC n1 ns ps xs L h=z):=hide (by unfold setC; rw [if_neg (by rw [HZ.out]; exact h0),HZ.out])
  have hb:(z==0)=false:=by rw [beq_eq_false_iff_ne]; exact h0
  go_wp2_with fail
  go_ret
  exact Ret.int HR.out (hx0.trans hx1)
def RetSO (E:List Int) (O:List Order) (w:World) (e:Ending) (w':World):Prop:=
 ∃v1 v2,e= .returned (.tuple #[v1,v2])∧OwnL w' w.heap.size 2 1 intC v1 E∧OwnL w' w.heap.size 199 4 Order.cells v2 O∧Ext w w'
set_option maxHeartbeats 2000000 in
theorem c_l31Orders (A1 A2:Option Addr) (n1 c1 n2 c2:Nat) (ns:List Node) (ps:List Pipe) (A:Option Addr) (n c:Nat) (xs:List Contract) (B:Option Addr) (m d:Nat) (L:List Nomination) (h:Int) (w:World) (hs1:SliceOf w 3 Node.cells A1 n1 c1 ns) (hs2:SliceOf w 5 Pipe.cells A2 n2 c2 ps) (hs:SliceOf w 8 Contract.cells A n c xs) (hL:SliceOf w 4 Nomination.cells B m d L) (hnm:∀x∈ns,x.name.size≤1048576) (hk:HrOk n1 ns ps xs L h):Calls Tryz.prog 121 #[.agg #[.slice A1 n1 c1,.slice A2 n2 c2],.slice A n c,.slice B m d,.int .i64 h] w (RetSO (hrSc ps n1 xs L h) (hrOrd ps n1 xs L h) w):=by
 have hB:=Row.new w 45 [.slice A1 n1 c1,.slice A2 n2 c2]
 have hx0:Ext w (w.alloc (.cells #[.slice A1 n1 c1,.slice A2 n2 c2] 45)):=Ext.alloc _ _
 have HLN:=hide hs.len
 have HNM:=hide hnm
 have HK:=hide hk
 have hn20:n≤20:=by rw [hs.len]; exact hk.le
 have HTO:=hide (trn_ok hk.bk hk.nm h)
 have HIN:=hide (fun x hx=>((nom_facts hk.bk hk.nm).2 x hx).1)
 clear hnm hk
 obtain ⟨ts,HTS⟩:∃ts,Hid (trnL xs L h=ts):=⟨_,hide rfl⟩
 obtain ⟨sc,HSC⟩:∃sc,Hid (hrSc ps n1 xs L h=sc):=⟨_,hide rfl⟩
 have hscl:sc.length=4:=by rw [←HSC.out]; exact hrSc_len ps n1 xs L h
 obtain ⟨le,HLE⟩:∃le,Hid (lessT ps n1 xs L h=le):=⟨_,hide rfl⟩
 have hlel:le.length=n:=by rw [←HLE.out,lessT_len,HLN.out]
 rw [HSC.out]
 rw [HTS.out] at HTO
 have HLO:Hid (∀x∈le,0≤x.amount∧x.amount≤30000):=hide (fun x hx=>by
  rw [←HLE.out] at hx
  exact (less_ok HK.out.bk HK.out.nm h x hx).2.2.1)
 go_enter Tryz.func121,Tryz.ntmps121
 go_wp2_with fail
 refine (c_l31Transports A n c xs B m d L _ (hs.ext hx0) (hL.ext hx0) (by omega) (by rw [HLN.out]; exact HIN.out) h).mono ?_
 rintro e w1 ⟨v1,E1,rfl,ho1,HE1,hx1⟩
 obtain rfl:E1=ts:=by rw [HE1.out]; exact HTS.out
 have htl:E1.length=n:=by rw [←HTS.out,trnL_len,HLN.out]
 obtain ⟨A4,c4,rfl,hs4⟩:=ho1.sl trn_len (by omega)
 rw [htl] at hs4
 rw [htl]
 have hb0:=(hB.ext hx1).cell 0
 have hb1:=(hB.ext hx1).cell 1
 simp at hb0 hb1
 have hbl:=(hB.ext hx1).lt
 have hX1:=hx0.trans hx1
 go_wp2_with fail
 refine (c_l25Scales A1 A2 n1 c1 n2 c2 ns ps _ (hs1.ext hX1) (hs2.ext hX1) HNM.out HK.out.net A4 n c4 E1 hs4 (by omega) HTO.out).mono ?_
 rintro e w2 ⟨v2,E2,rfl,ho2,HE2,hx2⟩
 obtain rfl:E2=sc:=by rw [HE2.out, ←HTS.out]; exact HSC.out
 obtain ⟨A5,c5,rfl,hs5⟩:=ho2.sl intC_len (by omega)
 rw [hscl] at hs5 ho2
 rw [hscl]
 clear hb0 hb1 hbl
 have hX2:=hX1.trans hx2
 go_wp2_with fail
 refine (c_l24Scale A4 n c4 E1 A5 c5 E2 _ (hs4.ext hx2) hs5 (by omega) n1 HTO.out (by rw [←HSC.out]; exact hrSc_in _ _ _ _ _)).mono ?_
 rintro e w3 ⟨v3,E3,rfl,ho3,HE3,hx3⟩
 obtain rfl:E3=le:=by rw [HE3.out, ←HSC.out, ←HTS.out]; exact HLE.out
 obtain ⟨A6,c6,rfl,hs6⟩:=ho3.sl trn_len (by omega)
 rw [hlel] at hs6
 rw [hlel]
 have hX3:=hX2.trans hx3
 have ho23:=ho2.ext hx3
 have hO0:OwnL (w3.alloc (.cells #[] 2)) w3.heap.size 2 1 intC (.slice (some ⟨w3.heap.size,0,none⟩) 0 0) []:=own_new w3 w3.heap.size _ _ _ _ rfl (Nat.le_refl _)
 have hz1:=hX1.size
 have hz2:=hX3.size
 clear ho1 ho2 ho3 HE1 HE2 HE3
 go_wp2_with fail
 go_loopw [13,14] (fun v i wr=>∃(k:Nat) (T:List Int),k≤n∧i= .int .i64 k∧T.length=k∧Hid (T=(E3.map Trn.amount).take k)∧OwnL wr w3.heap.size 2 1 intC v T∧Ext w3 wr) (fun _ i _=>n-(intOf i).toNat)
 case atStart=>exact ⟨0,[],Nat.zero_le _,rfl,rfl,hide rfl,hO0,Ext.alloc _ _⟩
 case round=>
  clear hO0
  obtain ⟨k,T,hk,rfl,hTk,HT,ho,hx⟩:=hrel
  by_cases hlt:k<n
  ·obtain ⟨b,off,x,rfl,hb,hxk,hc⟩:=(hs6.ext hx).get hlt
   have hc2:=hc 2 _ rfl
   clear hc
   have HN:Hid (T++[x.amount]=(E3.map Trn.amount).take (k+1)):=hide (by rw [List.take_add_one,List.getElem?_map,hxk,HT.out]; rfl)
   clear hxk
   have hxz:=hx.size
   go_wp2_with (at_builtin; go_must (refine wpList_append_one rfl _ _ 24 rfl w3.heap.size 2 _ 1 8 Tryz.underlying24 int_info rfl (by decide) intC intC_len int_one' _ _ rfl (ho.ext (Ext.alloc _ _)) wr x.amount rfl _ rfl (by first | rfl | simp) (by omega) (by omega) (by first | omega | (simp; omega)) ?_))
   intro v4 w4 ho4 hext4
   have hx4:=hext4 w3 (Nat.le_refl _) (hx.and_alloc _)
   go_wp2_with fail
   go_roundw
   case rel=>exact ⟨k+1,_,by omega,by go_num,by simp; omega,HN,ho4,hx4⟩
   case measure=>simp [intOf]; omega
  ·obtain rfl:k=n:=by omega
   have HTE:Hid (T=E3.map Trn.amount):=hide (by rw [HT.out,List.take_of_length_le (by rw [List.length_map]; omega)])
   have hX4:=hX3.trans hx
   obtain ⟨A7,c7,rfl,hs7⟩:=ho.sl intC_len (by omega)
   rw [hTk] at hs7
   rw [hTk]
   clear ho
   go_wp2_with fail
   refine (c_l22Orders A k c xs A7 c7 T _ (hs.ext hX4) hs7 (by omega) (by
    rw [HTE.out]
    intro z hz
    obtain ⟨y,hy,rfl⟩:=List.mem_map.1 hz
    exact HLO.out y hy)).mono ?_
   rintro e w5 ⟨v5,E5,rfl,ho5,HE5,hx5⟩
   have ho25:=ho23.ext (hx.trans hx5)
   have hzz:=hx.size
   have HE6:Hid (E5=hrOrd ps n1 xs L h):=hide (by rw [HE5.out,HTE.out, ←HLE.out]; rfl)
   go_wp2_with fail
   go_ret2
   refine ⟨_,_,rfl,ho25.lowG hz1,?_,hX4.trans hx5⟩
   rw [←HE6.out]
   exact ho5.lowG (by omega)
set_option maxHeartbeats 1000000 in
theorem c_specPlannedReadings (A1 A2:Option Addr) (n1 c1 n2 c2:Nat) (ns:List Node) (ps:List Pipe) (A:Option Addr) (n c:Nat) (xs:List Contract) (B:Option Addr) (m d:Nat) (L:List Nomination) (h:Int) (w:World) (hs1:SliceOf w 3 Node.cells A1 n1 c1 ns) (hs2:SliceOf w 5 Pipe.cells A2 n2 c2 ps) (hs:SliceOf w 8 Contract.cells A n c xs) (hL:SliceOf w 4 Nomination.cells B m d L) (hnm:∀x∈ns,x.name.size≤1048576):Calls Tryz.prog 35 #[.agg #[.slice A1 n1 c1,.slice A2 n2 c2],.slice A n c,.slice B m d,.int .i64 h] w (RetRZ (prV n1 ns ps xs L h) w):=by
 have hB:=Row.new w 45 [.slice A1 n1 c1,.slice A2 n2 c2]
 have hx0:Ext w (w.alloc (.cells #[.slice A1 n1 c1,.slice A2 n2 c2] 45)):=Ext.alloc _ _
 have HLN:=hide hs.len
 have HNM:=hide hnm
 clear hnm
 obtain ⟨z,HZ⟩:∃z,Hid (setC n1 ns ps xs L h=z):=⟨_,hide rfl⟩
 go_enter Tryz.func35,Tryz.ntmps35
 go_wp2_with fail
 refine (c_l31Code A1 A2 n1 c1 n2 c2 ns ps A n c xs B m d L h _ (hs1.ext hx0) (hs2.ext hx0) (hs.ext hx0) (hL.ext hx0) HNM.out).mono ?_
 rw [HZ.out]
 rintro e w1 ⟨rfl,hx1⟩
 have hX1:=hx0.trans hx1
 by_cases h0:z=0
 ·subst h0
  have HK:=hide (setC_ok HZ.out)
  have HR:Hid (prV n1 ns ps xs L h=rfV n1 ns ps (hrOrd ps n1 xs L h)):=hide (by unfold prV; rw [if_pos HZ.out])
  have hb0:=(hB.ext hx1).cell 0
  have hb1:=(hB.ext hx1).cell 1
  simp at hb0 hb1
  have hbl:=(hB.ext hx1).lt
  go_wp2_with fail
  refine (c_l31Orders A1 A2 n1 c1 n2 c2 ns ps A n c xs B m d L h _ (hs1.ext hX1) (hs2.ext hX1) (hs.ext hX1) (hL.ext hX1) HNM.out HK.out).mono ?_
  rintro e w2 ⟨v1,v2,rfl,-,ho2,hx2⟩
  obtain ⟨A4,c4,rfl,hs4⟩:=ho2.sl order_len (by omega)
  clear hb0 hb1 hbl
  have hx02:=hx1.trans hx2
  have hb0:=(hB.ext hx02).cell 0
  have hb1:=(hB.ext hx02).cell 1
  simp at hb0 hb1
  have hbl:=(hB.ext hx02).lt
  have hX2:=hX1.trans hx2
  go_wp2_with fail
  refine (c_specReadingsFor A1 A2 n1 c1 n2 c2 ns ps A4 _ c4 (hrOrd ps n1 xs L h) _ (hs1.ext hX2) (hs2.ext hX2) hs4 HNM.out).mono ?_
  rintro e w3 ⟨v3,l,z,rfl,ho3,hx3,HP⟩
  have hz2:=hX2.size
  go_wp2_with fail
  go_ret2
  exact ⟨_,l,z,rfl,ho3.lowG hz2,hX2.trans hx3,hide (by rw [HP.out,HR.out])⟩
 ·have HR:Hid (prV n1 ns ps xs L h=([],z)):=hide (by unfold prV; rw [if_neg (by rw [HZ.out]; exact h0),HZ.out])
  have hb:(z != 0)=true:=by rw [bne_iff_ne]; exact h0
  go_wp2_with fail
  go_ret2
  exact ⟨_,[],z,rfl,OwnL.nil_ _ _ _ _ _,hX1,hide HR.out.symm⟩
end Go.Proofs.YtfkpghdmljjegaaGreat
