/-
  AcceptNomination of the reference.
-/
import Derived.Test.YtinindjjapblcaaGreatDoorWa23
import Derived.Test.YtinindjjapblcaaGreatDoorWa02
import Derived.Test.YtinindjjapblcaaGreatDoorWa05
import Derived.Test.YtinindjjapblcaaGreatDoorWa24
import Derived.Test.YtinindjjapblcaaGreatDoorWa20
import Derived.Test.YtinindjjapblcaaGreatDoorWa09
import Derived.Test.YtinindjjapblcaaGreatDoorWa21
import Derived.Test.YtinindjjapblcaaGreatDoorWa19
import Derived.Test.YtinindjjapblcaaGreatDoorWa06
namespace Go.Proofs.YtinindjjapblcaaGreatDoor
open Go.RowKit
theorem amt_one (y:Int):∀u∈intC y,u.oneCell'=true:=by intro u hu; simp [intC] at hu; subst hu; rfl
def amtsN (ct h:Int) (L:List Nomination):List Int:=(L.filter (hitN ct h)).map Nomination.amount
theorem amts_step {ct h:Int} {L:List Nomination} {k:Nat} {p:Nomination} (hk:L[k]? =some p):amtsN ct h (L.take (k+1))=amtsN ct h (L.take k)++if hitN ct h p=true then [p.amount] else []:=by
 unfold amtsN
 rw [List.take_add_one,hk,List.filter_append,List.map_append]
 congr 1
 cases hh:hitN ct h p <;> simp [hh]
theorem amts_len (ct h:Int) (L:List Nomination):(amtsN ct h L).length≤L.length:=by unfold amtsN; rw [List.length_map]; exact List.length_filter_le _ _
set_option maxHeartbeats 4000000 in
theorem c_l21History (ct h:Int) (B:Option Addr) (m d:Nat) (L:List Nomination) (w:World) (hL:SliceOf w 4 Nomination.cells B m d L) (h200:m≤200):
  Calls Tryz.prog 177 #[.slice B m d,.int .i64 ct,.int .i64 h] w (RetA 2 intC (amtsN ct h L) w):=by
 have hmm:=hL.max
 have hcap:=hL.cap
 have HLn:=hide hL.len
 go_enter Tryz.func177,Tryz.ntmps177
 go_wp2_with fail
 go_loopw [7,8] (fun v i wr=>∃(k:Nat) (E:List Int),k≤m∧i= .int .i64 k∧E.length≤k∧Hid (E=amtsN ct h (L.take k))∧OwnL wr w.heap.size 2 1 intC v E∧Ext w wr) (fun _ i _=>m-(intOf i).toNat)
 case atStart=>exact ⟨0,[],Nat.zero_le _,rfl,by simp,hide rfl,OwnL.empty w _ _ _ _ (Nat.le_refl _),Ext.alloc _ _⟩
 case round=>
  obtain ⟨k,E,hk,rfl,hE,HE,hown,hx⟩:=hrel
  have hxz:=hx.size
  by_cases hlt:k<m
  ·obtain ⟨b,off,p,rfl,hb,hxk,hc⟩:=(hL.ext hx).get hlt
   have HST:=hide (amts_step (ct:=ct) (h:=h) hxk)
   clear hxk
   have hc0:=hc 0 _ rfl
   have hc1:=hc 1 _ rfl
   have hc3:=hc 3 _ rfl
   clear hc
   simp only [Nat.add_zero] at hc0
   cases e0:(p.contract==ct)
   ·have HN:=hide (show amtsN ct h (L.take (k+1))=E by rw [HST.out, ←HE.out,hitN,e0]; simp)
    go_wp2_with fail
    go_roundw
    case rel=>exact ⟨k+1,E,by omega,by go_num,by omega,hide HN.out.symm,hown,hx⟩
    case measure=>simp [intOf]; omega
   ·cases e1:(p.hour==h)
    ·have HN:=hide (show amtsN ct h (L.take (k+1))=E by rw [HST.out, ←HE.out,hitN,e0,e1]; simp)
     go_wp2_with fail
     go_roundw
     case rel=>exact ⟨k+1,E,by omega,by go_num,by omega,hide HN.out.symm,hown,hx⟩
     case measure=>simp [intOf]; omega
    ·have HN:=hide (show amtsN ct h (L.take (k+1))=E++[p.amount] by rw [HST.out, ←HE.out,hitN,e0,e1]; simp)
     go_wp2_with (at_builtin; go_must (refine wpList_append_one rfl _ _ 137 rfl w.heap.size 2 _ 1 8 Tryz.underlying137 int_info rfl (by decide) intC intC_len amt_one _ _ rfl (hown.ext (Ext.alloc _ _)) _ p.amount rfl _ rfl (by first | rfl | simp) (by omega) (by omega) (by first | omega | (simp; omega)) ?_))
     intro v1 w4 hown4 hext4
     have hx4:=hext4 w (Nat.le_refl _) (hx.and_alloc _)
     go_wp2_with fail
     go_roundw
     case rel=>exact ⟨k+1,_,by omega,by go_num,by simp; omega,hide HN.out.symm,hown4,hx4⟩
     case measure=>simp [intOf]; omega
  ·obtain rfl:m=k:=by omega
   have HE2:=hide (show E=amtsN ct h L by rw [HE.out,HLn.out,List.take_length])
   obtain ⟨A',c',rfl,ho,hb⟩:=hown.toA intC_len (by omega)
   go_wp2_with fail
   go_ret
   rw [←HE2.out]
   exact ⟨A',_,c',rfl,ho,hb,hx⟩
end Go.Proofs.YtinindjjapblcaaGreatDoor
namespace Go.Proofs.YtinindjjapblcaaGreatDoor
open Go.RowKit
set_option maxHeartbeats 1000000 in
theorem c_l20Code (A1 A2:Option Addr) (n1 c1 n2 c2:Nat) (ns:List Node) (ps:List Pipe) (A:Option Addr) (n c:Nat) (xs:List Contract) (w:World) (hs1:SliceOf w 3 Node.cells A1 n1 c1 ns) (hs2:SliceOf w 5 Pipe.cells A2 n2 c2 ps) (hs:SliceOf w 8 Contract.cells A n c xs) (hnm:∀x∈ns,x.name.size≤1048576):
  Calls Tryz.prog 174 #[.agg #[.slice A1 n1 c1,.slice A2 n2 c2],.slice A n c] w (Ret (.int .i64 (bookC n1 ns ps xs)) w):=by
 have hm1:=hs1.max
 have hp1:=hs1.cap
 have HNM:=hide hnm
 clear hnm
 go_enter Tryz.func174,Tryz.ntmps174
 go_wp2_with fail
 refine (c_specIsNetwork A1 A2 n1 c1 n2 c2 ns ps _ (hs1.ext (Ext.alloc _ _)) (hs2.ext (Ext.alloc _ _)) HNM.out).mono ?_
 cases hN:netB ns ps
 ·have HR:=hide (show bookC n1 ns ps xs=1 by unfold bookC; rw [hN]; rfl)
  rintro e w1 ⟨rfl,hx1⟩
  go_wp2_with fail
  go_ret
  exact Ret.int HR.out hx1.box
 rintro e w1 ⟨rfl,hx1⟩
 have hcl:=hx1.cell
 go_wp2_with fail
 refine (c_l20Book A1 A2 n1 c1 n2 c2 A n c xs _ (by omega) (hs.ext hx1.box)).mono ?_
 cases hB:bookB n1 xs
 ·have HR:=hide (show bookC n1 ns ps xs=3 by unfold bookC; rw [hN,hB]; rfl)
  rintro e w2 ⟨rfl,hx2⟩
  go_wp2_with fail
  go_ret
  exact Ret.int HR.out (hx1.box.trans hx2)
 ·have HR:=hide (show bookC n1 ns ps xs=0 by unfold bookC; rw [hN,hB]; rfl)
  rintro e w2 ⟨rfl,hx2⟩
  go_wp2_with fail
  go_ret
  exact Ret.int HR.out (hx1.box.trans hx2)
set_option maxHeartbeats 1000000 in
theorem c_l21Code (A1 A2:Option Addr) (n1 c1 n2 c2:Nat) (ns:List Node) (ps:List Pipe) (A:Option Addr) (n c:Nat) (xs:List Contract) (B:Option Addr) (m d:Nat) (L:List Nomination) (w:World) (hs1:SliceOf w 3 Node.cells A1 n1 c1 ns) (hs2:SliceOf w 5 Pipe.cells A2 n2 c2 ps) (hs:SliceOf w 8 Contract.cells A n c xs) (hL:SliceOf w 4 Nomination.cells B m d L) (hnm:∀x∈ns,x.name.size≤1048576):
  Calls Tryz.prog 142 #[.agg #[.slice A1 n1 c1,.slice A2 n2 c2],.slice A n c,.slice B m d] w (Ret (.int .i64 (nomC n1 ns ps xs L)) w):=by
 have HNM:=hide hnm
 clear hnm
 go_enter Tryz.func142,Tryz.ntmps142
 go_wp2_with fail
 refine (c_l20Code A1 A2 n1 c1 n2 c2 ns ps A n c xs _ (hs1.ext (Ext.alloc _ _)) (hs2.ext (Ext.alloc _ _)) (hs.ext (Ext.alloc _ _)) HNM.out).mono ?_
 by_cases hz:bookC n1 ns ps xs=0
 ·have hbk:=book_zero hz
  have HOK:=hide (book_hours hbk.2)
  clear hbk
  rw [hz]
  rintro e w1 ⟨rfl,hx1⟩
  go_wp2_with fail
  refine (c_l21List A n c xs B m d L _ (hs.ext hx1.box) (hL.ext hx1.box) HOK.out).mono ?_
  cases hb:nomsB xs L
  ·have HR:=hide (show nomC n1 ns ps xs L=5 by unfold nomC; rw [if_pos hz,hb]; rfl)
   clear hz
   rintro e w2 ⟨rfl,hx2⟩
   go_wp2_with fail
   go_ret
   exact Ret.int HR.out (hx1.box.trans hx2)
  ·have HR:=hide (show nomC n1 ns ps xs L=0 by unfold nomC; rw [if_pos hz,hb]; rfl)
   clear hz
   rintro e w2 ⟨rfl,hx2⟩
   go_wp2_with fail
   go_ret
   exact Ret.int HR.out (hx1.box.trans hx2)
 ·have HR:=hide (show nomC n1 ns ps xs L=bookC n1 ns ps xs by unfold nomC; rw [if_neg hz])
  have hz1:(bookC n1 ns ps xs==0)=false:=by simpa using hz
  clear hz
  generalize bookC n1 ns ps xs=Z at *
  rintro e w1 ⟨rfl,hx1⟩
  go_wp2_with fail
  go_ret
  exact Ret.int HR.out hx1.box
end Go.Proofs.YtinindjjapblcaaGreatDoor
namespace Go.Proofs.YtinindjjapblcaaGreatDoor
open Go.RowKit
theorem amts_last {ct h:Int} {L:List Nomination} {q:Nomination} (hq:(L.filter (hitN ct h)).getLast? =some q):∃k,(amtsN ct h L).length=k+1∧(amtsN ct h L)[k]? =some q.amount:=by
 have hl:(amtsN ct h L).getLast? =some q.amount:=by unfold amtsN; rw [List.getLast?_map,hq]; rfl
 rw [List.getLast?_eq_getElem?] at hl
 have:=(List.getElem?_eq_some_iff.1 hl).1
 exact ⟨(amtsN ct h L).length-1,by omega,hl⟩
set_option maxHeartbeats 8000000 in
theorem c_l21Acceptable (A:Option Addr) (n c:Nat) (xs:List Contract) (B:Option Addr) (m d:Nat) (L:List Nomination) (w:World) (hs:SliceOf w 8 Contract.cells A n c xs) (hL:SliceOf w 4 Nomination.cells B m d L) (x:Nomination) (n1:Int) (hbk:bookB n1 xs=true) (hall:∀q∈L,nomB xs q=true) (hb:nomB xs x=true) (h200:L.length≤200):
  Calls Tryz.prog 144 #[.slice A n c,.slice B m d,.agg #[.int .i64 x.contract,.int .i64 x.hour,.int .i64 x.sent,.int .i64 x.amount]] w (Ret (.bool (accB xs L x)) w):=by
 obtain ⟨W0,HW⟩:∃W0,Hid ((w.alloc (.cells #[.int .i64 x.contract,.int .i64 x.hour,.int .i64 x.sent,.int .i64 x.amount] 79))=W0):=⟨_,hide rfl⟩
 have hin:NomIn W0 w.heap.size x:=by rw [←HW.out]; exact NomIn.new w x 79
 have x0:Ext w W0:=by rw [←HW.out]; exact Ext.alloc _ _
 have hmm:=hL.max
 have hcap:=hL.cap
 have HLn:=hide hL.len
 have hm200:m≤200:=by rw [HLn.out]; exact h200
 obtain ⟨kc,p,hkc,hkl,hpc,hpa,hpb,hxa,hxb,hxh,hxi,hxs,hxt⟩:=nomB_facts hbk hb
 have HKC:=hide hkc
 have HPC:=hide hpc
 have HALL:=hide hall
 have HBK:=hide hbk
 clear hall hbk hkc hpc hb
 have hlast:(m=0∧Hid (L=[]))∨∃(m':Nat) (y:Nomination),m=m'+1∧Hid (L.getLast? =some y)∧Hid (L[m']? =some y):=by
  rcases Nat.eq_zero_or_pos m with h | h
  ·exact .inl ⟨h,hide (List.eq_nil_of_length_eq_zero (by rw [←HLn.out]; exact h))⟩
  ·have hlt:m-1<L.length:=by rw [←HLn.out]; omega
   refine .inr ⟨m-1,L[m-1],by omega,hide ?_,hide (List.getElem?_eq_getElem hlt)⟩
   rw [List.getLast?_eq_getElem?, ←HLn.out]; exact List.getElem?_eq_getElem hlt
 have hin':=hin
 obtain ⟨hy,y0,y1,y2,y3⟩:=hin'
 rcases hlast with ⟨rfl,HE⟩ | ⟨m',y,rfl,HG,HY⟩
 ·have HACC:=hide (acc_none (xs:=xs) (L:=L) (x:=x) (fun y hy=>by rw [HE.out] at hy; cases hy) (by unfold hits; rw [HE.out]; rfl))
  have HAM:=hide (show amtsN x.contract x.hour L=[] by rw [HE.out]; rfl)
  go_enter Tryz.func144,Tryz.ntmps144
  go_wp2_with fail
  rw [HW.out]
  refine wp_region_ph [] [0,1,2,3,4,5,6,7,8,9,10,11,12,13,14] (by kernel_rfl) (by kernel_rfl) (by intro c a w d v h; cases d <;> exact h) ?_
  simp only [wpPh,pickL,nthO]
  repeat (go_big_quiet_step (fail))
  refine wpQuiet_nil ?_
  go_wp2_with fail
  refine (c_l21History x.contract x.hour B 0 d L _ (hL.ext x0.drew) (by omega)).mono ?_
  rw [HAM.out]
  rintro e w3 ⟨A3,n3,c3,rfl,ho3,_,hx3⟩
  have hx03:=x0.drew.trans hx3
  obtain rfl:n3=0:=ho3.1
  clear hy y0 y1 y2 y3
  obtain ⟨hy,y0,y1,y2,y3⟩:=hin.ext ((Ext.refl _).drew.trans hx3)
  cases b1:decide (x.sent≤x.hour-6)
  ·go_wp2_with fail
   go_ret
   exact Ret.bool HACC.out hx03
  ·go_wp2_with fail
   go_ret
   exact Ret.bool HACC.out hx03
 ·have hmL:m'<L.length:=by rw [←HLn.out]; omega
  obtain ⟨b,off,y',rfl,hb,hyk,hc⟩:=(hL.ext x0).get (k:=m') (by omega)
  obtain rfl:y=y':=by have:=HY.out.symm.trans hyk; injection this
  have hcy:=hc 2 _ rfl
  clear hc hyk
  cases hsb:decide (x.sent<y.sent)
  case true=>
   have HR:=hide (acc_last_no (xs:=xs) HG.out hsb)
   go_enter Tryz.func144,Tryz.ntmps144
   go_wp2_with fail
   rw [HW.out]
   refine wp_region_ph [] [0,1,2,3,4,5,6,7,8,9,10,11,12,13,14] (by kernel_rfl) (by kernel_rfl) (by intro c a w d v h; cases d <;> exact h) ?_
   simp only [wpPh,pickL,nthO]
   repeat (go_big_quiet_step (fail))
   refine wpQuiet_nil ?_
   go_wp2_with fail
   go_ret
   exact Ret.bool HR.out x0.drew
  have HSB:=hide (show ∀z,L.getLast? =some z→decide (x.sent<z.sent)=false from fun z hz=>by rw [HG.out] at hz; injection hz with hz; subst hz; exact hsb)
  go_enter Tryz.func144,Tryz.ntmps144
  go_wp2_with fail
  rw [HW.out]
  refine wp_region_ph [] [0,1,2,3,4,5,6,7,8,9,10,11,12,13,14] (by kernel_rfl) (by kernel_rfl) (by intro c a w d v h; cases d <;> exact h) ?_
  simp only [wpPh,pickL,nthO]
  repeat (go_big_quiet_step (fail))
  refine wpQuiet_nil ?_
  clear hcy hsb
  go_wp2_with fail
  refine (c_l21History x.contract x.hour _ (m'+1) d L _ (hL.ext x0.drew) (by omega)).mono ?_
  cases hf:(L.filter (hitN x.contract x.hour)).getLast? with
  | none=>
   have hF:L.filter (hitN x.contract x.hour)=[]:=List.getLast?_eq_none_iff.1 hf
   have HACC:=hide (acc_none (xs:=xs) (L:=L) (x:=x) HSB.out hF)
   have HAM:=hide (show amtsN x.contract x.hour L=[] by unfold amtsN; rw [hF]; rfl)
   clear hf hF
   rw [HAM.out]
   rintro e w3 ⟨A3,n3,c3,rfl,ho3,_,hx3⟩
   have hx03:=x0.drew.trans hx3
   obtain rfl:n3=0:=ho3.1
   clear hy y0 y1 y2 y3
   obtain ⟨hy,y0,y1,y2,y3⟩:=hin.ext ((Ext.refl _).drew.trans hx3)
   cases b1:decide (x.sent≤x.hour-6)
   ·go_wp2_with fail
    go_ret
    exact Ret.bool HACC.out hx03
   ·go_wp2_with fail
    go_ret
    exact Ret.bool HACC.out hx03
  | some q=>
   have HACC:=hide (acc_some (xs:=xs) (L:=L) (x:=x) HSB.out hf HKC.out HPC.out)
   obtain ⟨k,hk1,hk2⟩:=amts_last hf
   have hqL:q∈L:=(List.mem_filter.1 (List.mem_of_getLast? hf)).1
   obtain ⟨_,_,_,_,_,_,_,hqa,hqb,_,_,_,_⟩:=nomB_facts HBK.out (HALL.out q hqL)
   have hlen:=amts_len x.contract x.hour L
   clear hf hqL
   rintro e w3 ⟨A3,n3,c3,rfl,ho3,_,hx3⟩
   have hx03:=x0.drew.trans hx3
   obtain rfl:n3=k+1:=ho3.1.trans hk1
   have hs3:=ho3.slice intC_len
   have hm3:=hs3.max
   have hc3:=hs3.cap
   obtain ⟨b3,o3,z,rfl,hb3,hzk,hcz⟩:=hs3.get (k:=k) (by omega)
   obtain rfl:q.amount=z:=by have:=hk2.symm.trans hzk; injection this
   have hcz0:=hcz 0 _ rfl
   simp only [Nat.add_zero,Nat.mul_one] at hcz0
   have hk200:k<200:=by omega
   clear hcz hzk hk2 hk1 hs3 ho3 hlen
   clear hy y0 y1 y2 y3
   obtain ⟨hy,y0,y1,y2,y3⟩:=hin.ext ((Ext.refl _).drew.trans hx3)
   cases b1:decide (x.sent≤x.hour-6)
   ·have HB:=hide (show accB xs L x=decide (absI (x.amount-q.amount)≤p.amount.tdiv 2) by
     rw [HACC.out,show decide (x.hour-6<x.sent)=true by simp at b1 ⊢; omega,Bool.true_and]
     by_cases h:p.amount.tdiv 2<absI (x.amount-q.amount)
     ·rw [decide_eq_true h,decide_eq_false (by omega)]; rfl
     ·rw [decide_eq_false h,decide_eq_true (by omega)]; rfl)
    obtain ⟨ba,oa,p',rfl,hba,ep1,ep2⟩:=(hs.ext hx03).get (k:=kc) (by rw [hs.len]; exact hkl)
    obtain rfl:p=p':=by have:=HPC.out.symm.trans ep1; injection this
    have hcp:=ep2 3 _ rfl
    clear ep1 ep2
    have y0k:w3.cell? ⟨w.heap.size,0,none⟩=some (.int .i64 (kc:Int)):=by rw [←HKC.out]; exact y0
    clear y0
    have hkn:kc<n:=by rw [hs.len]; exact hkl
    have hdd:=absD_le hxa hxb hqa hqb
    have hwq:IntKind.i64.wrap (p.amount.tdiv 2)=p.amount.tdiv 2:=IntWalk.i64_in _ (by rw [Int.tdiv_eq_ediv_of_nonneg (by omega)]; omega)
    go_wp2_with fail
    refine wp_region_ph [([0,1,2,3,4,5,6,7,8,10,11,12,13,14,15,16],9)] [17,18] (by kernel_rfl) (by kernel_rfl) (by intro c a w d v h; cases d <;> exact h) ?_
    simp only [wpPh,pickL,nthO]
    repeat (go_big_quiet_step (fail))
    refine wpQuiet_nil ?_
    go_wp2_with fail
    refine (c_l01Abs _ _ (by omega) (by omega)).mono ?_
    rintro e w' ⟨rfl,rfl⟩
    go_wp2_with fail
    refine ⟨Ext.refl _,?_⟩
    repeat (go_big_quiet_step (fail))
    refine wpQuiet_nil ?_
    go_wp2_with fail
    go_ret
    exact Ret.bool HB.out hx03.drew
   ·have HB:=hide (show accB xs L x=true by rw [HACC.out,show decide (x.hour-6<x.sent)=false by simp at b1 ⊢; omega]; rfl)
    go_wp2_with fail
    go_ret
    exact Ret.bool HB.out hx03
end Go.Proofs.YtinindjjapblcaaGreatDoor
namespace Go.Proofs.YtinindjjapblcaaGreatDoor
open Go.RowKit
set_option maxHeartbeats 8000000 in
theorem c_specAcceptNomination (A1 A2:Option Addr) (n1 c1 n2 c2:Nat) (ns:List Node) (ps:List Pipe) (A:Option Addr) (n c:Nat) (xs:List Contract) (B:Option Addr) (m d:Nat) (L:List Nomination) (w:World) (hs1:SliceOf w 3 Node.cells A1 n1 c1 ns) (hs2:SliceOf w 5 Pipe.cells A2 n2 c2 ps) (hs:SliceOf w 8 Contract.cells A n c xs) (hL:SliceOf w 4 Nomination.cells B m d L) (hnm:∀x∈ns,x.name.size≤1048576) (x:Nomination):
  Calls Tryz.prog 97 #[.agg #[.slice A1 n1 c1,.slice A2 n2 c2],.slice A n c,.slice B m d,.agg #[.int .i64 x.contract,.int .i64 x.hour,.int .i64 x.sent,.int .i64 x.amount]] w (RetS 79 Nomination.cells (accR n1 ns ps xs L x) w):=by
 have x0:Ext w ((w.alloc (.cells #[.slice A1 n1 c1,.slice A2 n2 c2] 27)).alloc (.cells #[.int .i64 x.contract,.int .i64 x.hour,.int .i64 x.sent,.int .i64 x.amount] 79)):=(Ext.alloc _ _).and_alloc _
 have hin:NomIn ((w.alloc (.cells #[.slice A1 n1 c1,.slice A2 n2 c2] 27)).alloc (.cells #[.int .i64 x.contract,.int .i64 x.hour,.int .i64 x.sent,.int .i64 x.amount] 79)) (w.heap.size+1) x:=by have h:=NomIn.new (w.alloc (.cells #[.slice A1 n1 c1,.slice A2 n2 c2] 27)) x 79; rw [World.size_alloc] at h; exact h
 have hmm:=hL.max
 have hcap:=hL.cap
 have HLn:=hide hL.len
 have HNM:=hide hnm
 clear hnm
 go_enter Tryz.func97,Tryz.ntmps97
 go_wp2_with fail
 refine (c_l21Code A1 A2 n1 c1 n2 c2 ns ps A n c xs B m d L _ (hs1.ext x0) (hs2.ext x0) (hs.ext x0) (hL.ext x0) HNM.out).mono ?_
 by_cases hz:nomC n1 ns ps xs L=0
 case neg=>
  have hz1:(nomC n1 ns ps xs L != 0)=true:=by simpa using hz
  have HR:=hide (show accR n1 ns ps xs L x=([],nomC n1 ns ps xs L) by unfold accR; rw [if_pos hz])
  clear hz
  generalize nomC n1 ns ps xs L=Z at *
  rintro e w1 ⟨rfl,hx1⟩
  go_wp2_with fail
  go_ret2
  exact RetS.nil_ HR.out (x0.trans hx1)
 obtain ⟨hbk,h200,hall⟩:=nomC_facts hz
 have HR1:=hide (show accR n1 ns ps xs L x=if nomB xs x=false then ([],2) else if accB xs L x=false then ([],7) else if L.length=200 then ([],3) else (L++[x],0) by unfold accR; rw [if_neg (by simpa using hz)])
 rw [hz]
 clear hz
 rintro e w1 ⟨rfl,hx1⟩
 obtain ⟨hy,y0,y1,y2,y3⟩:=hin.ext hx1
 have hok:=book_hours hbk
 have hm200:m≤200:=by rw [HLn.out]; exact h200
 have HALL:=hide hall
 have HBK:=hide hbk
 clear hall hbk
 go_wp2_with fail
 refine (c_l21Is A n c xs x _ (hs.ext (x0.trans hx1)) hok).mono ?_
 cases hb:nomB xs x
 ·have HR:=hide (show accR n1 ns ps xs L x=([],2) by rw [HR1.out,if_pos hb])
  rintro e w2 ⟨rfl,hx2⟩
  go_wp2_with fail
  go_ret2
  exact RetS.nil_ HR.out (x0.trans (hx1.trans hx2))
 have HR2:=hide (show accR n1 ns ps xs L x=if accB xs L x=false then ([],7) else if L.length=200 then ([],3) else (L++[x],0) by rw [HR1.out,if_neg (by simp [hb])])
 have HB:=hide hb
 clear hb
 rintro e w2 ⟨rfl,hx2⟩
 clear hy y0 y1 y2 y3
 have hx12:=hx1.trans hx2
 obtain ⟨hy,y0,y1,y2,y3⟩:=hin.ext hx12
 go_wp2_with fail
 refine (c_l21Acceptable A n c xs B m d L _ (hs.ext (x0.trans hx12)) (hL.ext (x0.trans hx12)) x n1 HBK.out HALL.out HB.out h200).mono ?_
 cases ha:accB xs L x
 ·have HR:=hide (show accR n1 ns ps xs L x=([],7) by rw [HR2.out,if_pos ha])
  rintro e w3 ⟨rfl,hx3⟩
  go_wp2_with fail
  go_ret2
  exact RetS.nil_ HR.out (x0.trans (hx12.trans hx3))
 have HR3:=hide (show accR n1 ns ps xs L x=if L.length=200 then ([],3) else (L++[x],0) by rw [HR2.out,if_neg (by simp [ha])])
 clear ha
 rintro e w3 ⟨rfl,hx3⟩
 clear hy y0 y1 y2 y3
 have hx13:=hx12.trans hx3
 have hx03:=x0.trans hx13
 obtain ⟨hy,y0,y1,y2,y3⟩:=hin.ext hx13
 by_cases h2:m=200
 ·have HR:=hide (show accR n1 ns ps xs L x=([],3) by rw [HR3.out,if_pos (by rw [←HLn.out]; exact h2)])
  subst h2
  go_wp2_with fail
  go_ret2
  exact RetS.nil_ HR.out hx03
 have HR4:=hide (show accR n1 ns ps xs L x=(L++[x],0) by rw [HR3.out,if_neg (by rw [←HLn.out]; exact h2)])
 have hLL:L.length≤200:=h200
 go_wp2_with fail
 refine wp_region_phT [(w.heap.size+1,0),(w.heap.size+1,1),(w.heap.size+1,2),(w.heap.size+1,3)] (.two [1,3] 0 (.two [] 2 (.one [] 4 (.one [] 5 (.last [6,7]))) 4 (.one [] 2 (.one [] 5 (.last [6,7])))) 4 (.one [] 0 (.one [] 2 (.one [] 5 (.last [6,7]))))) (by kernel_rfl) (by kernel_rfl) (by intro c a w d v h; cases d <;> exact h) ?_
 simp only [wpPhT,pickL,nthO]
 repeat (go_big_quiet_step (fail))
 refine wpQuiet_nil ?_
 have rz:∀X:World,Ext w3 X→SameC [(w.heap.size+1,0),(w.heap.size+1,1),(w.heap.size+1,2),(w.heap.size+1,3)] w3 X:=fun X hX=>SameC.of_ext hX (by simp; omega)
 refine ⟨?_,?_⟩
 ·go_wp2_with fail
  have hXa:Ext w3 (w3.alloc (.cells #[] 79)).drew:=(Ext.alloc _ _).drew
  have on0:OwnL (w3.alloc (.cells #[] 79)) w3.heap.size 79 4 Nomination.cells (.slice (some ⟨w3.heap.size,0,none⟩) 0 0) []:=OwnL.empty w3 _ _ _ _ (Nat.le_refl _)
  refine ⟨rz _ hXa,wpQuiet_nil ⟨?_,?_⟩⟩
  ·go_wp2_with (at_builtin; go_must (refine wpList_append_grow rfl _ _ 29 rfl w3.heap.size 79 _ 4 32 Tryz.underlying29 nomination_info rfl (by decide) Nomination.cells nomination_len nomination_one (.slice (some ⟨w3.heap.size,0,none⟩) 0 0) [] rfl (on0.ext (Ext.refl _).drew) B m d L rfl (hL.ext (hx03.trans hXa)) (by simp; omega) (by omega) (by first | exact Nat.le_refl _ | omega | (simp; done) | (simp; omega)) ?_))
   intro v4 w4 o4 g4
   have hx34:=hXa.grown g4 (fun k hk=>on0.block_le hk)
   have hz4:=hx34.size
   go_wp2_with fail
   refine ⟨rz _ hx34,wpQuiet_nil ?_⟩
   go_wp2_with fail
   refine ⟨rz _ (hx34.and_alloc _),wpQuiet_nil ?_⟩
   go_wp2_with (at_builtin; go_must (refine wpList_append_grow rfl _ _ 29 rfl w3.heap.size 79 _ 4 32 Tryz.underlying29 nomination_info rfl (by decide) Nomination.cells nomination_len nomination_one v4 ([]++L) rfl (o4.ext (Ext.alloc _ _)) (some ⟨w4.heap.size,0,none⟩) 1 1 [x] rfl (nom_one_slice (Row.new w4 79 [.int .i64 x.contract,.int .i64 x.hour,.int .i64 x.sent,.int .i64 x.amount])) (by simp; omega) (by omega) (by first | exact Nat.le_refl _ | omega | (simp; done) | (simp; omega)) ?_))
   intro v5 w5 o5 g5
   have hx35:Ext w3 w5:=(hx34.and_alloc _).grown g5 (fun k hk=>o4.block_le hk)
   have o5':OwnL w5 w3.heap.size 79 4 Nomination.cells v5 (L++[x]):=by simpa using o5
   obtain ⟨A',c',g,rfl,hg,hnc,hcm,ho⟩:=o5'.own nomination_len (by omega)
   clear o5
   go_wp2_with fail
   refine ⟨SameC.of_ext hx35 (by simp; omega),?_⟩
   repeat (go_big_quiet_step (fail))
   refine wpQuiet_nil ?_
   go_wp2_with fail
   go_ret2
   rw [HR4.out]
   exact ⟨A',_,c',g,rfl,hnc,hcm,by have:=hx03.size; omega,ho,hx03.trans hx35⟩
  ·go_wp2_with fail
   have hXb:Ext w3 ((w3.alloc (.cells #[] 79)).alloc (.cells #[.int .i64 x.contract,.int .i64 x.hour,.int .i64 x.sent,.int .i64 x.amount] 79)).drew:=((Ext.alloc _ _).and_alloc _).drew
   have rx:Row ((w3.alloc (.cells #[] 79)).alloc (.cells #[.int .i64 x.contract,.int .i64 x.hour,.int .i64 x.sent,.int .i64 x.amount] 79)).drew (w3.heap.size+1) 79 [.int .i64 x.contract,.int .i64 x.hour,.int .i64 x.sent,.int .i64 x.amount]:=by have h:=(Row.new (w3.alloc (.cells #[] 79)) 79 [.int .i64 x.contract,.int .i64 x.hour,.int .i64 x.sent,.int .i64 x.amount]).drew; rw [World.size_alloc] at h; exact h
   refine ⟨rz _ hXb,wpQuiet_nil ?_⟩
   go_wp2_with (at_builtin; go_must (refine wpList_append_grow rfl _ _ 29 rfl w3.heap.size 79 _ 4 32 Tryz.underlying29 nomination_info rfl (by decide) Nomination.cells nomination_len nomination_one (.slice (some ⟨w3.heap.size,0,none⟩) 0 0) [] rfl (on0.ext (Ext.alloc _ _).drew) B m d L rfl (hL.ext (hx03.trans hXb)) (by simp; omega) (by omega) (by first | exact Nat.le_refl _ | omega | (simp; done) | (simp; omega)) ?_))
   intro v4 w4 o4 g4
   have hx34:=hXb.grown g4 (fun k hk=>on0.block_le hk)
   have hz4:=hx34.size
   have rx4:=rx.only (Only.of_grown g4) (by first | (simp; done) | (simp; omega) | omega)
   go_wp2_with fail
   refine ⟨rz _ hx34,wpQuiet_nil ?_⟩
   go_wp2_with (at_builtin; go_must (refine wpList_append_grow rfl _ _ 29 rfl w3.heap.size 79 _ 4 32 Tryz.underlying29 nomination_info rfl (by decide) Nomination.cells nomination_len nomination_one v4 ([]++L) rfl (o4) (some ⟨w3.heap.size+1,0,none⟩) 1 1 [x] rfl (nom_one_slice rx4) (by simp; omega) (by omega) (by first | exact Nat.le_refl _ | omega | (simp; done) | (simp; omega)) ?_))
   intro v5 w5 o5 g5
   have hx35:Ext w3 w5:=hx34.grown g5 (fun k hk=>o4.block_le hk)
   have o5':OwnL w5 w3.heap.size 79 4 Nomination.cells v5 (L++[x]):=by simpa using o5
   obtain ⟨A',c',g,rfl,hg,hnc,hcm,ho⟩:=o5'.own nomination_len (by omega)
   clear o5
   go_wp2_with fail
   refine ⟨SameC.of_ext hx35 (by simp; omega),?_⟩
   repeat (go_big_quiet_step (fail))
   refine wpQuiet_nil ?_
   go_wp2_with fail
   go_ret2
   rw [HR4.out]
   exact ⟨A',_,c',g,rfl,hnc,hcm,by have:=hx03.size; omega,ho,hx03.trans hx35⟩
 ·go_wp2_with fail
  have hXa:Ext w3 (w3.alloc (.cells #[.int .i64 x.contract,.int .i64 x.hour,.int .i64 x.sent,.int .i64 x.amount] 79)).drew:=(Ext.alloc _ _).drew
  refine ⟨rz _ hXa,wpQuiet_nil ?_⟩
  go_wp2_with fail
  have hXb:Ext w3 ((w3.alloc (.cells #[.int .i64 x.contract,.int .i64 x.hour,.int .i64 x.sent,.int .i64 x.amount] 79)).alloc (.cells #[] 79)).drew:=((Ext.alloc _ _).and_alloc _).drew
  have on0:OwnL ((w3.alloc (.cells #[.int .i64 x.contract,.int .i64 x.hour,.int .i64 x.sent,.int .i64 x.amount] 79)).alloc (.cells #[] 79)).drew w3.heap.size 79 4 Nomination.cells (.slice (some ⟨w3.heap.size+1,0,none⟩) 0 0) []:=(own_new (w3.alloc (.cells #[.int .i64 x.contract,.int .i64 x.hour,.int .i64 x.sent,.int .i64 x.amount] 79)) _ _ _ _ _ (by simp) (by simp)).ext (Ext.refl _).drew
  have rx:Row ((w3.alloc (.cells #[.int .i64 x.contract,.int .i64 x.hour,.int .i64 x.sent,.int .i64 x.amount] 79)).alloc (.cells #[] 79)).drew w3.heap.size 79 [.int .i64 x.contract,.int .i64 x.hour,.int .i64 x.sent,.int .i64 x.amount]:=((Row.new w3 79 [.int .i64 x.contract,.int .i64 x.hour,.int .i64 x.sent,.int .i64 x.amount]).alloc _).drew
  refine ⟨rz _ hXb,wpQuiet_nil ?_⟩
  go_wp2_with (at_builtin; go_must (refine wpList_append_grow rfl _ _ 29 rfl w3.heap.size 79 _ 4 32 Tryz.underlying29 nomination_info rfl (by decide) Nomination.cells nomination_len nomination_one (.slice (some ⟨w3.heap.size+1,0,none⟩) 0 0) [] rfl (on0) B m d L rfl (hL.ext (hx03.trans hXb)) (by simp; omega) (by omega) (by first | exact Nat.le_refl _ | omega | (simp; done) | (simp; omega)) ?_))
  intro v4 w4 o4 g4
  have hx34:=hXb.grown g4 (fun k hk=>on0.block_le hk)
  have hz4:=hx34.size
  have rx4:=rx.only (Only.of_grown g4) (by first | (simp; done) | (simp; omega) | omega)
  go_wp2_with fail
  refine ⟨rz _ hx34,wpQuiet_nil ?_⟩
  go_wp2_with (at_builtin; go_must (refine wpList_append_grow rfl _ _ 29 rfl w3.heap.size 79 _ 4 32 Tryz.underlying29 nomination_info rfl (by decide) Nomination.cells nomination_len nomination_one v4 ([]++L) rfl (o4) (some ⟨w3.heap.size,0,none⟩) 1 1 [x] rfl (nom_one_slice rx4) (by simp; omega) (by omega) (by first | exact Nat.le_refl _ | omega | (simp; done) | (simp; omega)) ?_))
  intro v5 w5 o5 g5
  have hx35:Ext w3 w5:=hx34.grown g5 (fun k hk=>o4.block_le hk)
  have o5':OwnL w5 w3.heap.size 79 4 Nomination.cells v5 (L++[x]):=by simpa using o5
  obtain ⟨A',c',g,rfl,hg,hnc,hcm,ho⟩:=o5'.own nomination_len (by omega)
  clear o5
  go_wp2_with fail
  refine ⟨SameC.of_ext hx35 (by simp; omega),?_⟩
  repeat (go_big_quiet_step (fail))
  refine wpQuiet_nil ?_
  go_wp2_with fail
  go_ret2
  rw [HR4.out]
  exact ⟨A',_,c',g,rfl,hnc,hcm,by have:=hx03.size; omega,ho,hx03.trans hx35⟩
end Go.Proofs.YtinindjjapblcaaGreatDoor
namespace Go.Proofs.YtinindjjapblcaaGreatDoor
open Go.RowKit
@[go_sem] theorem laterC_cell6 (cs:List (Nat×Nat)) (w x:World) (q1 q2 q3 q4 q5:Nat×Nat) (b o:Nat):(laterC (q1::q2::q3::q4::q5::(b,o)::cs) w x).cell? ⟨b,o,none⟩=w.cell? ⟨b,o,none⟩:=same_laterC _ w x (b,o) (by simp)
@[go_sem] theorem laterC_cell7 (cs:List (Nat×Nat)) (w x:World) (q1 q2 q3 q4 q5 q6:Nat×Nat) (b o:Nat):(laterC (q1::q2::q3::q4::q5::q6::(b,o)::cs) w x).cell? ⟨b,o,none⟩=w.cell? ⟨b,o,none⟩:=same_laterC _ w x (b,o) (by simp)
@[go_sem] theorem laterC_cell8 (cs:List (Nat×Nat)) (w x:World) (q1 q2 q3 q4 q5 q6 q7:Nat×Nat) (b o:Nat):(laterC (q1::q2::q3::q4::q5::q6::q7::(b,o)::cs) w x).cell? ⟨b,o,none⟩=w.cell? ⟨b,o,none⟩:=same_laterC _ w x (b,o) (by simp)
@[go_sem] theorem laterC_cell9 (cs:List (Nat×Nat)) (w x:World) (q1 q2 q3 q4 q5 q6 q7 q8:Nat×Nat) (b o:Nat):(laterC (q1::q2::q3::q4::q5::q6::q7::q8::(b,o)::cs) w x).cell? ⟨b,o,none⟩=w.cell? ⟨b,o,none⟩:=same_laterC _ w x (b,o) (by simp)
@[go_sem] theorem laterC_cell10 (cs:List (Nat×Nat)) (w x:World) (q1 q2 q3 q4 q5 q6 q7 q8 q9:Nat×Nat) (b o:Nat):(laterC (q1::q2::q3::q4::q5::q6::q7::q8::q9::(b,o)::cs) w x).cell? ⟨b,o,none⟩=w.cell? ⟨b,o,none⟩:=same_laterC _ w x (b,o) (by simp)
def hourOf (r:Room):Int:=(r.rs.length:Int)-1
abbrev evNom (x:Event):Nomination:=⟨x.a,x.b,x.c,x.d⟩
abbrev evRead (x:Event):Reading:=⟨x.a,x.b⟩
def lastXs (r:Room):List Reading:=((r.rs[r.rs.length-1]?).map RS.xs).getD []
def appB (n1:Int) (r:Room) (x:Event):Bool:=
 if x.kind=1 then (accR n1 r.ns r.ps r.xs r.L (evNom x)).2==0&&decide (hourOf r≤x.b)
 else if x.kind=2 then (x.c==0&&x.d==0)&&readsB n1 (lastXs r++[evRead x])
 else (((x.a==hourOf r&&x.b==0)&&x.c==0)&&x.d==0)&&decide (r.rs.length<48)
def appR (r:Room) (x:Event):Room:=
 if x.kind=1 then {r with L:=r.L++[evNom x]}
 else if x.kind=2 then {r with rs:=r.rs.set (r.rs.length-1) ⟨none,0,0,lastXs r++[evRead x]⟩}
 else {r with rs:=r.rs++[⟨none,0,0,[]⟩]}
def RetAp (nn:Int) (r:Room) (x:Event) (w:World) (e:Ending) (w':World):Prop:=
 ∃(A1 A2 A3 A4 A5:Option Addr) (n1 c1 n2 c2 n3 c3 n4 c4 n5 c5:Nat) (r':Room),e= .returned (.tuple #[.agg #[.slice A1 n1 c1,.slice A2 n2 c2,.slice A3 n3 c3,.slice A4 n4 c4,.slice A5 n5 c5],.bool (appB nn r x)])∧(appB nn r x=true→ROwn w' w.heap.size w'.heap.size A1 A2 A3 A4 A5 n1 c1 n2 c2 n3 c3 n4 c4 n5 c5 r'∧r'.Like (appR r x))∧Ext w w'
structure EvIn (w:World) (b:Nat) (x:Event):Prop where
 lt:b<w.heap.size
 y0:w.cell? ⟨b,0,none⟩=some (.int .i64 x.kind)
 y1:w.cell? ⟨b,1,none⟩=some (.int .i64 x.a)
 y2:w.cell? ⟨b,2,none⟩=some (.int .i64 x.b)
 y3:w.cell? ⟨b,3,none⟩=some (.int .i64 x.c)
 y4:w.cell? ⟨b,4,none⟩=some (.int .i64 x.d)
theorem EvIn.ext {w w':World} {b:Nat} {x:Event} (h:EvIn w b x) (hx:Ext w w'):EvIn w' b x:=
 ⟨Nat.lt_of_lt_of_le h.lt hx.size,(hx.cell _ _ h.lt).trans h.y0,(hx.cell _ _ h.lt).trans h.y1,(hx.cell _ _ h.lt).trans h.y2,(hx.cell _ _ h.lt).trans h.y3,(hx.cell _ _ h.lt).trans h.y4⟩
theorem EvIn.new (w:World) (x:Event) (t:TypeId):EvIn (w.alloc (.cells #[.int .i64 x.kind,.int .i64 x.a,.int .i64 x.b,.int .i64 x.c,.int .i64 x.d] t)) w.heap.size x:=by
 have hR:=Row.new w t [.int .i64 x.kind,.int .i64 x.a,.int .i64 x.b,.int .i64 x.c,.int .i64 x.d]
 exact ⟨by simp,hR.cell 0,hR.cell 1,hR.cell 2,hR.cell 3,hR.cell 4⟩
theorem ROwn.of {w:World} {lo:Nat} {A1 A2 A3 A4 A5:Option Addr} {n1 c1 n2 c2 n3 c3 n4 c4 n5 c5:Nat} {r:Room} (o1:OwnA w 147 Node.cells A1 n1 c1 r.ns) (o2:OwnA w 149 Pipe.cells A2 n2 c2 r.ps) (o3:OwnA w 98 Contract.cells A3 n3 c3 r.xs) (o4:OwnA w 79 Nomination.cells A4 n4 c4 r.L) (o5:OwnA w 81 RS.cells A5 n5 c5 r.rs) (o6:∀q∈r.rs,OwnA w 84 Reading.cells q.A q.n q.c q.xs)
  (l1:∀b,blkOf A1 n1=some b→lo≤b) (l2:∀b,blkOf A2 n2=some b→lo≤b) (l3:∀b,blkOf A3 n3=some b→lo≤b) (l4:∀b,blkOf A4 n4=some b→lo≤b) (l5:∀b,blkOf A5 n5=some b→lo≤b) (l6:∀q∈r.rs,∀b,blkOf q.A q.n=some b→lo≤b)
  (sep:SepL (r.rs.map fun q=>blkOf q.A q.n)):ROwn w lo w.heap.size A1 A2 A3 A4 A5 n1 c1 n2 c2 n3 c3 n4 c4 n5 c5 r:=by
 refine ⟨o1,o2,o3,o4,o5,o6,?_,sep,?_,?_,?_⟩
 ·exact sepP (o1.tag_ne o2 (by decide)) (o1.tag_ne o3 (by decide)) (o1.tag_ne o4 (by decide)) (o1.tag_ne o5 (by decide)) (o2.tag_ne o3 (by decide)) (o2.tag_ne o4 (by decide)) (o2.tag_ne o5 (by decide)) (o3.tag_ne o4 (by decide)) (o3.tag_ne o5 (by decide)) (o4.tag_ne o5 (by decide))
 ·rintro b hb ⟨q,hq,hqb⟩
  simp only [List.mem_cons,List.not_mem_nil,or_false] at hb
  rcases hb with hb | hb | hb | hb | hb
  ·exact o1.tag_ne (o6 q hq) (by decide) b hb.symm hqb
  ·exact o2.tag_ne (o6 q hq) (by decide) b hb.symm hqb
  ·exact o3.tag_ne (o6 q hq) (by decide) b hb.symm hqb
  ·exact o4.tag_ne (o6 q hq) (by decide) b hb.symm hqb
  ·exact o5.tag_ne (o6 q hq) (by decide) b hb.symm hqb
 ·intro b hb
  simp only [List.mem_cons,List.not_mem_nil,or_false] at hb
  rcases hb with hb | hb | hb | hb | hb
  ·exact ⟨l1 b hb.symm,o1.lt hb.symm⟩
  ·exact ⟨l2 b hb.symm,o2.lt hb.symm⟩
  ·exact ⟨l3 b hb.symm,o3.lt hb.symm⟩
  ·exact ⟨l4 b hb.symm,o4.lt hb.symm⟩
  ·exact ⟨l5 b hb.symm,o5.lt hb.symm⟩
 ·rintro b ⟨q,hq,hqb⟩
  exact ⟨l6 q hq b hqb,(o6 q hq).lt hqb⟩
structure RoomGood (n1 n2 n3 n4 n5:Nat) (r:Room):Prop where
 m1:n1≤24
 m2:n2≤40
 m3:n3≤32
 m4:n4≤200
 a5:1≤n5
 m5:n5≤48
 nm:∀x∈r.ns,x.name.size≤1048576
 net:netB r.ns r.ps=true
theorem roomGood {w:World} (A1 A2 A3 A4 A5:Option Addr) (n1 c1 n2 c2 n3 c3 n4 c4 n5 c5:Nat) {r:Room} (hat:RoomAt w A1 A2 A3 A4 A5 n1 c1 n2 c2 n3 c3 n4 c4 n5 c5 r) (h:roomB n1 r=true):RoomGood n1 n2 n3 n4 n5 r:=by
 have hn:=h
 simp only [roomB,nomsOk,netB,bookB,nomsB,Bool.and_eq_true,decide_eq_true_eq,inB_true] at hn
 obtain ⟨⟨⟨⟨⟨⟨⟨⟨_,h1⟩,h2⟩,h3⟩,_⟩,h4,_⟩,h5,_⟩,h6,h7⟩,_⟩:=hn
 have hnet:netB r.ns r.ps=true:=by simp only [roomB,Bool.and_eq_true] at h; exact noms_net h.1.1
 refine ⟨by rw [hat.s1.len]; exact h1,by rw [hat.s2.len]; exact h2,by rw [hat.s3.len]; exact h4,by rw [hat.s4.len]; exact h5,by have:=hat.s5.len; omega,by have:=hat.s5.len; omega,fun x hx=> ?_,hnet⟩
 obtain ⟨j,hj,rfl⟩:=List.mem_iff_getElem.1 hx
 have hh:=h3
 rw [List.all_eq_true] at hh
 have h8:=hh j (by simpa using hj)
 unfold nodeOkB at h8
 rw [List.getElem?_eq_getElem hj] at h8
 simp only [nodeB,nameB,Bool.and_eq_true,decide_eq_true_eq] at h8
 obtain ⟨⟨⟨⟨⟨⟨_,h9⟩,_⟩,_⟩,_⟩,_⟩,_⟩:=h8
 omega
theorem LRoom.ext {w w':World} {lo hi:Nat} {A1 A2 A3 A4 A5:Option Addr} {n1 c1 n2 c2 n3 c3 n4 c4 n5 c5:Nat} {r:Room} (h:LRoom w lo hi A1 A2 A3 A4 A5 n1 c1 n2 c2 n3 c3 n4 c4 n5 c5 r) (hx:Ext w w'):LRoom w' lo hi A1 A2 A3 A4 A5 n1 c1 n2 c2 n3 c3 n4 c4 n5 c5 r:=⟨h.own.ext hx,h.r5.ext hx,fun q hq=>(h.r6 q hq).ext hx,h.sep2⟩
theorem LRoom.lo5 {w:World} {lo hi:Nat} {A1 A2 A3 A4 A5:Option Addr} {n1 c1 n2 c2 n3 c3 n4 c4 n5 c5:Nat} {r:Room} (h:ROwn w lo hi A1 A2 A3 A4 A5 n1 c1 n2 c2 n3 c3 n4 c4 n5 c5 r):(∀b,blkOf A1 n1=some b→lo≤b)∧(∀b,blkOf A2 n2=some b→lo≤b)∧(∀b,blkOf A3 n3=some b→lo≤b)∧(∀b,blkOf A4 n4=some b→lo≤b)∧(∀b,blkOf A5 n5=some b→lo≤b)∧∀q∈r.rs,∀b,blkOf q.A q.n=some b→lo≤b:=
 ⟨fun b hb=>(h.rf b (by simp [hb])).1,fun b hb=>(h.rf b (by simp [hb])).1,fun b hb=>(h.rf b (by simp [hb])).1,fun b hb=>(h.rf b (by simp [hb])).1,fun b hb=>(h.rf b (by simp [hb])).1,fun q hq b hb=>(h.rq b ⟨q,hq,hb⟩).1⟩
theorem Turn.set1 {S:Nat→Prop} {w w':World} (h:Turn S w w') {p:Addr} (hp:S p.block) (u:Value):Turn S w (w'.setCell p u):=
 h.trans ((turn_set w' p u).mono (fun _ hb=>by subst hb; exact hp))
theorem Turn.drewT {S:Nat→Prop} {w w':World} (h:Turn S w w'):Turn S w w'.drew:=h.trans (Turn.of_ext (Ext.refl _).drew)
theorem Turn.allocT {S:Nat→Prop} {w w':World} (h:Turn S w w') (o:Obj):Turn S w (w'.alloc o):=h.trans (Turn.of_ext (Ext.alloc _ _))
theorem SameC.five {cs:List (Nat×Nat)} {a b:World} {g:Nat} (h:SameC cs a b) (hg:∀q∈cs,q.1≠g) (u0 u1 u2 u3 u4:Value):
  SameC cs a (((((b.setCell ⟨g,0,none⟩ u0).setCell ⟨g,1,none⟩ u1).setCell ⟨g,2,none⟩ u2).setCell ⟨g,3,none⟩ u3).setCell ⟨g,4,none⟩ u4):=
 ((((h.setCell (fun q hq=> .inl (hg q hq)) u0).setCell (fun q hq=> .inl (hg q hq)) u1).setCell (fun q hq=> .inl (hg q hq)) u2).setCell (fun q hq=> .inl (hg q hq)) u3).setCell (fun q hq=> .inl (hg q hq)) u4
theorem Turn.five {S:Nat→Prop} {a b:World} {g:Nat} (h:Turn S a b) (hg:S g) (u0 u1 u2 u3 u4:Value):
  Turn S a (((((b.setCell ⟨g,0,none⟩ u0).setCell ⟨g,1,none⟩ u1).setCell ⟨g,2,none⟩ u2).setCell ⟨g,3,none⟩ u3).setCell ⟨g,4,none⟩ u4):=
 ((((h.set1 (p:=⟨g,0,none⟩) hg u0).set1 (p:=⟨g,1,none⟩) hg u1).set1 (p:=⟨g,2,none⟩) hg u2).set1 (p:=⟨g,3,none⟩) hg u3).set1 (p:=⟨g,4,none⟩) hg u4
theorem accR_zero {n1:Int} {ns:List Node} {ps:List Pipe} {xs:List Contract} {L:List Nomination} {x:Nomination} (h:(accR n1 ns ps xs L x).2=0):(accR n1 ns ps xs L x).1=L++[x]:=by
 unfold accR at h ⊢
 split
 ·rename_i h1; rw [if_pos h1] at h; exact absurd h h1
 ·rename_i h1
  rw [if_neg h1] at h
  split
  ·rename_i h2; rw [if_pos h2] at h; simp at h
  ·rename_i h2
   rw [if_neg h2] at h
   split
   ·rename_i h3; rw [if_pos h3] at h; simp at h
   ·rename_i h3
    rw [if_neg h3] at h
    split
    ·rename_i h4; rw [if_pos h4] at h; simp at h
    ·rfl
theorem blk_own {A:Option Addr} {n c b:Nat} (h:blkOf A n=some b):(Value.slice A n c).ownBlock=some b:=by
 unfold blkOf at h
 split at h
 ·cases h
 ·cases A with
  | none=>cases h
  | some a=>simp at h; simp [Value.ownBlock,h]
theorem sep_set {rs:List RS} {m N:Nat} {q new:RS} (hq:rs[m]? =some q) (h1:SepL (rs.map fun q=>blkOf q.A q.n)) (h2:SepL (rs.map fun q=>Value.ownBlock (.slice q.A q.n q.c))) (hnew:∀b,blkOf new.A new.n=some b→(Value.slice q.A q.n q.c).ownBlock=some b∨N≤b) (hlt:∀p∈rs,∀b,blkOf p.A p.n=some b→b<N):SepL ((rs.set m new).map fun q=>blkOf q.A q.n):=by
 have hm:=(List.getElem?_eq_some_iff.1 hq).1
 have key:∀(j b:Nat),m≠j→blkOf new.A new.n=some b→((rs.set m new).map fun q=>blkOf q.A q.n)[j]? ≠some (some b):=by
  intro j b hj hb he
  rw [List.getElem?_map,List.getElem?_set,if_neg hj] at he
  cases hp:rs[j]? with
  | none=>rw [hp] at he; cases he
  | some p=>
   rw [hp] at he
   injection he with he
   rcases hnew b hb with h | h
   ·exact h2 m j b hj (by rw [List.getElem?_map,hq,Option.map_some,h]) (by rw [List.getElem?_map,hp,Option.map_some,blk_own he])
   ·have:=hlt p (List.mem_of_getElem? hp) b he
    omega
 have at_m:((rs.set m new).map fun q=>blkOf q.A q.n)[m]? =some (blkOf new.A new.n):=by rw [List.getElem?_map,List.getElem?_set,if_pos rfl,if_pos hm]; rfl
 intro i j b hij hi hj
 by_cases e1:m=i
 ·subst e1
  rw [at_m] at hi
  injection hi with hi
  exact key j b hij hi hj
 ·by_cases e2:m=j
  ·subst e2
   rw [at_m] at hj
   injection hj with hj
   exact key i b e1 hj hi
  ·rw [List.getElem?_map,List.getElem?_set,if_neg e1] at hi
   rw [List.getElem?_map,List.getElem?_set,if_neg e2] at hj
   exact h1 i j b hij (by rw [List.getElem?_map]; exact hi) (by rw [List.getElem?_map]; exact hj)
theorem EvIn.turn {S:Nat→Prop} {w w':World} {b:Nat} {x:Event} (h:EvIn w b x) (k:Turn S w w') (hs:¬S b):EvIn w' b x:=
 ⟨Nat.lt_of_lt_of_le h.lt k.size,(k.cell h.lt hs).trans h.y0,(k.cell h.lt hs).trans h.y1,(k.cell h.lt hs).trans h.y2,(k.cell h.lt hs).trans h.y3,(k.cell h.lt hs).trans h.y4⟩
theorem rs_flat:∀(rs:List RS),rs.flatMap RS.cells=rs.map (fun q=>Value.slice q.A q.n q.c)
 | []=>rfl
 | q::rs=>by rw [List.flatMap_cons,rs_flat rs]; rfl
theorem Row.rs_set {w:World} {g m:Nat} {t:TypeId} {rs:List RS} {rest:List Value} (h:Row w g t (rs.flatMap RS.cells++rest)) (hm:m<rs.length) (new:RS):Row (w.setCell ⟨g,m,none⟩ (.slice new.A new.n new.c)) g t ((rs.set m new).flatMap RS.cells++rest):=by
 have h2:=h.set_ m (.slice new.A new.n new.c)
 rw [rs_flat] at h2
 rw [rs_flat,List.map_set]
 rwa [List.set_append_left _ _ (by simpa using hm)] at h2
theorem Row.rs_at {w:World} {g m:Nat} {t:TypeId} {rs:List RS} {rest:List Value} {new:RS} (h:Row w g t ((rs.set m new).flatMap RS.cells++rest)) (hm:m<rs.length):w.cell? ⟨g,m,none⟩=some (.slice new.A new.n new.c):=by
 rw [h.cell m,rs_flat,List.getElem?_append_left (by simpa using hm),List.getElem?_map,List.getElem?_set,if_pos rfl,if_pos hm]
 rfl
end Go.Proofs.YtinindjjapblcaaGreatDoor
