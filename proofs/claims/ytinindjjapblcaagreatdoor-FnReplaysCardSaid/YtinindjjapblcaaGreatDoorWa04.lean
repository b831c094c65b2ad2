/-
  Networks: validity, of the reference: IsNetwork.
-/
import Derived.Test.YtinindjjapblcaaGreatDoorWa03
import Derived.Test.YtinindjjapblcaaGreatDoorWa00
namespace Go.Proofs.YtinindjjapblcaaGreatDoor
open Go.RowKit
theorem has_true {ns:List Node} {k m:Nat} {s:ByteArray} {q:Node} (hm:m<k) (hq:ns[m]? =some q) (h:sameN s q.name=true):hasN (ns.take k) s=true:=by
 rw [hasN,List.any_eq_true]
 refine ⟨q,?_,by rw [sameN_comm]; exact h⟩
 exact List.mem_of_getElem? (i:=m) (by rw [List.getElem?_take,if_pos hm]; exact hq)
theorem has_false {ns:List Node} {k:Nat} {s:ByteArray} (h:∀(j:Nat) (q:Node),j<k→ns[j]? =some q→sameN s q.name=false):hasN (ns.take k) s=false:=by
 rw [hasN,List.any_eq_false]
 intro q hq
 obtain ⟨j,hj,hje⟩:=List.mem_iff_getElem.1 hq
 have h1:(ns.take k)[j]? =some q:=by rw [List.getElem?_eq_getElem hj,hje]
 rw [List.getElem?_take] at h1
 split at h1
 ·rename_i hjk
  rw [sameN_comm,h j q hjk h1]; simp
 ·cases h1
set_option maxHeartbeats 4000000 in
theorem c_specIsNetwork (A1 A2:Option Addr) (n1 c1 n2 c2:Nat) (ns:List Node) (ps:List Pipe) (w:World) (hs1:SliceOf w 3 Node.cells A1 n1 c1 ns) (hs2:SliceOf w 5 Pipe.cells A2 n2 c2 ps) (hnm:∀x∈ns,x.name.size≤1048576):
  Calls Tryz.prog 160 #[.agg #[.slice A1 n1 c1,.slice A2 n2 c2]] w (Ret (.bool (netB ns ps)) w):=by
 have hm1:=hs1.max
 have hp1:=hs1.cap
 have hm2:=hs2.max
 have hp2:=hs2.cap
 have HL1:=hide hs1.len
 have HL2:=hide hs2.len
 have HNM:=hide hnm
 clear hnm
 by_cases hN0:n1<1
 ·have HR:=hide (net_len1 (ps:=ps) HL1.out (inB_false.2 (by omega)))
  go_enter Tryz.func160,Tryz.ntmps160
  go_wp2_with fail
  go_ret
  exact Ret.bool HR.out (Ext.alloc _ _)
 by_cases hN1:24<n1
 ·have HR:=hide (net_len1 (ps:=ps) HL1.out (inB_false.2 (by omega)))
  go_enter Tryz.func160,Tryz.ntmps160
  go_wp2_with fail
  go_ret
  exact Ret.bool HR.out (Ext.alloc _ _)
 have HN:=hide (inB_true.2 ⟨show (1:Int)≤(n1:Int) by omega,show (n1:Int)≤24 by omega⟩)
 by_cases hM:40<n2
 ·have HR:=hide (net_len2 (ns:=ns) (ps:=ps) (by rw [←HL2.out]; exact hM))
  go_enter Tryz.func160,Tryz.ntmps160
  go_wp2_with fail
  go_ret
  exact Ret.bool HR.out (Ext.alloc _ _)
 go_enter Tryz.func160,Tryz.ntmps160
 go_wp2_with fail
 go_loopw [3] (fun i wr=>∃k:Nat,k≤n1∧i= .int .i64 k∧Hid (∀j,j<k→nodeOkB ns j=true)∧NetBox w A1 A2 n1 c1 n2 c2 wr) (fun i _=>n1-(intOf i).toNat)
 case atStart=>exact ⟨0,Nat.zero_le _,rfl,hide (fun j hj=>absurd hj (by omega)),⟨Ext.refl _⟩⟩
 case round=>
  obtain ⟨k,hk,rfl,HK,hX⟩:=hrel
  have hx:=hX.ext.box
  obtain ⟨x0,x1,hz⟩:=hX.cell
  by_cases hlt:k<n1
  ·obtain ⟨bb,off,p,rfl,hbb,hxk,hc⟩:=(hs1.ext hx).get hlt
   have hc0:=hc 0 _ rfl
   have hc1:=hc 1 _ rfl
   have hc2:=hc 2 _ rfl
   simp only [Nat.add_zero] at hc0
   have hpn:=HNM.out p (List.mem_of_getElem? hxk)
   have HX:=hide (nodeOk_at hxk)
   have HXK:=hide hxk
   clear hxk hc
   cases hp:nodeB p
   ·rw [hp] at HX
    have HR:=hide (net_node (ps:=ps) (ns:=ns) (k:=k) (by rw [←HL1.out]; exact hlt) HX.out)
    go_wp2_with fail
    refine (c_specIsNode p _ hpn).mono ?_
    rw [hp]
    rintro e w1 ⟨rfl,hx1⟩
    go_wp2_with fail
    go_ret
    exact Ret.bool HR.out (hx.trans hx1)
   ·rw [hp] at HX
    go_wp2_with fail
    refine (c_specIsNode p _ hpn).mono ?_
    rw [hp]
    rintro e w1 ⟨rfl,hx1⟩
    have hX1:NetBox w (some ⟨bb,off,none⟩) A2 n1 c1 n2 c2 w1:=⟨hX.ext.trans hx1⟩
    clear hp x0 x1 hz hx hX hx1 hc0 hc1 hc2 hbb
    go_wp2_with fail
    go_loopw [4] (fun i wr=>∃m:Nat,m≤k∧i= .int .i64 m∧Hid (∀(j:Nat) (q:Node),j<m→ns[j]? =some q→sameN p.name q.name=false)∧NetBox w (some ⟨bb,off,none⟩) A2 n1 c1 n2 c2 wr) (fun i _=>k-(intOf i).toNat)
    case atStart=>exact ⟨0,Nat.zero_le _,rfl,hide (fun j q hj=>absurd hj (by omega)),hX1⟩
    case round=>
     obtain ⟨m,hm,rfl,HM,hX⟩:=hrel
     clear hX1
     have hx:=hX.ext.box
     obtain ⟨x0,x1,hz⟩:=hX.cell
     by_cases hlt2:m<k
     ·have hmn:m<n1:=by omega
      obtain ⟨b1,off1,p',hA1,hbb,hxk',hc⟩:=(hs1.ext hx).get hlt
      simp only [Option.some.injEq,Addr.mk.injEq] at hA1
      obtain ⟨rfl,rfl,-⟩:=hA1
      obtain rfl:p=p':=by rw [HXK.out] at hxk'; injection hxk'
      have hc0:=hc 0 _ rfl
      obtain ⟨q,hqm,hd⟩:=(hs1.ext hx).at_ hmn
      have hd0:=hd 0 _ rfl
      simp only [Nat.add_zero] at hc0 hd0
      have HQ:=hide hqm
      clear hc hd hqm hxk'
      cases hsm:(p.name.toList==q.name.toList)
      ·go_wp2_with fail
       refine wp_region_later (by kernel_rfl) (by kernel_rfl) ?_
       repeat (go_big_quiet_step (fail))
       refine wpQuiet_nil ?_
       intro w2 hx2
       go_wp2_with fail
       go_roundw
       case rel=>
        refine ⟨m+1,by omega,by go_num,hide fun j q' hj hq'=> ?_,⟨hX.ext.trans hx2⟩⟩
        by_cases e:j=m
        ·subst e; rw [HQ.out] at hq'; injection hq' with hq'; subst hq'; exact hsm
        ·exact HM.out j q' (by omega) hq'
       case measure=>simp [intOf]; omega
      ·have hh:=has_true hlt2 HQ.out hsm
       rw [hh] at HX
       have HR:=hide (net_node (ps:=ps) (ns:=ns) (k:=k) (by rw [←HL1.out]; exact hlt) HX.out)
       clear hh
       go_wp2_with fail
       refine wp_region_later (by kernel_rfl) (by kernel_rfl) ?_
       repeat (go_big_quiet_step (fail))
       refine wpQuiet_nil ?_
       intro w2 hx2
       go_wp2_with fail
       go_ret
       exact Ret.bool HR.out (hx.trans hx2)
     ·have hh:=has_false (k:=k) (fun j q hj hq=>HM.out j q (by omega) hq)
      rw [hh] at HX
      have HO:=hide (all_upto HK.out HX.out)
      clear hh
      go_wp2_with fail
      go_roundw
      case rel=>exact ⟨k+1,by omega,by go_num,HO,hX⟩
      case measure=>simp [intOf]; omega
  ·have HALL:Hid (∀j,j<ns.length→nodeOkB ns j=true):=hide (fun j hj=>HK.out j (by rw [←HL1.out] at hj; omega))
   have hX0:=hX
   clear hX hx HK
   go_wp2_with fail
   clear x0 x1 hz
   go_loopw [5] (fun i wr=>∃k:Nat,k≤n2∧i= .int .i64 k∧Hid (∀(j:Nat) (p:Pipe),j<k→ps[j]? =some p→pipeB ns.length p=true)∧NetBox w A1 A2 n1 c1 n2 c2 wr) (fun i _=>n2-(intOf i).toNat)
   case atStart=>exact ⟨0,Nat.zero_le _,rfl,hide (fun j p hj=>absurd hj (by omega)),hX0⟩
   case round=>
    obtain ⟨k,hk,rfl,HK,hX⟩:=hrel
    clear hX0
    have hx:=hX.ext.box
    obtain ⟨x0,x1,hz⟩:=hX.cell
    by_cases hlt:k<n2
    ·obtain ⟨bb,off,p,rfl,hbb,hxk,hc⟩:=(hs2.ext hx).get hlt
     have hc0:=hc 0 _ rfl
     have hc1:=hc 1 _ rfl
     have hc2:=hc 2 _ rfl
     have hc3:=hc 3 _ rfl
     have hc4:=hc 4 _ rfl
     clear hc
     simp only [Nat.add_zero] at hc0
     have HX:=hide hxk
     clear hxk
     have HPB:=hide (show pipeB (n1:Int) p=pipeB ns.length p by rw [HL1.out])
     go_wp2_with fail
     refine wp_region_ph [([0,1,2,3,4,5,6,7],8)] [9] (by kernel_rfl) (by kernel_rfl) (by intro c a w d v h; cases d <;> exact h) ?_
     simp only [wpPh,pickL,nthO]
     repeat (go_big_quiet_step (fail))
     refine wpQuiet_nil ?_
     go_wp2_with fail
     refine (c_l02Pipe p n1 _ (by omega)).mono ?_
     rw [HPB.out]
     cases hpb:pipeB ns.length p
     ·have HR:=hide (net_pipe (ns:=ns) (List.mem_of_getElem? HX.out) hpb)
      rintro e w1 ⟨rfl,hx1⟩
      go_wp2_with fail
      refine ⟨hx1,?_⟩
      repeat (go_big_quiet_step (fail))
      refine wpQuiet_nil ?_
      go_wp2_with fail
      go_ret
      exact Ret.bool HR.out (hx.drew.trans hx1)
     ·rintro e w1 ⟨rfl,hx1⟩
      go_wp2_with fail
      refine ⟨hx1,?_⟩
      repeat (go_big_quiet_step (fail))
      refine wpQuiet_nil ?_
      go_wp2_with fail
      go_roundw
      case rel=>
       refine ⟨k+1,by omega,by go_num,hide fun j q hj hq=> ?_,⟨hX.ext.trans ((Ext.refl _).drew.trans hx1)⟩⟩
       by_cases e:j=k
       ·subst e; rw [HX.out] at hq; injection hq with hq; subst hq; exact hpb
       ·exact HK.out j q (by omega) hq
      case measure=>simp [intOf]; omega
    ·have HR:=hide (net_true (by rw [←HL1.out]; exact HN.out) (by rw [←HL2.out]; omega) HALL.out (fun j p hp=>HK.out j p (by have:=(List.getElem?_eq_some_iff.1 hp).1; rw [←HL2.out] at this; omega) hp))
     go_wp2_with fail
     go_ret
     exact Ret.bool HR.out hx
end Go.Proofs.YtinindjjapblcaaGreatDoor
namespace Go.Proofs.YtinindjjapblcaaGreatDoor
open Go.RowKit
structure Contract where
 shipper:Int
 entry:Int
 exit:Int
 amount:Int
 cls:Int
 start:Int
 stop:Int
 price:Int
def Contract.cells (x:Contract):List Value:=[.int .i64 x.shipper,.int .i64 x.entry,.int .i64 x.exit,.int .i64 x.amount,.int .i64 x.cls,.int .i64 x.start,.int .i64 x.stop,.int .i64 x.price]
theorem contract_len (x:Contract):x.cells.length=8:=rfl
theorem contract_info:(Tryz.prog.info? 98).map (fun i=>(i.zero,i.size,i.bytes))=some (some (.agg #[.int .i64 0,.int .i64 0,.int .i64 0,.int .i64 0,.int .i64 0,.int .i64 0,.int .i64 0,.int .i64 0]),8,64):=by kernel_rfl
theorem c_toContract (x:Contract) (w:World):
  Calls Tryz.prog 69 #[.agg #[.int .i64 x.shipper,.int .i64 x.entry,.int .i64 x.exit,.int .i64 x.amount,.int .i64 x.cls,.int .i64 x.start,.int .i64 x.stop,.int .i64 x.price]] w (Ret (.agg #[.int .i64 x.shipper,.int .i64 x.entry,.int .i64 x.exit,.int .i64 x.amount,.int .i64 x.cls,.int .i64 x.start,.int .i64 x.stop,.int .i64 x.price]) w):=by
 go_enter Tryz.func69,Tryz.ntmps69
 go_wp2
 exact bodyPost_ret (v:= .agg #[.int .i64 x.shipper,.int .i64 x.entry,.int .i64 x.exit,.int .i64 x.amount,.int .i64 x.cls,.int .i64 x.start,.int .i64 x.stop,.int .i64 x.price]) (by simp [results,Tryz.results69,go_sem]) rfl ⟨rfl,(((Ext.refl _).and_alloc _).and_alloc _).and_alloc _⟩
theorem c_eqContract (x:Contract) (w:World):
  Calls Tryz.prog 74 #[.agg #[.int .i64 x.shipper,.int .i64 x.entry,.int .i64 x.exit,.int .i64 x.amount,.int .i64 x.cls,.int .i64 x.start,.int .i64 x.stop,.int .i64 x.price],.agg #[.int .i64 x.shipper,.int .i64 x.entry,.int .i64 x.exit,.int .i64 x.amount,.int .i64 x.cls,.int .i64 x.start,.int .i64 x.stop,.int .i64 x.price]] w (Ret (.bool true) w):=by
 go_enter Tryz.func74,Tryz.ntmps74
 go_wp2
 go_ret
 exact Ret.bool rfl (((Ext.refl _).and_alloc _).and_alloc _)
theorem c_szContractS (A:Option Addr) (n c:Nat) (left:Int) (w:World) (hn:n≤c) (hc:c≤9223372036854775807) (h0:0≤left) (h1:left≤1048576):
  Calls Tryz.prog 23 #[.slice A n c,.int .i64 left] w fun e w'=>e= .returned (.int .i64 (if left<n then -1 else left-n))∧w=w':=by
 go_enter Tryz.func23,Tryz.ntmps23
 go_wp2
 all_goals
  go_ret
  simp <;> omega
set_option maxHeartbeats 1000000 in
theorem c_toContractS (A:Option Addr) (n c:Nat) (ts:List Contract) (w:World) (hs:SliceOf w 8 Contract.cells A n c ts) (hn:n≤1048576):
  Calls Tryz.prog 25 #[.slice A n c] w (NewRow 98 Contract.cells ts w):=by
 have hmk:=fun W=>run_make_flat (P:=Tryz.prog) 28 98 _ _ 8 64 Tryz.underlying28 contract_info (f:=Contract.cells) ⟨0,0,0,0,0,0,0,0⟩ rfl rfl rfl (by omega) n (by omega) (by omega) W
 have hR0:=Row.new w 98 ((List.replicate n (⟨0,0,0,0,0,0,0,0⟩:Contract)).flatMap Contract.cells)
 go_enter Tryz.func25,Tryz.ntmps25
 go_wp2_with fail
 go_loopw [4] (fun i wr=>∃(k:Nat) (L:List Contract),k≤n∧i= .int .i64 k∧L.length=n∧RowOf wr w.heap.size 98 Contract.cells L∧Hid (∀j,j<k→L[j]? =ts[j]?)∧Ext w wr) (fun i _=>n-(intOf i).toNat)
 case atStart=>exact ⟨0,_,Nat.zero_le _,rfl,List.length_replicate,hR0,hide (fun j hj=>absurd hj (by omega)),Ext.alloc _ _⟩
 case round=>
  obtain ⟨k,L,hk,rfl,hL,hrow,HK,hx⟩:=hrel
  clear hR0 hmk
  have hgs:=hrow.lt
  by_cases hlt:k<n
  ·obtain ⟨b,off,x,rfl,hb,hxk,hc⟩:=(hs.ext hx).get hlt
   have hc0:=hc 0 _ rfl
   have hc1:=hc 1 _ rfl
   have hc2:=hc 2 _ rfl
   have hc3:=hc 3 _ rfl
   have hc4:=hc 4 _ rfl
   have hc5:=hc 5 _ rfl
   have hc6:=hc 6 _ rfl
   have hc7:=hc 7 _ rfl
   clear hc
   simp only [Nat.add_zero] at hc0
   have Hx:=hide hxk
   have HL:=hide hL
   clear hxk hL
   go_wp2_with (go_at_call 69; refine (c_toContract x _).mono ?_; rintro e w1 ⟨rfl,hx1⟩; have hrow1:=hrow.ext hx1; obtain ⟨v0,hv0⟩:=hrow1.there contract_len (i:=k) (by rw [HL.out]; exact hlt) (j:=0) (by omega); have hf0:=hrow1.frozen (k*8); obtain ⟨v1,hv1⟩:=hrow1.there contract_len (i:=k) (by rw [HL.out]; exact hlt) (j:=1) (by omega); have hf1:=hrow1.frozen (k*8+1); obtain ⟨v2,hv2⟩:=hrow1.there contract_len (i:=k) (by rw [HL.out]; exact hlt) (j:=2) (by omega); have hf2:=hrow1.frozen (k*8+2); obtain ⟨v3,hv3⟩:=hrow1.there contract_len (i:=k) (by rw [HL.out]; exact hlt) (j:=3) (by omega); have hf3:=hrow1.frozen (k*8+3); obtain ⟨v4,hv4⟩:=hrow1.there contract_len (i:=k) (by rw [HL.out]; exact hlt) (j:=4) (by omega); have hf4:=hrow1.frozen (k*8+4); obtain ⟨v5,hv5⟩:=hrow1.there contract_len (i:=k) (by rw [HL.out]; exact hlt) (j:=5) (by omega); have hf5:=hrow1.frozen (k*8+5); obtain ⟨v6,hv6⟩:=hrow1.there contract_len (i:=k) (by rw [HL.out]; exact hlt) (j:=6) (by omega); have hf6:=hrow1.frozen (k*8+6); obtain ⟨v7,hv7⟩:=hrow1.there contract_len (i:=k) (by rw [HL.out]; exact hlt) (j:=7) (by omega); have hf7:=hrow1.frozen (k*8+7); rw [Nat.add_zero] at hv0)
   go_roundw
   case rel=>
    refine ⟨k+1,L.set k x,by omega,by go_num,by simpa using HL.out,hrow1.put contract_len (by rw [HL.out]; exact hlt) x,hide ?_,(hx.trans hx1).put (Nat.le_refl _) (k*8) x.cells⟩
    intro j hj
    rw [List.getElem?_set]
    by_cases e:k=j
    ·subst e; rw [if_pos rfl,if_pos (by rw [HL.out]; exact hlt),Hx.out]
    ·rw [if_neg e]; exact HK.out j (by omega)
   case measure=>simp [intOf]; omega
  ·go_wp2
   go_ret
   have hLts:L=ts:=by
    apply List.ext_getElem?
    intro j
    by_cases hj:j<n
    ·exact HK.out j (by omega)
    ·rw [List.getElem?_eq_none (by omega),List.getElem?_eq_none (by have:=hs.len; omega)]
   subst hLts
   refine ⟨w.heap.size,?_,Nat.le_refl _,hrow,hx⟩
   rw [hL]; rfl
set_option maxHeartbeats 1000000 in
theorem c_eqContractS (A A':Option Addr) (n c n' c':Nat) (ts:List Contract) (w:World) (hs:SliceOf w 8 Contract.cells A n c ts) (hs':SliceOf w 8 Contract.cells A' n' c' ts):
  Calls Tryz.prog 28 #[.slice A n c,.slice A' n' c'] w (Ret (.bool true) w):=by
 have hl:=hs.len
 obtain rfl:n=n':=by rw [hs.len,hs'.len]
 have hm:=hs.max
 have hcp:=hs.cap
 clear hl
 go_enter Tryz.func28,Tryz.ntmps28
 go_wp2_with fail
 go_loopw [5] (fun i wr=>∃(k:Nat),k≤n∧i= .int .i64 k∧Ext w wr) (fun i _=>n-(intOf i).toNat)
 case atStart=>exact ⟨0,Nat.zero_le _,rfl,Ext.refl _⟩
 case round=>
  obtain ⟨k,hk,rfl,hx⟩:=hrel
  by_cases hlt:k<n
  ·obtain ⟨b,off,x,rfl,hb,hxk,hc⟩:=(hs.ext hx).get hlt
   obtain ⟨b',off',x',rfl,hb',hxk',hc'⟩:=(hs'.ext hx).get hlt
   obtain rfl:x=x':=by rw [hxk] at hxk'; injection hxk'
   have hc0:=hc 0 _ rfl
   have hc1:=hc 1 _ rfl
   have hc2:=hc 2 _ rfl
   have hc3:=hc 3 _ rfl
   have hc4:=hc 4 _ rfl
   have hc5:=hc 5 _ rfl
   have hc6:=hc 6 _ rfl
   have hc7:=hc 7 _ rfl
   have hd0:=hc' 0 _ rfl
   have hd1:=hc' 1 _ rfl
   have hd2:=hc' 2 _ rfl
   have hd3:=hc' 3 _ rfl
   have hd4:=hc' 4 _ rfl
   have hd5:=hc' 5 _ rfl
   have hd6:=hc' 6 _ rfl
   have hd7:=hc' 7 _ rfl
   clear hc hc' hxk hxk'
   simp only [Nat.add_zero] at hc0 hd0
   go_wp2_with fail
   refine wp_region_later (by kernel_rfl) (by kernel_rfl) ?_
   repeat (go_big_quiet_step ((go_at_call 74; exact quiet_later (c_eqContract x _))))
   refine wpQuiet_nil ?_
   intro w1 hx1
   go_wp2
   go_roundw
   case rel=>exact ⟨k+1,by omega,by go_num,hx.trans hx1⟩
   case measure=>simp [intOf]; omega
  ·go_wp2
   go_ret
   exact Ret.bool rfl hx
def markContract (a:Int) (n:Nat):List Contract:=(List.range n).map fun (i:Nat)=>⟨a+8*(i:Int),a+8*(i:Int)+1,a+8*(i:Int)+2,a+8*(i:Int)+3,a+8*(i:Int)+4,a+8*(i:Int)+5,a+8*(i:Int)+6,a+8*(i:Int)+7⟩
theorem markContract_at (a:Int) (n i:Nat) (h:i<n):(markContract a n)[i]? =some ⟨a+8*(i:Int),a+8*(i:Int)+1,a+8*(i:Int)+2,a+8*(i:Int)+3,a+8*(i:Int)+4,a+8*(i:Int)+5,a+8*(i:Int)+6,a+8*(i:Int)+7⟩:=by
 unfold markContract; rw [List.getElem?_map,List.getElem?_range h]; rfl
def MarkedContract (g:Nat) (A:Option Addr) (n:Nat) (a:Int) (w:World) (e:Ending) (w':World):Prop:=
 e= .returned (.int .i64 (a+8*n))∧OwnS w' g 98 Contract.cells A n (markContract a n)∧Only g w w'
set_option maxHeartbeats 1000000 in
theorem c_markContractS (g:Nat) (A:Option Addr) (n c:Nat) (ts:List Contract) (a:Int) (w:World) (hown0:OwnS w g 98 Contract.cells A n ts) (hn:n≤1000000000) (hcap:n≤c) (hmax:c≤9223372036854775807) (ha0:0≤a) (ha1:a≤1000000000000):
  Calls Tryz.prog 30 #[.slice A n c,.int .i64 a] w (MarkedContract g A n a w):=by
 go_enter Tryz.func30,Tryz.ntmps30
 go_wp2_with fail
 go_loopw [1,5] (fun q i wr=>∃(k:Nat) (K:Int) (L:List Contract),k≤n∧q= .int .i64 K∧i= .int .i64 k∧a+8*(k:Int)≤K∧K≤a+8*(k:Int)∧OwnS wr g 98 Contract.cells A n L∧Hid (∀j,j<k→L[j]? =(markContract a n)[j]?)∧Only g w wr) (fun _ i _=>n-(intOf i).toNat)
 case atStart=>exact ⟨0,a,ts,Nat.zero_le _,rfl,rfl,by omega,by omega,hown0,hide (fun j hj=>absurd hj (by omega)),Only.refl _ _⟩
 case round=>
  obtain ⟨k,K,L,hk,rfl,rfl,hK0,hK1,hown,HK,hx⟩:=hrel
  by_cases hlt:k<n
  ·have hn0:0<n:=by omega
   obtain ⟨rfl,_⟩:=hown.2 hn0
   obtain ⟨v0,hv0⟩:=hown.there contract_len (i:=k) hlt (j:=0) (by omega)
   have hf0:=hown.frozen hn0 (k*8)
   obtain ⟨v1,hv1⟩:=hown.there contract_len (i:=k) hlt (j:=1) (by omega)
   have hf1:=hown.frozen hn0 (k*8+1)
   obtain ⟨v2,hv2⟩:=hown.there contract_len (i:=k) hlt (j:=2) (by omega)
   have hf2:=hown.frozen hn0 (k*8+2)
   obtain ⟨v3,hv3⟩:=hown.there contract_len (i:=k) hlt (j:=3) (by omega)
   have hf3:=hown.frozen hn0 (k*8+3)
   obtain ⟨v4,hv4⟩:=hown.there contract_len (i:=k) hlt (j:=4) (by omega)
   have hf4:=hown.frozen hn0 (k*8+4)
   obtain ⟨v5,hv5⟩:=hown.there contract_len (i:=k) hlt (j:=5) (by omega)
   have hf5:=hown.frozen hn0 (k*8+5)
   obtain ⟨v6,hv6⟩:=hown.there contract_len (i:=k) hlt (j:=6) (by omega)
   have hf6:=hown.frozen hn0 (k*8+6)
   obtain ⟨v7,hv7⟩:=hown.there contract_len (i:=k) hlt (j:=7) (by omega)
   have hf7:=hown.frozen hn0 (k*8+7)
   rw [Nat.add_zero] at hv0
   have HL:=hide hown.1
   go_wp2_with fail
   go_roundw
   case rel=>
    refine ⟨k+1,_,L.set k ⟨K,K+1,K+1+1,K+1+1+1,K+1+1+1+1,K+1+1+1+1+1,K+1+1+1+1+1+1,K+1+1+1+1+1+1+1⟩,by omega,rfl,by go_num,by omega,by omega,hown.put contract_len hlt ⟨K,K+1,K+1+1,K+1+1+1,K+1+1+1+1,K+1+1+1+1+1,K+1+1+1+1+1+1,K+1+1+1+1+1+1+1⟩,hide ?_,hx.put (k*8) (Contract.cells ⟨K,K+1,K+1+1,K+1+1+1,K+1+1+1+1,K+1+1+1+1+1,K+1+1+1+1+1+1,K+1+1+1+1+1+1+1⟩)⟩
    intro j hj
    rw [List.getElem?_set]
    by_cases e:k=j
    ·subst e
     rw [if_pos rfl,if_pos (by rw [←HL.out]; exact hlt),markContract_at _ _ _ hlt]
     congr 2 <;> omega
    ·rw [if_neg e]; exact HK.out j (by omega)
   case measure=>simp [intOf]; omega
  ·go_wp2_with fail
   go_ret
   have hLts:L=markContract a n:=by
    apply List.ext_getElem?
    intro j
    by_cases hj:j<n
    ·exact HK.out j (by omega)
    ·rw [List.getElem?_eq_none (by have:=hown.1; omega),List.getElem?_eq_none (by simp [markContract]; omega)]
   subst hLts
   refine ⟨?_,hown,hx⟩
   obtain rfl:k=n:=by omega
   have:K=a+8*(k:Int):=by omega
   rw [←this]; rfl
set_option maxRecDepth 8000 in
set_option maxHeartbeats 1000000 in
theorem c_heldContractS (A:Option Addr) (n c:Nat) (a:Int) (w:World) (hs:SliceOf w 8 Contract.cells A n c (markContract a n)) (hn:n≤1000000000) (ha0:0≤a) (ha1:a≤1000000000000):
  Calls Tryz.prog 80 #[.slice A n c,.int .i64 a] w fun e w'=>e= .returned (.int .i64 (a+8*n))∧w=w':=by
 have hcap:=hs.cap
 have hmax:=hs.max
 go_enter Tryz.func80,Tryz.ntmps80
 go_wp2_with fail
 go_loop [1,5] (fun q i=>∃(k:Nat) (K:Int),k≤n∧q= .int .i64 K∧i= .int .i64 k∧a+8*(k:Int)≤K∧K≤a+8*(k:Int)) (fun _ i=>n-(intOf i).toNat)
 case atStart=>exact ⟨0,a,Nat.zero_le _,rfl,rfl,by omega,by omega⟩
 case round=>
  obtain ⟨k,K,hk,rfl,rfl,hK0,hK1⟩:=hrel
  by_cases hlt:k<n
  ·obtain ⟨b,off,x,rfl,hb,hxk,hc⟩:=hs.get hlt
   rw [markContract_at _ _ _ hlt] at hxk
   obtain rfl:(⟨K,K+1,K+1+1,K+1+1+1,K+1+1+1+1,K+1+1+1+1+1,K+1+1+1+1+1+1,K+1+1+1+1+1+1+1⟩:Contract)=x:=by
    injection hxk with hxk
    rw [←hxk]
    congr 1 <;> omega
   clear hxk
   have hc0:=hc 0 _ rfl
   have hc1:=hc 1 _ rfl
   have hc2:=hc 2 _ rfl
   have hc3:=hc 3 _ rfl
   have hc4:=hc 4 _ rfl
   have hc5:=hc 5 _ rfl
   have hc6:=hc 6 _ rfl
   have hc7:=hc 7 _ rfl
   clear hc
   simp only [Nat.add_zero] at hc0
   go_wp2_with fail
   go_round
   case rel=>exact ⟨k+1,_,by omega,rfl,by go_num,by omega,by omega⟩
   case measure=>simp [intOf]; omega
  ·go_wp2_with fail
   go_ret
   obtain rfl:k=n:=by omega
   have:K=a+8*(k:Int):=by omega
   exact ⟨by rw [←this]; rfl,rfl⟩
end Go.Proofs.YtinindjjapblcaaGreatDoor
namespace Go.Proofs.YtinindjjapblcaaGreatDoor
open Go.RowKit
def conB (nn:Int) (x:Contract):Bool:=inB x.shipper 0 15&&inB x.entry 0 (nn-1)&&inB x.exit 0 (nn-1)&&(x.entry != x.exit)&&inB x.amount 1 30000&&inB x.cls 0 3&&decide (0≤x.start)&&decide (x.start≤x.stop)&&decide (x.stop<48)&&inB x.price 0 1000000
def bookB (nn:Int) (xs:List Contract):Bool:=decide (xs.length≤32)&&xs.all (conB nn)
theorem c_isShipper (z:Int) (w:World):
  Calls Tryz.prog 185 #[.int .i64 z] w fun e w'=>e= .returned (.bool (inB z 0 15))∧w=w':=by
 go_enter Tryz.func185,Tryz.ntmps185
 go_wp2_with (go_at_call 84; refine (c_within _ _ _ _).mono ?_; rintro e w' ⟨rfl,rfl⟩)
 go_ret
 exact ⟨rfl,rfl⟩
theorem c_l20Hour (z:Int) (w:World):
  Calls Tryz.prog 175 #[.int .i64 z] w fun e w'=>e= .returned (.bool (inB z 0 47))∧w=w':=by
 go_enter Tryz.func175,Tryz.ntmps175
 go_wp2_with (go_at_call 89; refine (c_l01In _ _ _ _).mono ?_; rintro e w' ⟨rfl,rfl⟩)
 go_ret
 exact ⟨rfl,rfl⟩
theorem c_holdsIn (x:Contract) (z:Int) (w:World):
  Calls Tryz.prog 172 #[.agg #[.int .i64 x.shipper,.int .i64 x.entry,.int .i64 x.exit,.int .i64 x.amount,.int .i64 x.cls,.int .i64 x.start,.int .i64 x.stop,.int .i64 x.price],.int .i64 z] w (Ret (.bool (inB z x.start x.stop)) w):=by
 go_enter Tryz.func172,Tryz.ntmps172
 go_wp2_with (go_at_call 84; refine (c_within _ _ _ _).mono ?_; rintro e w' ⟨rfl,rfl⟩)
 go_ret
 exact Ret.bool rfl (Ext.alloc _ _)
theorem c_l20Holds (x:Contract) (z:Int) (w:World):
  Calls Tryz.prog 176 #[.agg #[.int .i64 x.shipper,.int .i64 x.entry,.int .i64 x.exit,.int .i64 x.amount,.int .i64 x.cls,.int .i64 x.start,.int .i64 x.stop,.int .i64 x.price],.int .i64 z] w (Ret (.bool (inB z x.start x.stop)) w):=by
 go_enter Tryz.func176,Tryz.ntmps176
 go_wp2_with (go_at_call 89; refine (c_l01In _ _ _ _).mono ?_; rintro e w' ⟨rfl,rfl⟩)
 go_ret
 exact Ret.bool rfl (Ext.alloc _ _)
structure ConBox (w:World) (A1 A2:Option Addr) (n1 c1 n2 c2:Nat) (x:Contract) (wr:World):Prop where
 ext:Ext ((w.alloc (.cells #[.slice A1 n1 c1,.slice A2 n2 c2] 27)).alloc (.cells #[.int .i64 x.shipper,.int .i64 x.entry,.int .i64 x.exit,.int .i64 x.amount,.int .i64 x.cls,.int .i64 x.start,.int .i64 x.stop,.int .i64 x.price] 98)) wr
theorem ConBox.cell {w wr:World} {A1 A2:Option Addr} {n1 c1 n2 c2:Nat} {x:Contract} (h:ConBox w A1 A2 n1 c1 n2 c2 x wr):wr.cell? ⟨w.heap.size,0,none⟩=some (.slice A1 n1 c1)∧wr.cell? ⟨w.heap.size,1,none⟩=some (.slice A2 n2 c2)∧w.heap.size+1<wr.heap.size∧
  ∀j u,x.cells[j]? =some u→wr.cell? ⟨w.heap.size+1,j,none⟩=some u:=by
 have hz:=h.ext.size
 simp at hz
 refine ⟨(h.ext.cell _ _ (by simp; omega)).trans (by simp [go_sem]),(h.ext.cell _ _ (by simp; omega)).trans (by simp [go_sem]),by omega,fun j u hu=>(h.ext.cell _ _ (by simp)).trans ?_⟩
 have hR:=Row.new (w.alloc (.cells #[.slice A1 n1 c1,.slice A2 n2 c2] 27)) 98 [.int .i64 x.shipper,.int .i64 x.entry,.int .i64 x.exit,.int .i64 x.amount,.int .i64 x.cls,.int .i64 x.start,.int .i64 x.stop,.int .i64 x.price]
 rw [show (w.alloc (.cells #[.slice A1 n1 c1,.slice A2 n2 c2] 27)).heap.size=w.heap.size+1 by simp] at hR
 rw [hR.cell]
 exact hu
set_option maxHeartbeats 8000000 in
theorem c_isContract (A1 A2:Option Addr) (n1 c1 n2 c2:Nat) (x:Contract) (w:World) (hn:n1≤9223372036854775807):
  Calls Tryz.prog 153 #[.agg #[.slice A1 n1 c1,.slice A2 n2 c2],.agg #[.int .i64 x.shipper,.int .i64 x.entry,.int .i64 x.exit,.int .i64 x.amount,.int .i64 x.cls,.int .i64 x.start,.int .i64 x.stop,.int .i64 x.price]] w (Ret (.bool (conB n1 x)) w):=by
 cases h1:inB x.shipper 0 15
 ·have HR:=hide (show conB n1 x=false by simp [conB,h1])
  go_enter Tryz.func153,Tryz.ntmps153
  go_wp2_with (go_at_call 185; refine (c_isShipper _ _).mono ?_; rintro e w' ⟨rfl,rfl⟩)
  go_ret
  exact Ret.bool HR.out ((Ext.alloc _ _).and_alloc _)
 cases h2:inB x.entry 0 ((n1:Int)-1)
 ·have HR:=hide (show conB n1 x=false by simp [conB,h2])
  go_enter Tryz.func153,Tryz.ntmps153
  go_wp2_with (go_at_call 185; refine (c_isShipper _ _).mono ?_; rintro e w' ⟨rfl,rfl⟩)
  refine (c_isNodeOf A1 A2 n1 c1 n2 c2 x.entry _ hn).mono ?_
  rw [h2]
  rintro e w1 ⟨rfl,hx1⟩
  go_wp2_with fail
  go_ret
  exact Ret.bool HR.out (((Ext.alloc _ _).and_alloc _).trans hx1)
 have H1:=hide h1
 have H2:=hide h2
 go_enter Tryz.func153,Tryz.ntmps153
 go_wp2_with (go_at_call 185; refine (c_isShipper _ _).mono ?_; rintro e w' ⟨rfl,rfl⟩)
 clear h1
 refine (c_isNodeOf A1 A2 n1 c1 n2 c2 x.entry _ hn).mono ?_
 rw [h2]
 rintro e w1 ⟨rfl,hx1⟩
 clear h2
 have hB1:ConBox w A1 A2 n1 c1 n2 c2 x w1:=⟨hx1⟩
 obtain ⟨y0,y1,hz,t⟩:=hB1.cell
 have t0:=(t 0 _ rfl)
 have t1:=(t 1 _ rfl)
 have t2:=(t 2 _ rfl)
 have t3:=(t 3 _ rfl)
 have t4:=(t 4 _ rfl)
 have t5:=(t 5 _ rfl)
 have t6:=(t 6 _ rfl)
 have t7:=(t 7 _ rfl)
 clear t
 go_wp2_with fail
 refine (c_isNodeOf A1 A2 n1 c1 n2 c2 x.exit _ hn).mono ?_
 cases h3:inB x.exit 0 ((n1:Int)-1)
 ·have HR:=hide (show conB n1 x=false by simp [conB,h3])
  rintro e w2 ⟨rfl,hx2⟩
  go_wp2_with fail
  go_ret
  exact Ret.bool HR.out (((Ext.alloc _ _).and_alloc _).trans (hx1.trans hx2))
 have H3:=hide h3
 clear h3
 rintro e w2 ⟨rfl,hx2⟩
 have hB2:ConBox w A1 A2 n1 c1 n2 c2 x w2:=⟨hx1.trans hx2⟩
 clear hz t0 t1 t2 t3 t4 t5 t6 t7 y0 y1
 obtain ⟨y0,y1,hz,t⟩:=hB2.cell
 have t0:=(t 0 _ rfl)
 have t1:=(t 1 _ rfl)
 have t2:=(t 2 _ rfl)
 have t3:=(t 3 _ rfl)
 have t4:=(t 4 _ rfl)
 have t5:=(t 5 _ rfl)
 have t6:=(t 6 _ rfl)
 have t7:=(t 7 _ rfl)
 clear t
 have HE:=hide (((Ext.alloc w (.cells #[.slice A1 n1 c1,.slice A2 n2 c2] 27)).and_alloc _).trans (hx1.trans hx2))
 have HR:=hide (show conB n1 x=((x.entry != x.exit)&&inB x.amount 1 30000&&inB x.cls 0 3&&decide (0≤x.start)&&decide (x.start≤x.stop)&&decide (x.stop<48)&&inB x.price 0 1000000) by unfold conB; rw [H1.out,H2.out,H3.out]; simp only [Bool.true_and])
 clear hB1 hB2 hx1 hx2 H1 H2 H3
 go_wp2_with (go_at_call 84; refine (c_within _ _ _ _).mono ?_; rintro e w' ⟨rfl,rfl⟩)
 all_goals
  go_ret
  refine Ret.bool ?_ HE.out
  rw [HR.out]
  clear HR HE
  simp_all <;> (intros; omega)
set_option maxHeartbeats 8000000 in
theorem c_l20Is (A1 A2:Option Addr) (n1 c1 n2 c2:Nat) (x:Contract) (w:World) (hn:n1≤9223372036854775807):
  Calls Tryz.prog 161 #[.agg #[.slice A1 n1 c1,.slice A2 n2 c2],.agg #[.int .i64 x.shipper,.int .i64 x.entry,.int .i64 x.exit,.int .i64 x.amount,.int .i64 x.cls,.int .i64 x.start,.int .i64 x.stop,.int .i64 x.price]] w (Ret (.bool (conB n1 x)) w):=by
 cases h1:inB x.shipper 0 15
 ·have HR:=hide (show conB n1 x=false by simp [conB,h1])
  go_enter Tryz.func161,Tryz.ntmps161
  go_wp2_with (go_at_call 89; refine (c_l01In _ _ _ _).mono ?_; rintro e w' ⟨rfl,rfl⟩)
  go_ret
  exact Ret.bool HR.out ((Ext.alloc _ _).and_alloc _)
 cases h2:inB x.entry 0 ((n1:Int)-1)
 ·have HR:=hide (show conB n1 x=false by simp [conB,h2])
  go_enter Tryz.func161,Tryz.ntmps161
  go_wp2_with (go_at_call 89; refine (c_l01In _ _ _ _).mono ?_; rintro e w' ⟨rfl,rfl⟩)
  refine (c_l02Node A1 A2 n1 c1 n2 c2 x.entry _ hn).mono ?_
  rw [h2]
  rintro e w1 ⟨rfl,hx1⟩
  go_wp2_with fail
  go_ret
  exact Ret.bool HR.out (((Ext.alloc _ _).and_alloc _).trans hx1)
 have H1:=hide h1
 have H2:=hide h2
 go_enter Tryz.func161,Tryz.ntmps161
 go_wp2_with (go_at_call 89; refine (c_l01In _ _ _ _).mono ?_; rintro e w' ⟨rfl,rfl⟩)
 clear h1
 refine (c_l02Node A1 A2 n1 c1 n2 c2 x.entry _ hn).mono ?_
 rw [h2]
 rintro e w1 ⟨rfl,hx1⟩
 clear h2
 have hB1:ConBox w A1 A2 n1 c1 n2 c2 x w1:=⟨hx1⟩
 obtain ⟨y0,y1,hz,t⟩:=hB1.cell
 have t0:=(t 0 _ rfl)
 have t1:=(t 1 _ rfl)
 have t2:=(t 2 _ rfl)
 have t3:=(t 3 _ rfl)
 have t4:=(t 4 _ rfl)
 have t5:=(t 5 _ rfl)
 have t6:=(t 6 _ rfl)
 have t7:=(t 7 _ rfl)
 clear t
 go_wp2_with fail
 refine (c_l02Node A1 A2 n1 c1 n2 c2 x.exit _ hn).mono ?_
 cases h3:inB x.exit 0 ((n1:Int)-1)
 ·have HR:=hide (show conB n1 x=false by simp [conB,h3])
  rintro e w2 ⟨rfl,hx2⟩
  go_wp2_with fail
  go_ret
  exact Ret.bool HR.out (((Ext.alloc _ _).and_alloc _).trans (hx1.trans hx2))
 have H3:=hide h3
 clear h3
 rintro e w2 ⟨rfl,hx2⟩
 have hB2:ConBox w A1 A2 n1 c1 n2 c2 x w2:=⟨hx1.trans hx2⟩
 clear hz t0 t1 t2 t3 t4 t5 t6 t7 y0 y1
 obtain ⟨y0,y1,hz,t⟩:=hB2.cell
 have t0:=(t 0 _ rfl)
 have t1:=(t 1 _ rfl)
 have t2:=(t 2 _ rfl)
 have t3:=(t 3 _ rfl)
 have t4:=(t 4 _ rfl)
 have t5:=(t 5 _ rfl)
 have t6:=(t 6 _ rfl)
 have t7:=(t 7 _ rfl)
 clear t
 have HE:=hide (((Ext.alloc w (.cells #[.slice A1 n1 c1,.slice A2 n2 c2] 27)).and_alloc _).trans (hx1.trans hx2))
 have HR:=hide (show conB n1 x=((x.entry != x.exit)&&inB x.amount 1 30000&&inB x.cls 0 3&&decide (0≤x.start)&&decide (x.start≤x.stop)&&decide (x.stop<48)&&inB x.price 0 1000000) by unfold conB; rw [H1.out,H2.out,H3.out]; simp only [Bool.true_and])
 clear hB1 hB2 hx1 hx2 H1 H2 H3
 go_wp2_with (go_at_call 89; refine (c_l01In _ _ _ _).mono ?_; rintro e w' ⟨rfl,rfl⟩)
 all_goals
  go_ret
  refine Ret.bool ?_ HE.out
  rw [HR.out]
  clear HR HE
  simp_all <;> (intros; omega)
def NetIn (w:World) (b:Nat) (A1 A2:Option Addr) (n1 c1 n2 c2:Nat):Prop:=b<w.heap.size∧w.cell? ⟨b,0,none⟩=some (.slice A1 n1 c1)∧w.cell? ⟨b,1,none⟩=some (.slice A2 n2 c2)
theorem NetIn.ext {w w':World} {b:Nat} {A1 A2:Option Addr} {n1 c1 n2 c2:Nat} (h:NetIn w b A1 A2 n1 c1 n2 c2) (hx:Ext w w'):NetIn w' b A1 A2 n1 c1 n2 c2:=
 ⟨Nat.lt_of_lt_of_le h.1 hx.size,(hx.cell _ _ h.1).trans h.2.1,(hx.cell _ _ h.1).trans h.2.2⟩
theorem NetIn.new (w:World) (A1 A2:Option Addr) (n1 c1 n2 c2:Nat):NetIn (w.alloc (.cells #[.slice A1 n1 c1,.slice A2 n2 c2] 27)) w.heap.size A1 A2 n1 c1 n2 c2:=
 ⟨by simp,by simp [go_sem],by simp [go_sem]⟩
theorem c_badCon (A1 A2:Option Addr) (n1 c1 n2 c2:Nat) (x:Contract) (b:Nat) (w:World) (hn:n1≤9223372036854775807) (hb:NetIn w b A1 A2 n1 c1 n2 c2):
  Calls Tryz.prog 152 #[.agg #[.int .i64 x.shipper,.int .i64 x.entry,.int .i64 x.exit,.int .i64 x.amount,.int .i64 x.cls,.int .i64 x.start,.int .i64 x.stop,.int .i64 x.price],.pointer (some ⟨b,0,none⟩)] w (Ret (.bool (!conB n1 x)) w):=by
 obtain ⟨hb0,hb1,hb2⟩:=hb
 go_enter Tryz.func152,Tryz.ntmps152
 go_wp2_with fail
 refine (c_isContract A1 A2 n1 c1 n2 c2 x _ hn).mono ?_
 rintro e w1 ⟨rfl,hx1⟩
 go_wp2_with fail
 go_ret
 exact Ret.bool rfl hx1.box
def FoundIdx (b:Bool) (w:World) (e:Ending) (w':World):Prop:=∃r:Int,e= .returned (.int .i64 r)∧decide (0≤r)= !b∧Ext w w'
set_option maxHeartbeats 2000000 in
theorem c_IndexCon (A1 A2:Option Addr) (n1 c1 n2 c2:Nat) (b:Nat) (A:Option Addr) (n c:Nat) (xs:List Contract) (w:World) (hn:n1≤9223372036854775807) (hb:NetIn w b A1 A2 n1 c1 n2 c2) (hs:SliceOf w 8 Contract.cells A n c xs):
  Calls Tryz.prog 184 #[.slice A n c,.func (.func 152) #[] #[.pointer (some ⟨b,0,none⟩)]] w (FoundIdx (xs.all (conB n1)) w):=by
 have hm:=hs.max
 have hcap:=hs.cap
 go_enter Tryz.func184,Tryz.ntmps184
 go_wp2_with fail
 go_loopw [4,8] (fun r i wr=>∃k:Nat,k≤n∧r= .int .i64 0∧i= .int .i64 k∧Hid (∀(j:Nat) (p:Contract),j<k→xs[j]? =some p→conB n1 p=true)∧Ext w wr) (fun _ i _=>n-(intOf i).toNat)
 case atStart=>exact ⟨0,Nat.zero_le _,rfl,rfl,hide (fun j p hj=>absurd hj (by omega)),Ext.refl _⟩
 case round=>
  obtain ⟨k,hk,rfl,rfl,HK,hx⟩:=hrel
  by_cases hlt:k<n
  ·obtain ⟨bb,off,p,rfl,hbb,hxk,t⟩:=(hs.ext hx).get hlt
   have t0:=(t 0 _ rfl)
   have t1:=(t 1 _ rfl)
   have t2:=(t 2 _ rfl)
   have t3:=(t 3 _ rfl)
   have t4:=(t 4 _ rfl)
   have t5:=(t 5 _ rfl)
   have t6:=(t 6 _ rfl)
   have t7:=(t 7 _ rfl)
   clear t
   simp only [Nat.add_zero] at t0
   have HX:=hide hxk
   clear hxk
   have hbx:=hb.ext hx
   cases hp:conB n1 p
   ·go_wp2_with (go_at_call 152; refine (c_badCon A1 A2 n1 c1 n2 c2 p b _ hn hbx).mono ?_; rw [hp]; rintro e w1 ⟨rfl,hx1⟩)
    go_ret
    refine ⟨k,rfl,?_,hx.trans hx1⟩
    have:xs.all (conB n1)=false:=by rw [List.all_eq_false]; exact ⟨p,List.mem_of_getElem? HX.out,by simp [hp]⟩
    rw [this]; simp
   ·go_wp2_with (go_at_call 152; refine (c_badCon A1 A2 n1 c1 n2 c2 p b _ hn hbx).mono ?_; rw [hp]; rintro e w1 ⟨rfl,hx1⟩)
    go_roundw
    case rel=>
     refine ⟨k+1,by omega,rfl,by go_num,hide fun j q hj hq=> ?_,hx.trans hx1⟩
     by_cases e:j=k
     ·subst e; rw [HX.out] at hq; injection hq with hq; subst hq; exact hp
     ·exact HK.out j q (by omega) hq
    case measure=>simp [intOf]; omega
  ·go_wp2_with fail
   go_ret
   refine ⟨-1,rfl,?_,hx⟩
   have:xs.all (conB n1)=true:=by
    rw [List.all_eq_true]; intro q hq
    obtain ⟨j,hj,rfl⟩:=List.mem_iff_getElem.1 hq
    exact HK.out j _ (by have:=hs.len; omega) (List.getElem?_eq_getElem hj)
   rw [this]; simp
theorem c_ContainsCon (A1 A2:Option Addr) (n1 c1 n2 c2:Nat) (b:Nat) (A:Option Addr) (n c:Nat) (xs:List Contract) (w:World) (hn:n1≤9223372036854775807) (hb:NetIn w b A1 A2 n1 c1 n2 c2) (hs:SliceOf w 8 Contract.cells A n c xs):
  Calls Tryz.prog 151 #[.slice A n c,.func (.func 152) #[] #[.pointer (some ⟨b,0,none⟩)]] w (Ret (.bool (!xs.all (conB n1))) w):=by
 go_enter Tryz.func151,Tryz.ntmps151
 go_wp2_with fail
 refine (c_IndexCon A1 A2 n1 c1 n2 c2 b A n c xs _ hn hb hs).mono ?_
 rintro e w1 ⟨r,rfl,hr,hx1⟩
 have HR:=hide hr
 clear hr
 go_wp2_with fail
 go_ret
 exact Ret.bool HR.out.symm hx1
theorem c_isBook (A1 A2:Option Addr) (n1 c1 n2 c2:Nat) (A:Option Addr) (n c:Nat) (xs:List Contract) (w:World) (hn:n1≤9223372036854775807) (hs:SliceOf w 8 Contract.cells A n c xs):
  Calls Tryz.prog 104 #[.agg #[.slice A1 n1 c1,.slice A2 n2 c2],.slice A n c] w (Ret (.bool (bookB n1 xs)) w):=by
 have hm:=hs.max
 have hcap:=hs.cap
 have hl:=hs.len
 by_cases h:n≤32
 ·have HR:=hide (show bookB n1 xs=xs.all (conB n1) by simp [bookB, ←hl,h])
  clear hl
  have h':(n:Int)≤32:=by omega
  go_enter Tryz.func104,Tryz.ntmps104
  go_wp2_with fail
  refine (c_ContainsCon A1 A2 n1 c1 n2 c2 _ A n c xs _ hn (NetIn.new _ _ _ _ _ _ _) (hs.ext (Ext.alloc _ _))).mono ?_
  rintro e w1 ⟨rfl,hx1⟩
  go_wp2_with fail
  go_ret
  exact Ret.bool HR.out hx1.box
 ·have HR:=hide (show bookB n1 xs=false by simp [bookB, ←hl,h])
  clear hl
  have h':¬(n:Int)≤32:=by omega
  go_enter Tryz.func104,Tryz.ntmps104
  go_wp2_with fail
  go_ret
  exact Ret.bool HR.out (Ext.alloc _ _)
end Go.Proofs.YtinindjjapblcaaGreatDoor
namespace Go.Proofs.YtinindjjapblcaaGreatDoor
open Go.RowKit
set_option maxHeartbeats 2000000 in
theorem c_l20Book (A1 A2:Option Addr) (n1 c1 n2 c2:Nat) (A:Option Addr) (n c:Nat) (xs:List Contract) (w:World) (hn:n1≤9223372036854775807) (hs:SliceOf w 8 Contract.cells A n c xs):
  Calls Tryz.prog 162 #[.agg #[.slice A1 n1 c1,.slice A2 n2 c2],.slice A n c] w (Ret (.bool (bookB n1 xs)) w):=by
 have hm:=hs.max
 have hcap:=hs.cap
 have hl:=hs.len
 by_cases h:n≤32
 ·have HR:=hide (show bookB n1 xs=xs.all (conB n1) by simp [bookB, ←hl,h])
  have HL:=hide hl
  clear hl
  go_enter Tryz.func162,Tryz.ntmps162
  go_wp2_with fail
  go_loopw [5] (fun i wr=>∃k:Nat,k≤n∧i= .int .i64 k∧Hid (∀(j:Nat) (p:Contract),j<k→xs[j]? =some p→conB n1 p=true)∧NetBox w A1 A2 n1 c1 n2 c2 wr) (fun i _=>n-(intOf i).toNat)
  case atStart=>exact ⟨0,Nat.zero_le _,rfl,hide (fun j p hj=>absurd hj (by omega)),⟨Ext.refl _⟩⟩
  case round=>
   obtain ⟨k,hk,rfl,HK,hX⟩:=hrel
   have hx:=hX.ext.box
   obtain ⟨x0,x1,hz⟩:=hX.cell
   by_cases hlt:k<n
   ·obtain ⟨bb,off,p,rfl,hbb,hxk,t⟩:=(hs.ext hx).get hlt
    have t0:=(t 0 _ rfl)
    have t1:=(t 1 _ rfl)
    have t2:=(t 2 _ rfl)
    have t3:=(t 3 _ rfl)
    have t4:=(t 4 _ rfl)
    have t5:=(t 5 _ rfl)
    have t6:=(t 6 _ rfl)
    have t7:=(t 7 _ rfl)
    clear t
    simp only [Nat.add_zero] at t0
    have HX:=hide hxk
    clear hxk
    go_wp2_with fail
    refine wp_region_ph [([0,1,2,3,4],5)] [6] (by kernel_rfl) (by kernel_rfl) (by intro c a w d v h; cases d <;> exact h) ?_
    simp only [wpPh,pickL,nthO]
    repeat (go_big_quiet_step (fail))
    refine wpQuiet_nil ?_
    go_wp2_with fail
    refine (c_l20Is A1 A2 n1 c1 n2 c2 p _ hn).mono ?_
    cases hp:conB n1 p
    ·rintro e w1 ⟨rfl,hx1⟩
     have HF:=hide (show bookB n1 xs=false by rw [HR.out,List.all_eq_false]; exact ⟨p,List.mem_of_getElem? HX.out,by simp [hp]⟩)
     go_wp2_with fail
     refine ⟨hx1,?_⟩
     repeat (go_big_quiet_step (fail))
     refine wpQuiet_nil ?_
     go_wp2_with fail
     go_ret
     exact Ret.bool HF.out (hx.drew.trans hx1)
    ·rintro e w1 ⟨rfl,hx1⟩
     go_wp2_with fail
     refine ⟨hx1,?_⟩
     repeat (go_big_quiet_step (fail))
     refine wpQuiet_nil ?_
     go_wp2_with fail
     go_roundw
     case rel=>
      refine ⟨k+1,by omega,by go_num,hide fun j q hj hq=> ?_,⟨hX.ext.trans ((Ext.refl _).drew.trans hx1)⟩⟩
      by_cases e:j=k
      ·subst e; rw [HX.out] at hq; injection hq with hq; subst hq; exact hp
      ·exact HK.out j q (by omega) hq
     case measure=>simp [intOf]; omega
   ·have HF:=hide (show bookB n1 xs=true by
     rw [HR.out,List.all_eq_true]; intro q hq
     obtain ⟨j,hj,rfl⟩:=List.mem_iff_getElem.1 hq
     exact HK.out j _ (by have:=HL.out; omega) (List.getElem?_eq_getElem hj))
    go_wp2_with fail
    go_ret
    exact Ret.bool HF.out hx
 ·have HR:=hide (show bookB n1 xs=false by simp [bookB, ←hl,h])
  clear hl
  have h':(32:Int)<n:=by omega
  go_enter Tryz.func162,Tryz.ntmps162
  go_wp2_with fail
  go_ret
  exact Ret.bool HR.out (Ext.alloc _ _)
def bookC (n1:Int) (ns:List Node) (ps:List Pipe) (xs:List Contract):Int:=if netB ns ps=false then 1 else if bookB n1 xs=false then 3 else 0
set_option maxHeartbeats 1000000 in
theorem c_IsBook (A1 A2:Option Addr) (n1 c1 n2 c2:Nat) (ns:List Node) (ps:List Pipe) (A:Option Addr) (n c:Nat) (xs:List Contract) (w:World) (hs1:SliceOf w 3 Node.cells A1 n1 c1 ns) (hs2:SliceOf w 5 Pipe.cells A2 n2 c2 ps) (hs:SliceOf w 8 Contract.cells A n c xs):
  Calls Tryz.prog 53 #[.agg #[.slice A1 n1 c1,.slice A2 n2 c2],.slice A n c] w (Ret (.bool (netB ns ps&&bookB n1 xs)) w):=by
 have hm1:=hs1.max
 have hp1:=hs1.cap
 cases hN:netB ns ps
 ·go_enter Tryz.func53,Tryz.ntmps53
  go_wp2_with fail
  refine (c_IsNetwork A1 A2 n1 c1 n2 c2 ns ps _ (hs1.ext (Ext.alloc _ _)) (hs2.ext (Ext.alloc _ _))).mono ?_
  rw [hN]
  rintro e w1 ⟨rfl,hx1⟩
  go_wp2_with fail
  go_ret
  exact Ret.bool rfl hx1.box
 ·go_enter Tryz.func53,Tryz.ntmps53
  go_wp2_with fail
  refine (c_IsNetwork A1 A2 n1 c1 n2 c2 ns ps _ (hs1.ext (Ext.alloc _ _)) (hs2.ext (Ext.alloc _ _))).mono ?_
  rw [hN]
  rintro e w1 ⟨rfl,hx1⟩
  have hX:NetBox w A1 A2 n1 c1 n2 c2 w1:=⟨hx1⟩
  obtain ⟨x0,x1,hz⟩:=hX.cell
  go_wp2_with fail
  refine (c_isBook A1 A2 n1 c1 n2 c2 A n c xs _ (by omega) (hs.ext hx1.box)).mono ?_
  rintro e w2 ⟨rfl,hx2⟩
  go_wp2_with fail
  go_ret
  exact Ret.bool rfl (hx1.box.trans hx2)
set_option maxHeartbeats 1000000 in
theorem c_specIsBook (A1 A2:Option Addr) (n1 c1 n2 c2:Nat) (ns:List Node) (ps:List Pipe) (A:Option Addr) (n c:Nat) (xs:List Contract) (w:World) (hs1:SliceOf w 3 Node.cells A1 n1 c1 ns) (hs2:SliceOf w 5 Pipe.cells A2 n2 c2 ps) (hs:SliceOf w 8 Contract.cells A n c xs)(hnm:∀x∈ns,x.name.size≤1048576):
  Calls Tryz.prog 109 #[.agg #[.slice A1 n1 c1,.slice A2 n2 c2],.slice A n c] w (Ret (.bool (netB ns ps&&bookB n1 xs)) w):=by
 have hm1:=hs1.max
 have hp1:=hs1.cap
 cases hN:netB ns ps
 ·go_enter Tryz.func109,Tryz.ntmps109
  go_wp2_with fail
  refine (c_specIsNetwork A1 A2 n1 c1 n2 c2 ns ps _ (hs1.ext (Ext.alloc _ _)) (hs2.ext (Ext.alloc _ _)) hnm).mono ?_
  rw [hN]
  rintro e w1 ⟨rfl,hx1⟩
  go_wp2_with fail
  go_ret
  exact Ret.bool rfl hx1.box
 ·go_enter Tryz.func109,Tryz.ntmps109
  go_wp2_with fail
  refine (c_specIsNetwork A1 A2 n1 c1 n2 c2 ns ps _ (hs1.ext (Ext.alloc _ _)) (hs2.ext (Ext.alloc _ _)) hnm).mono ?_
  rw [hN]
  rintro e w1 ⟨rfl,hx1⟩
  have hX:NetBox w A1 A2 n1 c1 n2 c2 w1:=⟨hx1⟩
  obtain ⟨x0,x1,hz⟩:=hX.cell
  go_wp2_with fail
  refine (c_l20Book A1 A2 n1 c1 n2 c2 A n c xs _ (by omega) (hs.ext hx1.box)).mono ?_
  rintro e w2 ⟨rfl,hx2⟩
  go_wp2_with fail
  go_ret
  exact Ret.bool rfl (hx1.box.trans hx2)
set_option maxHeartbeats 1000000 in
theorem c_checkBook (A1 A2:Option Addr) (n1 c1 n2 c2:Nat) (ns:List Node) (ps:List Pipe) (A:Option Addr) (n c:Nat) (xs:List Contract) (w:World) (hs1:SliceOf w 3 Node.cells A1 n1 c1 ns) (hs2:SliceOf w 5 Pipe.cells A2 n2 c2 ps) (hs:SliceOf w 8 Contract.cells A n c xs):
  Calls Tryz.prog 168 #[.agg #[.slice A1 n1 c1,.slice A2 n2 c2],.slice A n c] w (Ret (.int .i64 (bookC n1 ns ps xs)) w):=by
 have hm1:=hs1.max
 have hp1:=hs1.cap
 cases hN:netB ns ps
 ·have HR:=hide (show bookC n1 ns ps xs=1 by simp [bookC,hN])
  go_enter Tryz.func168,Tryz.ntmps168
  go_wp2_with fail
  refine (c_IsNetwork A1 A2 n1 c1 n2 c2 ns ps _ (hs1.ext (Ext.alloc _ _)) (hs2.ext (Ext.alloc _ _))).mono ?_
  rw [hN]
  rintro e w1 ⟨rfl,hx1⟩
  go_wp2_with fail
  go_ret
  exact Ret.int HR.out hx1.box
 cases hB:bookB n1 xs
 ·have HR:=hide (show bookC n1 ns ps xs=3 by simp [bookC,hN,hB])
  go_enter Tryz.func168,Tryz.ntmps168
  go_wp2_with fail
  refine (c_IsNetwork A1 A2 n1 c1 n2 c2 ns ps _ (hs1.ext (Ext.alloc _ _)) (hs2.ext (Ext.alloc _ _))).mono ?_
  rw [hN]
  rintro e w1 ⟨rfl,hx1⟩
  have hX:NetBox w A1 A2 n1 c1 n2 c2 w1:=⟨hx1⟩
  obtain ⟨x0,x1,hz⟩:=hX.cell
  go_wp2_with fail
  refine (c_isBook A1 A2 n1 c1 n2 c2 A n c xs _ (by omega) (hs.ext hx1.box)).mono ?_
  rw [hB]
  rintro e w2 ⟨rfl,hx2⟩
  go_wp2_with fail
  go_ret
  exact Ret.int HR.out (hx1.box.trans hx2)
 ·have HR:=hide (show bookC n1 ns ps xs=0 by simp [bookC,hN,hB])
  go_enter Tryz.func168,Tryz.ntmps168
  go_wp2_with fail
  refine (c_IsNetwork A1 A2 n1 c1 n2 c2 ns ps _ (hs1.ext (Ext.alloc _ _)) (hs2.ext (Ext.alloc _ _))).mono ?_
  rw [hN]
  rintro e w1 ⟨rfl,hx1⟩
  have hX:NetBox w A1 A2 n1 c1 n2 c2 w1:=⟨hx1⟩
  obtain ⟨x0,x1,hz⟩:=hX.cell
  go_wp2_with fail
  refine (c_isBook A1 A2 n1 c1 n2 c2 A n c xs _ (by omega) (hs.ext hx1.box)).mono ?_
  rw [hB]
  rintro e w2 ⟨rfl,hx2⟩
  go_wp2_with fail
  go_ret
  exact Ret.int HR.out (hx1.box.trans hx2)
end Go.Proofs.YtinindjjapblcaaGreatDoor
