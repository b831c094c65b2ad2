/-
  Readings: validity, of the program.
-/
import Derived.Test.YtinindjjapblcaaGreatDoorWa05
import Derived.Test.YtinindjjapblcaaGreatDoorWa04
import Derived.Test.YtinindjjapblcaaGreatDoorWa02
import Derived.Test.YtinindjjapblcaaGreatDoorWa01
import Derived.Lib.SlicesS
namespace Go.Proofs.YtinindjjapblcaaGreatDoor
open Go.RowKit
def clash (x y:Reading):Bool:=(x.node==y.node)&&(decide (0<x.amount)==decide (0<y.amount))
def hasR (L:List Reading) (r:Reading):Bool:=L.any fun x=>clash x r
def readB (nn:Int) (r:Reading):Bool:=inB r.node 0 (nn-1)&&inB r.amount (-30000) 30000&& !(r.amount==0)
def readOkB (nn:Int) (L:List Reading) (i:Nat):Bool:=match L[i]? with
 | some r=>readB nn r&& !hasR (L.take i) r
 | none=>true
def readsB (nn:Int) (L:List Reading):Bool:=decide (L.length≤48)&&(List.range L.length).all (readOkB nn L)
theorem readOk_at {nn:Int} {L:List Reading} {k:Nat} {r:Reading} (h:L[k]? =some r):readOkB nn L k=(readB nn r&& !hasR (L.take k) r):=by unfold readOkB; rw [h]
theorem reads_no {nn:Int} {L:List Reading} {n k:Nat} (hn:n=L.length) (hk:k<n) (h:readOkB nn L k=false):readsB nn L=false:=by
 unfold readsB
 rw [all_range_false (by omega) h]; simp
theorem reads_yes {nn:Int} {L:List Reading} {n:Nat} (hn:n=L.length) (h48:n≤48) (h:∀j,j<n→readOkB nn L j=true):readsB nn L=true:=by
 subst hn
 unfold readsB
 rw [all_range_true h]; simp [h48]
theorem reads_long {nn:Int} {L:List Reading} {n:Nat} (hn:n=L.length) (h:¬n≤48):readsB nn L=false:=by
 subst hn
 unfold readsB; simp [h]
theorem read_ways (nn:Int) (r:Reading):(inB r.node 0 (nn-1)=false∧Hid (readB nn r=false))∨(inB r.node 0 (nn-1)=true∧inB r.amount (-30000) 30000=false∧Hid (readB nn r=false))∨
  (inB r.node 0 (nn-1)=true∧inB r.amount (-30000) 30000=true∧(r.amount==0)=true∧Hid (readB nn r=false))∨(inB r.node 0 (nn-1)=true∧inB r.amount (-30000) 30000=true∧(r.amount==0)=false∧Hid (readB nn r=true)):=by
 unfold readB Hid
 cases inB r.node 0 (nn-1) <;> cases inB r.amount (-30000) 30000 <;> cases (r.amount==0) <;> simp
def ReadIn (w:World) (b:Nat) (r:Reading):Prop:=b<w.heap.size∧w.cell? ⟨b,0,none⟩=some (.int .i64 r.node)∧w.cell? ⟨b,1,none⟩=some (.int .i64 r.amount)
theorem ReadIn.ext {w w':World} {b:Nat} {r:Reading} (h:ReadIn w b r) (hx:Ext w w'):ReadIn w' b r:=⟨Nat.lt_of_lt_of_le h.1 hx.size,(hx.cell _ _ h.1).trans h.2.1,(hx.cell _ _ h.1).trans h.2.2⟩
theorem ReadIn.new (w:World) (r:Reading):ReadIn (w.alloc (.cells #[.int .i64 r.node,.int .i64 r.amount] 84)) w.heap.size r:=⟨by simp,by simp [go_sem],by simp [go_sem]⟩
theorem c_clash (x r:Reading) (b:Nat) (w:World) (hb:ReadIn w b r):
  Calls Tryz.prog 171 #[.agg #[.int .i64 x.node,.int .i64 x.amount],.pointer (some ⟨b,0,none⟩)] w (Ret (.bool (clash x r)) w):=by
 obtain ⟨hb0,hb1,hb2⟩:=hb
 cases hn:(x.node==r.node)
 ·have HR:=hide (show clash x r=false by simp [clash,hn])
  go_enter Tryz.func171,Tryz.ntmps171
  go_wp2_with fail
  go_ret
  exact Ret.bool HR.out (Ext.alloc _ _)
 ·have HR:=hide (show clash x r=(decide (0<x.amount)==decide (0<r.amount)) by simp [clash,hn])
  go_enter Tryz.func171,Tryz.ntmps171
  go_wp2_with fail
  go_ret
  exact Ret.bool HR.out (Ext.alloc _ _)
set_option maxHeartbeats 1000000 in
theorem c_IndexRead (A:Option Addr) (n c:Nat) (L:List Reading) (r:Reading) (b:Nat) (w:World) (hs:SliceOf w 2 Reading.cells A n c L) (hb:ReadIn w b r):
  Calls Tryz.prog 194 #[.slice A n c,.func (.func 171) #[] #[.pointer (some ⟨b,0,none⟩)]] w (FoundN (hasR L r) w):=by
 have hm:=hs.max
 have hcap:=hs.cap
 go_enter Tryz.func194,Tryz.ntmps194
 go_wp2_with fail
 go_loopw [4,8] (fun q i wr=>∃k:Nat,k≤n∧q= .int .i64 0∧i= .int .i64 k∧Hid (∀(j:Nat) (p:Reading),j<k→L[j]? =some p→clash p r=false)∧Ext w wr) (fun _ i _=>n-(intOf i).toNat)
 case atStart=>exact ⟨0,Nat.zero_le _,rfl,rfl,hide (fun j p hj=>absurd hj (by omega)),Ext.refl _⟩
 case round=>
  obtain ⟨k,hk,rfl,rfl,HK,hx⟩:=hrel
  by_cases hlt:k<n
  ·obtain ⟨bb,off,p,rfl,hbb,hxk,hc⟩:=(hs.ext hx).get hlt
   have hc0:=hc 0 _ rfl
   have hc1:=hc 1 _ rfl
   clear hc
   simp only [Nat.add_zero] at hc0
   have HX:=hide hxk
   clear hxk
   have hbx:=hb.ext hx
   cases hp:clash p r
   ·go_wp2_with (go_at_call 171; refine (c_clash p r b _ hbx).mono ?_; rw [hp]; rintro e w1 ⟨rfl,hx1⟩)
    go_roundw
    case rel=>
     refine ⟨k+1,by omega,rfl,by go_num,hide fun j q hj hq=> ?_,hx.trans hx1⟩
     by_cases e:j=k
     ·subst e; rw [HX.out] at hq; injection hq with hq; subst hq; exact hp
     ·exact HK.out j q (by omega) hq
    case measure=>simp [intOf]; omega
   ·go_wp2_with (go_at_call 171; refine (c_clash p r b _ hbx).mono ?_; rw [hp]; rintro e w1 ⟨rfl,hx1⟩)
    go_ret
    refine ⟨k,rfl,?_,hx.trans hx1⟩
    have:hasR L r=true:=by rw [hasR,List.any_eq_true]; exact ⟨p,List.mem_of_getElem? HX.out,hp⟩
    rw [this]; simp
  ·go_wp2_with fail
   go_ret
   refine ⟨-1,rfl,?_,hx⟩
   have:hasR L r=false:=by
    rw [hasR,List.any_eq_false]; intro q hq
    obtain ⟨j,hj,rfl⟩:=List.mem_iff_getElem.1 hq
    simp [HK.out j _ (by have:=hs.len; omega) (List.getElem?_eq_getElem hj)]
   rw [this]; simp
theorem c_ContainsRead (A:Option Addr) (n c:Nat) (L:List Reading) (r:Reading) (b:Nat) (w:World) (hs:SliceOf w 2 Reading.cells A n c L) (hb:ReadIn w b r):
  Calls Tryz.prog 170 #[.slice A n c,.func (.func 171) #[] #[.pointer (some ⟨b,0,none⟩)]] w (Ret (.bool (hasR L r)) w):=by
 go_enter Tryz.func170,Tryz.ntmps170
 go_wp2_with fail
 refine (c_IndexRead A n c L r b _ hs hb).mono ?_
 rintro e w1 ⟨q,rfl,hr,hx1⟩
 have HR:=hide hr
 clear hr
 go_wp2_with fail
 go_ret
 exact Ret.bool HR.out.symm hx1
theorem c_checkNone (A1 A2:Option Addr) (n1 c1 n2 c2:Nat) (ns:List Node) (ps:List Pipe) (w:World) (hs1:SliceOf w 3 Node.cells A1 n1 c1 ns) (hs2:SliceOf w 5 Pipe.cells A2 n2 c2 ps):
  Calls Tryz.prog 169 #[.agg #[.slice A1 n1 c1,.slice A2 n2 c2],.slice none 0 0] w (Ret (.int .i64 (if netB ns ps=true then 0 else 1)) w):=by
 cases hN:netB ns ps
 ·rw [if_neg (by decide)]
  go_enter Tryz.func169,Tryz.ntmps169
  go_wp2_with fail
  refine (c_IsNetwork A1 A2 n1 c1 n2 c2 ns ps _ (hs1.ext (Ext.alloc _ _)) (hs2.ext (Ext.alloc _ _))).mono ?_
  rw [hN]
  rintro e w1 ⟨rfl,hx1⟩
  go_wp2_with fail
  go_ret
  exact Ret.int rfl hx1.box
 ·rw [if_pos rfl]
  go_enter Tryz.func169,Tryz.ntmps169
  go_wp2_with fail
  refine (c_IsNetwork A1 A2 n1 c1 n2 c2 ns ps _ (hs1.ext (Ext.alloc _ _)) (hs2.ext (Ext.alloc _ _))).mono ?_
  rw [hN]
  rintro e w1 ⟨rfl,hx1⟩
  go_wp2_with fail
  go_loopw [17] (fun i wr=>i= .int .i64 0∧wr=w1) (fun _ _=>0)
  case atStart=>exact ⟨rfl,rfl⟩
  case round=>
   obtain ⟨rfl,rfl⟩:=hrel
   go_wp2_with fail
   go_ret
   exact Ret.int rfl hx1.box
end Go.Proofs.YtinindjjapblcaaGreatDoor
namespace Go.Proofs.YtinindjjapblcaaGreatDoor
open Go.RowKit
set_option maxHeartbeats 4000000 in
theorem c_AreReadings (A1 A2:Option Addr) (n1 c1 n2 c2:Nat) (ns:List Node) (ps:List Pipe) (A:Option Addr) (n c:Nat) (L:List Reading) (w:World) (hs1:SliceOf w 3 Node.cells A1 n1 c1 ns) (hs2:SliceOf w 5 Pipe.cells A2 n2 c2 ps) (hs:SliceOf w 2 Reading.cells A n c L) (hN:netB ns ps=true):
  Calls Tryz.prog 132 #[.agg #[.slice A1 n1 c1,.slice A2 n2 c2],.slice none 0 0,.slice A n c] w (Ret (.int .i64 (if readsB n1 L=true then 0 else 3)) w):=by
 have hm1:=hs1.max
 have hp1:=hs1.cap
 have hm:=hs.max
 have hcap:=hs.cap
 have HL:=hide hs.len
 have HRy:=hide (show readsB n1 L=true→(if readsB n1 L=true then (0:Int) else 3)=0 by intro h; rw [if_pos h])
 have HRn:=hide (show readsB n1 L=false→(if readsB n1 L=true then (0:Int) else 3)=3 by intro h; rw [if_neg (by rw [h]; decide)])
 have HN:=hide hN
 clear hN
 generalize (if readsB n1 L=true then (0:Int) else 3)=Z at *
 by_cases h48:n≤48
 case neg=>
  have HR:=hide (HRn.out (reads_long HL.out h48))
  have h2':(48:Int)<n:=by omega
  go_enter Tryz.func132,Tryz.ntmps132
  go_wp2_with fail
  refine (c_checkNone A1 A2 n1 c1 n2 c2 ns ps _ (hs1.ext (Ext.alloc _ _)) (hs2.ext (Ext.alloc _ _))).mono ?_
  rw [if_pos HN.out]
  rintro e w1 ⟨rfl,hx1⟩
  go_wp2_with fail
  go_ret
  exact Ret.int HR.out hx1.box
 go_enter Tryz.func132,Tryz.ntmps132
 go_wp2_with fail
 refine (c_checkNone A1 A2 n1 c1 n2 c2 ns ps _ (hs1.ext (Ext.alloc _ _)) (hs2.ext (Ext.alloc _ _))).mono ?_
 rw [if_pos HN.out]
 rintro e w1 ⟨rfl,hx1⟩
 have hX1:NetBox w A1 A2 n1 c1 n2 c2 w1:=⟨hx1⟩
 clear hx1
 go_wp2_with fail
 go_loopw [21] (fun i wr=>∃k:Nat,k≤n∧i= .int .i64 k∧Hid (∀j,j<k→readOkB n1 L j=true)∧NetBox w A1 A2 n1 c1 n2 c2 wr) (fun i _=>n-(intOf i).toNat)
 case atStart=>exact ⟨0,Nat.zero_le _,rfl,hide (fun j hj=>absurd hj (by omega)),hX1⟩
 case round=>
  obtain ⟨k,hk,rfl,HK,hX⟩:=hrel
  clear hX1
  have hx:=hX.ext.box
  obtain ⟨x0,x1,hz⟩:=hX.cell
  by_cases hlt:k<n
  ·obtain ⟨bb,off,r,rfl,hbb,hxk,t⟩:=(hs.ext hx).get hlt
   have t0:=t 0 _ rfl
   have t1:=t 1 _ rfl
   simp only [Nat.add_zero] at t0
   clear t
   have HX:=hide (readOk_at (nn:=n1) hxk)
   clear hxk
   have hRI:=ReadIn.new wr r
   rcases read_ways n1 r with ⟨h1,HB⟩ | hways
   ·rw [HB] at HX
    have HR:=hide (HRn.out (reads_no HL.out hlt HX.out))
    go_wp2_with fail
    refine (c_isNodeOf A1 A2 n1 c1 n2 c2 r.node _ (by omega)).mono ?_
    rw [h1]
    rintro e w2 ⟨rfl,hx2⟩
    go_wp2_with fail
    go_ret
    exact Ret.int HR.out ((hx.and_alloc _).trans hx2)
   have h1:inB r.node 0 ((n1:Int)-1)=true:=by rcases hways with ⟨h,_⟩ | ⟨h,_⟩ | ⟨h,_⟩ <;> exact h
   have HWY:=hide hways
   clear hways
   go_wp2_with fail
   refine (c_isNodeOf A1 A2 n1 c1 n2 c2 r.node _ (by omega)).mono ?_
   rw [h1]
   rintro e w2 ⟨rfl,hx2⟩
   clear h1
   have hR2:=hRI.ext hx2
   obtain ⟨hl2,v0,v1⟩:=hR2
   have hX2:NetBox w A1 A2 n1 c1 n2 c2 w2:=⟨(hX.ext.and_alloc _).trans hx2⟩
   rcases HWY.out with ⟨_,h2,HB⟩ | ⟨_,h2,h3,HB⟩ | ⟨_,h2,h3,HB⟩
   ·rw [HB] at HX
    have HR:=hide (HRn.out (reads_no HL.out hlt HX.out))
    go_wp2_with (go_at_call 84; refine (c_within _ _ _ _).mono ?_; rintro e w' ⟨rfl,rfl⟩)
    go_ret
    exact Ret.int HR.out hX2.ext.box
   ·rw [HB] at HX
    have HR:=hide (HRn.out (reads_no HL.out hlt HX.out))
    go_wp2_with (go_at_call 84; refine (c_within _ _ _ _).mono ?_; rintro e w' ⟨rfl,rfl⟩)
    go_ret
    exact Ret.int HR.out hX2.ext.box
   ·rw [HB] at HX
    have hs2k:=(hs.ext hX2.ext.box).take (show k≤n by omega)
    go_wp2_with (go_at_call 84; refine (c_within _ _ _ _).mono ?_; rintro e w' ⟨rfl,rfl⟩)
    refine (c_ContainsRead _ k c (L.take k) r _ _ hs2k (hRI.ext hx2)).mono ?_
    cases hh:hasR (L.take k) r
    ·rw [hh] at HX
     have HO:=hide (all_upto HK.out HX.out)
     rintro e w3 ⟨rfl,hx3⟩
     go_wp2_with fail
     go_roundw
     case rel=>exact ⟨k+1,by omega,by go_num,HO,⟨hX2.ext.trans hx3⟩⟩
     case measure=>simp [intOf]; omega
    ·rw [hh] at HX
     have HR:=hide (HRn.out (reads_no HL.out hlt HX.out))
     rintro e w3 ⟨rfl,hx3⟩
     go_wp2_with fail
     go_ret
     exact Ret.int HR.out (hX2.ext.box.trans hx3)
  ·have HR:=hide (HRy.out (reads_yes HL.out h48 (fun j hj=>HK.out j (by omega))))
   go_wp2_with fail
   go_ret
   exact Ret.int HR.out hx
theorem hasR_true {L:List Reading} {k m:Nat} {r q:Reading} (hm:m<k) (hq:L[m]? =some q) (h:clash q r=true):hasR (L.take k) r=true:=by
 rw [hasR,List.any_eq_true]
 exact ⟨q,List.mem_of_getElem? (i:=m) (by rw [List.getElem?_take,if_pos hm]; exact hq),h⟩
theorem hasR_false {L:List Reading} {k:Nat} {r:Reading} (h:∀(j:Nat) (q:Reading),j<k→L[j]? =some q→clash q r=false):hasR (L.take k) r=false:=by
 rw [hasR,List.any_eq_false]
 intro q hq
 obtain ⟨j,hj,hje⟩:=List.mem_iff_getElem.1 hq
 have h1:(L.take k)[j]? =some q:=by rw [List.getElem?_eq_getElem hj,hje]
 rw [List.getElem?_take] at h1
 split at h1
 ·rename_i hjk
  rw [h j q hjk h1]; simp
 ·cases h1
theorem c_l05Flow (z:Int) (w:World):
  Calls Tryz.prog 114 #[.int .i64 z] w fun e w'=>e= .returned (.bool (inB z (-30000) 30000))∧w=w':=by
 go_enter Tryz.func114,Tryz.ntmps114
 go_wp2_with (go_at_call 89; refine (c_l01In _ _ _ _).mono ?_; rintro e w' ⟨rfl,rfl⟩)
 go_ret
 exact ⟨rfl,rfl⟩
theorem clash_ways (q r:Reading):((q.node==r.node)=false∧Hid (clash q r=false))∨((q.node==r.node)=true∧(decide (0<q.amount)==decide (0<r.amount))=false∧Hid (clash q r=false))∨
  ((q.node==r.node)=true∧(decide (0<q.amount)==decide (0<r.amount))=true∧Hid (clash q r=true)):=by
 unfold clash Hid
 cases (q.node==r.node) <;> cases (decide (0<q.amount)==decide (0<r.amount)) <;> simp
set_option maxHeartbeats 4000000 in
theorem c_l28List (A1 A2:Option Addr) (n1 c1 n2 c2:Nat) (A:Option Addr) (n c:Nat) (L:List Reading) (w:World) (hn1:n1≤9223372036854775807) (hs:SliceOf w 2 Reading.cells A n c L):
  Calls Tryz.prog 90 #[.agg #[.slice A1 n1 c1,.slice A2 n2 c2],.slice A n c] w (Ret (.bool (readsB n1 L)) w):=by
 have hm:=hs.max
 have hcap:=hs.cap
 have HL:=hide hs.len
 by_cases h48:n≤48
 case neg=>
  have HR:=hide (reads_long (nn:=n1) HL.out h48)
  have h2':(48:Int)<n:=by omega
  go_enter Tryz.func90,Tryz.ntmps90
  go_wp2_with fail
  go_ret
  exact Ret.bool HR.out (Ext.alloc _ _)
 go_enter Tryz.func90,Tryz.ntmps90
 go_wp2_with fail
 go_loopw [5] (fun i wr=>∃k:Nat,k≤n∧i= .int .i64 k∧Hid (∀j,j<k→readOkB n1 L j=true)∧NetBox w A1 A2 n1 c1 n2 c2 wr) (fun i _=>n-(intOf i).toNat)
 case atStart=>exact ⟨0,Nat.zero_le _,rfl,hide (fun j hj=>absurd hj (by omega)),⟨Ext.refl _⟩⟩
 case round=>
  obtain ⟨k,hk,rfl,HK,hX⟩:=hrel
  have hx:=hX.ext.box
  obtain ⟨x0,x1,hz⟩:=hX.cell
  by_cases hlt:k<n
  ·obtain ⟨bb,off,r,rfl,hbb,hxk,t⟩:=(hs.ext hx).get hlt
   have t0:=t 0 _ rfl
   have t1:=t 1 _ rfl
   simp only [Nat.add_zero] at t0
   clear t
   have HX:=hide (readOk_at (nn:=n1) hxk)
   clear hxk
   have hRI:=ReadIn.new wr r
   rcases read_ways n1 r with ⟨h1,HB⟩ | hways
   ·rw [HB] at HX
    have HR:=hide (reads_no HL.out hlt HX.out)
    go_wp2_with fail
    refine (c_l02Node A1 A2 n1 c1 n2 c2 r.node _ (by omega)).mono ?_
    rw [h1]
    rintro e w2 ⟨rfl,hx2⟩
    go_wp2_with fail
    go_ret
    exact Ret.bool HR.out ((hx.and_alloc _).trans hx2)
   have h1:inB r.node 0 ((n1:Int)-1)=true:=by rcases hways with ⟨h,_⟩ | ⟨h,_⟩ | ⟨h,_⟩ <;> exact h
   have HWY:=hide hways
   clear hways
   go_wp2_with fail
   refine (c_l02Node A1 A2 n1 c1 n2 c2 r.node _ (by omega)).mono ?_
   rw [h1]
   rintro e w2 ⟨rfl,hx2⟩
   clear h1
   have hR2:=hRI.ext hx2
   obtain ⟨hl2,v0,v1⟩:=hR2
   have hX2:NetBox w (A1) A2 n1 c1 n2 c2 w2:=⟨(hX.ext.and_alloc _).trans hx2⟩
   rcases HWY.out with ⟨_,h2,HB⟩ | ⟨_,h2,h3,HB⟩ | ⟨_,h2,h3,HB⟩
   ·rw [HB] at HX
    have HR:=hide (reads_no HL.out hlt HX.out)
    go_wp2_with (go_at_call 114; refine (c_l05Flow _ _).mono ?_; rintro e w' ⟨rfl,rfl⟩)
    go_ret
    exact Ret.bool HR.out hX2.ext.box
   ·rw [HB] at HX
    have HR:=hide (reads_no HL.out hlt HX.out)
    go_wp2_with (go_at_call 114; refine (c_l05Flow _ _).mono ?_; rintro e w' ⟨rfl,rfl⟩)
    go_ret
    exact Ret.bool HR.out hX2.ext.box
   ·rw [HB] at HX
    have hRr:=hRI.ext hx2
    go_wp2_with (go_at_call 114; refine (c_l05Flow _ _).mono ?_; rintro e w' ⟨rfl,rfl⟩)
    clear v0 v1 hl2 hx2 hx hX hRI t0 t1 x0 x1 hbb
    go_loopw [7] (fun i wx=>∃m:Nat,m≤k∧i= .int .i64 m∧Hid (∀(j:Nat) (q:Reading),j<m→L[j]? =some q→clash q r=false)∧NetBox w A1 A2 n1 c1 n2 c2 wx∧ReadIn wx wr.heap.size r) (fun i _=>k-(intOf i).toNat)
    case atStart=>exact ⟨0,Nat.zero_le _,rfl,hide (fun j q hj=>absurd hj (by omega)),hX2,hRr⟩
    case round=>
     obtain ⟨m,hm',rfl,HM,hX,hRx⟩:=hrel
     clear hX2 hRr
     have hx:=hX.ext.box
     obtain ⟨hl2,v0,v1⟩:=hRx
     by_cases hlt2:m<k
     ·have hmn:m<n:=by omega
      obtain ⟨b1,off1,q,hA1,hbb,hqm,hd⟩:=(hs.ext hx).get hmn
      simp only [Option.some.injEq,Addr.mk.injEq] at hA1
      obtain ⟨rfl,rfl,-⟩:=hA1
      have hd0:=hd 0 _ rfl
      have hd1:=hd 1 _ rfl
      simp only [Nat.add_zero] at hd0
      have HQ:=hide hqm
      clear hd hqm
      rcases clash_ways q r with ⟨hc1',HC⟩ | ⟨hc1',hc2',HC⟩ | ⟨hc1',hc2',HC⟩
      ·go_wp2_with fail
       refine wp_region_later (by kernel_rfl) (by kernel_rfl) ?_
       repeat (go_big_quiet_step (fail))
       refine wpQuiet_nil ?_
       intro w3 hx3
       go_wp2_with fail
       go_roundw
       case rel=>
        refine ⟨m+1,by omega,by go_num,hide fun j q' hj hq'=> ?_,⟨hX.ext.trans hx3⟩,ReadIn.ext ⟨hl2,v0,v1⟩ hx3⟩
        by_cases e:j=m
        ·subst e; rw [HQ.out] at hq'; injection hq' with hq'; subst hq'; exact HC
        ·exact HM.out j q' (by omega) hq'
       case measure=>simp [intOf]; omega
      ·go_wp2_with fail
       refine wp_region_later (by kernel_rfl) (by kernel_rfl) ?_
       repeat (go_big_quiet_step (fail))
       refine wpQuiet_nil ?_
       intro w3 hx3
       go_wp2_with fail
       go_roundw
       case rel=>
        refine ⟨m+1,by omega,by go_num,hide fun j q' hj hq'=> ?_,⟨hX.ext.trans hx3⟩,ReadIn.ext ⟨hl2,v0,v1⟩ hx3⟩
        by_cases e:j=m
        ·subst e; rw [HQ.out] at hq'; injection hq' with hq'; subst hq'; exact HC
        ·exact HM.out j q' (by omega) hq'
       case measure=>simp [intOf]; omega
      ·have hh:=hasR_true hlt2 HQ.out HC
       rw [hh] at HX
       have HR:=hide (reads_no HL.out hlt HX.out)
       clear hh
       go_wp2_with fail
       refine wp_region_later (by kernel_rfl) (by kernel_rfl) ?_
       repeat (go_big_quiet_step (fail))
       refine wpQuiet_nil ?_
       intro w3 hx3
       go_wp2_with fail
       go_ret
       exact Ret.bool HR.out (hx.trans hx3)
     ·have hh:=hasR_false (L:=L) (k:=k) (r:=r) (fun j q hj hq=>HM.out j q (by omega) hq)
      rw [hh] at HX
      have HO:=hide (all_upto HK.out HX.out)
      clear hh
      go_wp2_with fail
      go_roundw
      case rel=>exact ⟨k+1,by omega,by go_num,HO,hX⟩
      case measure=>simp [intOf]; omega
  ·have HR:=hide (reads_yes HL.out h48 (fun j hj=>HK.out j (by omega)))
   go_wp2_with fail
   go_ret
   exact Ret.bool HR.out hx
end Go.Proofs.YtinindjjapblcaaGreatDoor
namespace Go.Proofs.YtinindjjapblcaaGreatDoor
open Go.RowKit
def flowB (z:Int):Bool:=inB z (-30000) 30000
def evB (p:Event):Bool:=inB p.kind 1 3&&flowB p.a&&flowB p.b&&flowB p.c&&flowB p.d
theorem evB_facts {p:Event} (h:evB p=true):(p.kind=1∨p.kind=2∨p.kind=3)∧(-30000≤p.a∧p.a≤30000)∧(-30000≤p.b∧p.b≤30000)∧(-30000≤p.c∧p.c≤30000)∧(-30000≤p.d∧p.d≤30000):=by
 simp only [evB,flowB,Bool.and_eq_true,inB_true] at h
 omega
theorem Row.new1 (w:World) (o:Obj) (t:TypeId) (cs:List Value):Row ((w.alloc o).alloc (.cells cs.toArray t)) (w.heap.size+1) t cs:=by
 have h:=Row.new (w.alloc o) t cs
 rwa [show (w.alloc o).heap.size=w.heap.size+1 by simp] at h
set_option maxHeartbeats 1000000 in
theorem c_IsEvent (p:Event) (w:World):
  Calls Tryz.prog 49 #[.agg #[.int .i64 p.kind,.int .i64 p.a,.int .i64 p.b,.int .i64 p.c,.int .i64 p.d]] w (Ret (.bool (evB p)) w):=by
 obtain ⟨k,a,b,c,d⟩:=p
 go_enter Tryz.func49,Tryz.ntmps49
 cases hk:inB k 1 3
 ·go_wp2_with (first | (go_at_call 84; refine (c_within _ _ _ _).mono ?_; rintro e w' ⟨rfl,rfl⟩))
  go_ret
  refine Ret.bool ?_ (Ext.alloc _ _)
  simp_all [evB]
 ·go_wp2_with (first | (go_at_call 84; refine (c_within _ _ _ _).mono ?_; rintro e w' ⟨rfl,rfl⟩))
  have hS:=Row.new1 w (.cells #[.int .i64 k,.int .i64 a,.int .i64 b,.int .i64 c,.int .i64 d] 54) 2 [.int .i64 a,.int .i64 b,.int .i64 c,.int .i64 d]
  refine (c_allWithin _ 4 4 [a,b,c,d] (-30000) 30000 _ (RowOf.slice (f:=intC) (xs:=[a,b,c,d]) hS intC_len rfl (by omega))).mono ?_
  rintro e w' ⟨rfl,rfl⟩
  go_wp2_with fail
  go_ret
  refine Ret.bool ?_ ((Ext.alloc _ _).and_alloc _)
  simp [evB,allB,flowB,hk,Bool.and_assoc]
set_option maxHeartbeats 1000000 in
theorem c_specIsEvent (p:Event) (w:World):
  Calls Tryz.prog 62 #[.agg #[.int .i64 p.kind,.int .i64 p.a,.int .i64 p.b,.int .i64 p.c,.int .i64 p.d]] w (Ret (.bool (evB p)) w):=by
 obtain ⟨k,a,b,c,d⟩:=p
 go_enter Tryz.func62,Tryz.ntmps62
 go_wp2_with (first | (go_at_call 89; refine (c_l01In _ _ _ _).mono ?_; rintro e w' ⟨rfl,rfl⟩) | (go_at_call 114; refine (c_l05Flow _ _).mono ?_; rintro e w' ⟨rfl,rfl⟩))
 all_goals
  go_ret
  refine Ret.bool ?_ (Ext.alloc _ _)
  simp_all [evB,flowB]
end Go.Proofs.YtinindjjapblcaaGreatDoor
namespace Go.Proofs.YtinindjjapblcaaGreatDoor
open Go.RowKit
end Go.Proofs.YtinindjjapblcaaGreatDoor
namespace Go.Proofs.YtinindjjapblcaaGreatDoor
open Go.Lib
def splitL (c:UInt8):List UInt8→List (List UInt8)
 | []=>[[]]
 | b::l=>if b=c then []::splitL c l else (match splitL c l with | x::xs=>(b::x)::xs | []=>[])
theorem splitL_ne (c:UInt8):∀s,splitL c s≠[]
 | []=>by simp [splitL]
 | b::l=>by
  rw [splitL]
  split
  ·simp
  ·have h:=splitL_ne c l
   split
   ·simp
   ·rename_i h0; exact absurd h0 h
theorem index_cons_ne (b c:UInt8) (l:List UInt8) (h:b≠c):index (b::l) [c]=if index l [c]== -1 then -1 else index l [c]+1:=by
 have hp:([c]:List UInt8).isPrefixOf (b::l)=false:=by simp [List.isPrefixOf,Ne.symm h]
 rw [index,hp]; simp
theorem splitK_one (c:UInt8):∀s:List UInt8,splitK [c] 0 (count s [c]) s=splitL c s
 | []=>by rw [count_miss (by simp [index])]; rfl
 | b::l=>by
  have ih:=splitK_one c l
  by_cases h:b=c
  ·subst h
   have hix:index (b::l) [b]=((0:Nat):Int):=by rw [index]; simp [List.isPrefixOf]
   rw [count_cons_eq,Nat.add_comm,splitL,if_pos rfl,splitK,hix, ←ih]
   simp
  ·rw [count_cons_ne b c l h,splitL,if_neg h, ←ih]
   by_cases hm:index l [c]= -1
   ·rw [count_miss hm]; rfl
   ·have hge:=index_ge l [c]
    obtain ⟨j,hj⟩:∃j:Nat,index l [c]=j:=⟨(index l [c]).toNat,by omega⟩
    have hix':index (b::l) [c]=((j+1:Nat):Int):=by rw [index_cons_ne b c l h,if_neg (fun e=>hm (beq_iff_eq.1 e)),hj]; omega
    rw [count_hit (by simp) hj,Nat.add_comm 1]
    rw [splitK,splitK,hix',hj]
    have e1:((((j+1:Nat):Int))== -1)=false:=by rw [beq_eq_false_iff_ne]; omega
    have e2:(((j:Nat):Int)== -1)=false:=by rw [beq_eq_false_iff_ne]; omega
    rw [e1,e2]
    simp only [Bool.false_eq_true,if_false,Int.toNat_natCast,Nat.add_zero,List.take_succ_cons,List.length_singleton]
    rw [show j+1+1=(j+1)+1 from rfl,List.drop_succ_cons]
theorem splitL_no (c:UInt8):∀p:List UInt8,c ∉ p→splitL c p=[p]
 | [],_=>rfl
 | b::l,h=>by
  rw [List.mem_cons,not_or] at h
  rw [splitL,if_neg (Ne.symm h.1),splitL_no c l h.2]
theorem splitL_app (c:UInt8) (r:List UInt8):∀p:List UInt8,c ∉ p→splitL c (p++c::r)=p::splitL c r
 | [],_=>by rw [List.nil_append,splitL,if_pos rfl]
 | b::l,h=>by
  rw [List.mem_cons,not_or] at h
  rw [List.cons_append,splitL,if_neg (Ne.symm h.1),splitL_app c r l h.2]
theorem joinTail_cons (sep:List UInt8) (y:List UInt8) (r:List (List UInt8)):joinTail sep (y::r)=sep++y++joinTail sep r:=by
 simp [joinTail]
theorem splitL_join (c:UInt8):∀(ws:List (List UInt8)) (x:List UInt8),c ∉ x→(∀w∈ws,c ∉ w)→splitL c (join (x::ws) [c])=x::ws
 | [],x,hx,_=>by rw [join_one,splitL_no c x hx]
 | y::ws,x,hx,h=>by
  rw [join_cons,joinTail_cons,List.append_assoc, ←join_cons,List.singleton_append,splitL_app c _ x hx,splitL_join c ws y (h y (by simp)) (fun w hw=>h w (by simp [hw]))]
def unl (c:UInt8) (ls:List (List UInt8)):List UInt8:=ls.flatMap fun l=>l++[c]
theorem unl_cons (c:UInt8) (l:List UInt8) (ls:List (List UInt8)):unl c (l::ls)=l++c::unl c ls:=by simp [unl]
theorem unl_split (c:UInt8):∀s:List UInt8,∃p,c ∉ p∧splitL c s=(splitL c s).dropLast++[p]∧s=unl c (splitL c s).dropLast++p
 | []=>⟨[],by simp,rfl,rfl⟩
 | b::l=>by
  obtain ⟨p,hp,h1,h2⟩:=unl_split c l
  by_cases h:b=c
  ·subst h
   refine ⟨p,hp,?_,?_⟩
   ·rw [splitL,if_pos rfl,List.dropLast_cons_of_ne_nil (splitL_ne b l),List.cons_append, ←h1]
   ·rw [splitL,if_pos rfl,List.dropLast_cons_of_ne_nil (splitL_ne b l),unl_cons,List.nil_append,List.cons_append, ←h2]
  ·rw [splitL,if_neg h]
   cases hs:splitL c l with
   | nil=>exact absurd hs (splitL_ne c l)
   | cons x xs=>
    rw [hs] at h1 h2
    simp only
    cases xs with
    | nil=>
     simp at h1 h2
     refine ⟨b::p,by simp [hp,Ne.symm h],?_,?_⟩
     ·simp [h1]
     ·rw [h2]; rfl
    | cons y ys=>
     rw [List.dropLast_cons_of_ne_nil (by simp)] at h1 h2
     refine ⟨p,hp,?_,?_⟩
     ·rw [List.dropLast_cons_of_ne_nil (by simp)]
      simp only [List.cons_append,List.cons.injEq] at h1 ⊢
      exact ⟨trivial,h1.2⟩
     ·rw [List.dropLast_cons_of_ne_nil (by simp),unl_cons]
      rw [unl_cons] at h2
      rw [h2]; simp
def wNom:List UInt8:=[110,111,109,105,110,97,116,101]
def wRead:List UInt8:=[114,101,97,100]
def wClose:List UInt8:=[99,108,111,115,101]
def evWord (k:Int):List UInt8:=if k=1 then wNom else if k=2 then wRead else wClose
def headL (e:Event):List UInt8:=evWord e.kind++32::join [itoa e.a,itoa e.b,itoa e.c,itoa e.d] [32]
def sumL (x:Int) (l:List UInt8):Int:=l.foldl (fun x c=>(257*x+(c.toNat:Int)+1) % 99991) x
def sumE (e:Event) (x:Int):Int:=sumL x (headL e)
def lineL (e:Event) (x:Int):List UInt8:=headL e++32::itoa (sumE e x)
theorem sumL_bound:∀(l:List UInt8) (x:Int),0≤x→x<99991→0≤sumL x l∧sumL x l<99991
 | [],_,h0,h1=>⟨h0,h1⟩
 | c::l,x,h0,h1=>sumL_bound l _ (Int.emod_nonneg _ (by omega)) (Int.emod_lt_of_pos _ (by omega))
theorem itoa_mem (n:Int):∀c∈itoa n,c.toNat=45∨48≤c.toNat∧c.toNat≤57:=by
 intro c hc
 unfold itoa at hc
 split at hc
 ·rcases List.mem_cons.1 hc with rfl | hc
  ·left; rfl
  ·exact .inr (decDigits_digit _ _ (Nat.lt_succ_self _) c hc)
 ·exact .inr (decDigits_digit _ _ (Nat.lt_succ_self _) c hc)
theorem itoa_no (n:Int) (c:UInt8) (h:c.toNat<45):c ∉ itoa n:=fun hc=>by have:=itoa_mem n c hc; omega
theorem evWord_no (k:Int) (c:UInt8) (h:c.toNat<45):c ∉ evWord k:=by
 intro hc
 have:∀c∈evWord k,45≤c.toNat:=by
  unfold evWord
  split
  ·decide
  ·split <;> decide
 have:=this c hc
 omega
theorem join_four (a b c d:List UInt8):join [a,b,c,d] [32]=a++32::(b++32::(c++32::d)):=by
 simp [join_cons,joinTail]
theorem lineL_join (e:Event) (x:Int):lineL e x=join [evWord e.kind,itoa e.a,itoa e.b,itoa e.c,itoa e.d,itoa (sumE e x)] [32]:=by
 simp [lineL,headL,join_cons,joinTail]
theorem lineL_split (e:Event) (x:Int):splitL 32 (lineL e x)=[evWord e.kind,itoa e.a,itoa e.b,itoa e.c,itoa e.d,itoa (sumE e x)]:=by
 rw [lineL_join]
 refine splitL_join 32 _ _ (evWord_no _ _ (by decide)) ?_
 intro w hw
 simp only [List.mem_cons,List.not_mem_nil,or_false] at hw
 rcases hw with rfl | rfl | rfl | rfl | rfl <;> exact itoa_no _ _ (by decide)
theorem lineL_no (e:Event) (x:Int):(10:UInt8) ∉ lineL e x:=by
 have h1:(10:UInt8) ∉ evWord e.kind:=evWord_no _ _ (by decide)
 have h2:∀n,(10:UInt8) ∉ itoa n:=fun n=>itoa_no n _ (by decide)
 simp only [lineL,headL,join_four,List.mem_append,List.mem_cons,not_or]
 simp [h1,h2]
def mkB (l:List UInt8):ByteArray:=⟨l.toArray⟩
theorem mkB_of (b:ByteArray):mkB b.data.toList=b:=rfl
theorem mkB_list (l:List UInt8):(mkB l).data.toList=l:=rfl
theorem mkB_append (a b:List UInt8):mkB a++mkB b=mkB (a++b):=by
 apply ByteArray.ext
 simp [mkB,ByteArray.data_append]
theorem mkB_size (l:List UInt8):(mkB l).size=l.length:=rfl
theorem splitB_mkB (c:UInt8) (l:List UInt8):splitB (mkB [c]) 0 (countB (mkB l) (mkB [c])) (mkB l)=(splitL c l).map mkB:=by
 have h:=splitB_data (mkB [c]) 0 (countB (mkB l) (mkB [c])) (mkB l)
 have hc:countB (mkB l) (mkB [c])=count l [c]:=rfl
 rw [hc,mkB_list,mkB_list,splitK_one] at h
 rw [hc, ←h,List.map_map]
 simp only [Function.comp_def,mkB_of,List.map_id']
theorem countB_mkB (c:UInt8) (l:List UInt8):countB (mkB l) (mkB [c])+1=(splitL c l).length:=by
 have h:=splitB_all (mkB [c]) (show 1≤1 by decide) 0 _ (mkB l) rfl
 rw [splitB_mkB] at h
 rw [←h,List.length_map]
def numP (w:List UInt8):Option Int:=match parseIntB 64 w with | .ok n=>if itoa n=w then some n else none | _=>none
theorem numP_itoa (n:Int) (h0: -1000000000≤n) (h1:n≤1000000000):numP (itoa n)=some n:=by
 simp [numP,parse_itoa n h0 h1]
def kindP (w:List UInt8):Int:=idxOfS [mkB [],mkB wNom,mkB wRead,mkB wClose] (mkB w)
theorem kindP_evWord (k:Int) (h:inB k 1 3=true):kindP (evWord k)=k:=by
 rw [inB_true] at h
 have:k=1∨k=2∨k=3:=by omega
 rcases this with rfl | rfl | rfl <;> decide
def noEv:Event:=⟨0,0,0,0,0⟩
def evOf (w:List UInt8):Option (List Int)→Event
 | some [a,b,c,d,_]=>⟨kindP w,a,b,c,d⟩
 | _=>noEv
def readP (line:List UInt8):Event:=match splitL 32 line with
 | w::ws=>evOf w (ws.mapM numP)
 | []=>noEv
theorem evB_bounds {e:Event} (h:evB e=true):inB e.kind 1 3=true∧(-30000≤e.a∧e.a≤30000)∧(-30000≤e.b∧e.b≤30000)∧(-30000≤e.c∧e.c≤30000)∧(-30000≤e.d∧e.d≤30000):=by
 simp only [evB,flowB,Bool.and_eq_true,inB_true] at h
 refine ⟨inB_true.2 h.1.1.1.1,h.1.1.1.2,h.1.1.2,h.1.2,h.2⟩
theorem readP_lineL (e:Event) (x:Int) (he:evB e=true) (h0:0≤x) (h1:x<99991):readP (lineL e x)=e:=by
 obtain ⟨hk,ha,hb,hc,hd⟩:=evB_bounds he
 have hs:=sumL_bound (headL e) x h0 h1
 unfold readP
 rw [lineL_split]
 simp only [List.mapM_cons,List.mapM_nil]
 rw [numP_itoa _ (by omega) (by omega),numP_itoa _ (by omega) (by omega),numP_itoa _ (by omega) (by omega),numP_itoa _ (by omega) (by omega),numP_itoa (sumE e x) (by unfold sumE; omega) (by unfold sumE; omega)]
 simp only [Option.bind_eq_bind,Option.bind_some,Option.pure_def,evOf,kindP_evWord _ hk]
def next (line:List UInt8) (x:Int):Option Event:=if evB (readP line)=true∧lineL (readP line) x=line then some (readP line) else none
theorem next_some {line:List UInt8} {x:Int} {e:Event} (h:next line x=some e):evB e=true∧lineL e x=line:=by
 unfold next at h
 split at h
 ·rename_i h2; obtain rfl:=Option.some.inj h; exact h2
 ·cases h
theorem next_line (e:Event) (x:Int) (he:evB e=true) (h0:0≤x) (h1:x<99991):next (lineL e x) x=some e:=by
 unfold next
 rw [readP_lineL e x he h0 h1,if_pos ⟨he,rfl⟩]
def recL:List (List UInt8)→Nat→Int→List Event
 | [],_,_=>[]
 | _::_,0,_=>[]
 | l::ls,k+1,x=>match next l x with | some e=>e::recL ls k (sumE e x) | none=>[]
def sumEs:List Event→Int→Int
 | [],x=>x
 | e::es,x=>sumEs es (sumE e x)
def textL:List Event→Int→List UInt8
 | [],_=>[]
 | e::es,x=>lineL e x++10::textL es (sumE e x)
theorem sumE_bound (e:Event) (x:Int) (h0:0≤x) (h1:x<99991):0≤sumE e x∧sumE e x<99991:=sumL_bound _ _ h0 h1
theorem sumEs_append:∀(es fs:List Event) (x:Int),sumEs (es++fs) x=sumEs fs (sumEs es x)
 | [],_,_=>rfl
 | _::es,fs,_=>sumEs_append es fs _
theorem textL_append:∀(es fs:List Event) (x:Int),textL (es++fs) x=textL es x++textL fs (sumEs es x)
 | [],_,_=>rfl
 | _::es,fs,_=>by simp [textL,sumEs,textL_append es fs]
theorem recL_valid:∀(ls:List (List UInt8)) (k:Nat) (x:Int),∀e∈recL ls k x,evB e=true
 | [],_,_=>by simp [recL]
 | _::_,0,_=>by simp [recL]
 | l::ls,k+1,_=>by
  unfold recL
  split
  ·rename_i e he
   intro f hf
   rcases List.mem_cons.1 hf with rfl | hf
   ·exact (next_some he).1
   ·exact recL_valid ls k _ f hf
  ·simp
theorem recL_len:∀(ls:List (List UInt8)) (k:Nat) (x:Int),(recL ls k x).length≤k
 | [],_,_=>by simp [recL]
 | _::_,0,_=>by simp [recL]
 | l::ls,k+1,x=>by
  unfold recL
  split
  ·rename_i e _; have:=recL_len ls k (sumE e x); simp; omega
  ·simp
theorem recL_text:∀(ls:List (List UInt8)) (k:Nat) (x:Int),∃rs,unl 10 ls=textL (recL ls k x) x++unl 10 rs
 | [],_,_=>⟨[],rfl⟩
 | l::ls,0,_=>⟨l::ls,by simp [recL,textL]⟩
 | l::ls,k+1,x=>by
  unfold recL
  split
  ·rename_i e he
   obtain ⟨rs,h⟩:=recL_text ls k (sumE e x)
   refine ⟨rs,?_⟩
   rw [unl_cons,h,textL,(next_some he).2]
   simp
  ·exact ⟨l::ls,by simp [textL]⟩
def maxEv:Nat:=300
def recS (s:List UInt8):List Event:=recL (splitL 10 s).dropLast maxEv 1
theorem recS_text (s:List UInt8):∃r,s=textL (recS s) 1++r:=by
 obtain ⟨p,_,_,h⟩:=unl_split 10 s
 obtain ⟨rs,h2⟩:=recL_text (splitL 10 s).dropLast maxEv 1
 refine ⟨unl 10 rs++p,?_⟩
 rw [h2,List.append_assoc] at h
 exact h
theorem recS_le (s:List UInt8):(textL (recS s) 1).length≤s.length:=by
 obtain ⟨r,h⟩:=recS_text s
 have:=congrArg List.length h
 rw [List.length_append] at this
 omega
end Go.Proofs.YtinindjjapblcaaGreatDoor
