/-
  Orders: validity, of the program and of the reference.
-/
import Derived.Test.YtfkpghdmljjegaaGreatVe17
import Derived.Test.YtfkpghdmljjegaaGreatVe06
import Derived.Test.YtfkpghdmljjegaaGreatVe08
import Derived.Test.YtfkpghdmljjegaaGreatVe28
import Derived.Test.YtfkpghdmljjegaaGreatVe07
import Derived.Test.YtfkpghdmljjegaaGreatVe26
import Derived.Test.YtfkpghdmljjegaaGreatVe20
namespace Go.Proofs.YtfkpghdmljjegaaGreat
open Go.RowKit
def orderB (nn:Int) (o:Order):Bool:=inB o.shipper 0 15&&inB o.node 0 (nn-1)&&inB o.amount (-30000) 30000&&inB o.cls 0 3
def ordersB (nn:Int) (os:List Order):Bool:=decide (os.length≤40)&&os.all (orderB nn)
def ordC (n1:Int) (ns:List Node) (ps:List Pipe) (os:List Order):Int:=if netB ns ps=true then (if ordersB n1 os=true then 0 else 3) else 1
theorem orders_no {nn:Int} {os:List Order} {k:Nat} {o:Order} (h:os[k]? =some o) (hb:orderB nn o=false):ordersB nn os=false:=by
 unfold ordersB
 have:os.all (orderB nn)=false:=by rw [List.all_eq_false]; exact ⟨o,List.mem_of_getElem? h,by simp [hb]⟩
 rw [this,Bool.and_false]
theorem orders_yes {nn:Int} {os:List Order} {n:Nat} (hn:n=os.length) (h40:n≤40) (h:∀(j:Nat) (o:Order),j<n→os[j]? =some o→orderB nn o=true):ordersB nn os=true:=by
 unfold ordersB
 rw [Bool.and_eq_true,decide_eq_true_eq,List.all_eq_true]
 refine ⟨by omega,fun o ho=> ?_⟩
 obtain ⟨j,hj⟩:=List.getElem?_of_mem ho
 exact h j o (by rw [hn]; exact (List.getElem?_eq_some_iff.1 hj).1) hj
theorem orders_long {nn:Int} {os:List Order} {n:Nat} (hn:n=os.length) (h:¬n≤40):ordersB nn os=false:=by
 unfold ordersB; rw [decide_eq_false (by omega)]; rfl
theorem ord_next {nn:Int} {os:List Order} {k:Nat} {o:Order} (h:∀(j:Nat) (o:Order),j<k→os[j]? =some o→orderB nn o=true) (hk:os[k]? =some o) (ho:orderB nn o=true):∀(j:Nat) (o:Order),j<k+1→os[j]? =some o→orderB nn o=true:=by
 intro j o' hj ho'
 rcases Nat.lt_or_ge j k with h1 | h1
 ·exact h j o' h1 ho'
 ·obtain rfl:j=k:=by omega
  rw [hk] at ho'
  obtain rfl:=Option.some.inj ho'
  exact ho
theorem c_l20Shipper (z:Int) (w:World):Calls Tryz.prog 286 #[.int .i64 z] w fun e w'=>e= .returned (.bool (inB z 0 15))∧w=w':=by
 go_enter Tryz.func286,Tryz.ntmps286
 go_wp2_with (go_at_call 169; refine (c_l01In _ _ _ _).mono ?_; rintro e w' ⟨rfl,rfl⟩)
 go_ret
 exact ⟨rfl,rfl⟩
set_option maxHeartbeats 4000000 in
theorem c_l22List (A1 A2:Option Addr) (n1 c1 n2 c2:Nat) (A:Option Addr) (n c:Nat) (os:List Order) (w:World) (hs:SliceOf w 4 Order.cells A n c os) (hm1:n1≤9223372036854775807):Calls Tryz.prog 247 #[.agg #[.slice A1 n1 c1,.slice A2 n2 c2],.slice A n c] w (Ret (.bool (ordersB n1 os)) w):=by
 have hm:=hs.max
 have hcap:=hs.cap
 have HL:=hide hs.len
 have hB:=Row.new w 45 [.slice A1 n1 c1,.slice A2 n2 c2]
 have hx0:Ext w (w.alloc (.cells #[.slice A1 n1 c1,.slice A2 n2 c2] 45)):=Ext.alloc _ _
 by_cases h40:n≤40
 case neg=>
  have HR:=hide (orders_long (nn:=n1) HL.out h40)
  have h40':(40:Int)<n:=by omega
  go_enter Tryz.func247,Tryz.ntmps247
  go_wp2_with fail
  go_ret
  exact Ret.bool HR.out hx0
 have HRy:=hide (show (∀(j:Nat) (o:Order),j<n→os[j]? =some o→orderB n1 o=true)→ordersB n1 os=true from fun h=>orders_yes HL.out h40 h)
 have HRn:=hide (show ∀(k:Nat) (o:Order),os[k]? =some o→orderB n1 o=false→ordersB n1 os=false from fun k o h1 h2=>orders_no h1 h2)
 generalize ordersB n1 os=Z at *
 go_enter Tryz.func247,Tryz.ntmps247
 go_wp2_with fail
 go_loopw [5] (fun i wr=>∃k:Nat,k≤n∧i= .int .i64 k∧Hid (∀(j:Nat) (o:Order),j<k→os[j]? =some o→orderB n1 o=true)∧Ext (w.alloc (.cells #[.slice A1 n1 c1,.slice A2 n2 c2] 45)) wr) (fun i _=>n-(intOf i).toNat)
 case atStart=>exact ⟨0,Nat.zero_le _,rfl,hide (fun j o hj=>absurd hj (by omega)),Ext.refl _⟩
 case round=>
  obtain ⟨k,hk,rfl,HK,hx⟩:=hrel
  have hX:=hx0.trans hx
  by_cases hlt:k<n
  ·obtain ⟨b,off,o,rfl,hbb,hok,hc⟩:=(hs.ext hX).get hlt
   have j0:=hc 0 _ rfl
   have j1:=hc 1 _ rfl
   have j2:=hc 2 _ rfl
   have j3:=hc 3 _ rfl
   simp only [Nat.add_zero] at j0
   have HOK:=hide hok
   clear hc hok
   have hO:=Row.new wr 199 o.cells
   have hxo:Ext wr (wr.alloc (.cells o.cells.toArray 199)):=Ext.alloc _ _
   obtain ⟨W1,HW1⟩:∃W1,Hid (wr.alloc (.cells #[.int .i64 o.shipper,.int .i64 o.node,.int .i64 o.amount,.int .i64 o.cls] 199)=W1):=⟨_,hide rfl⟩
   have hO:Row W1 wr.heap.size 199 o.cells:=by rw [←HW1.out]; exact hO
   have hxo:Ext wr W1:=by rw [←HW1.out]; exact hxo
   have o0:=(hO).cell 0
   have o1:=(hO).cell 1
   have o2:=(hO).cell 2
   have o3:=(hO).cell 3
   simp [Order.cells] at o0 o1 o2 o3
   have ol:=(hO).lt
   have b0:=(hB.ext (hx.trans hxo)).cell 0
   have b1:=(hB.ext (hx.trans hxo)).cell 1
   simp at b0 b1
   have bl:=(hB.ext (hx.trans hxo)).lt
   go_wp2_with fail
   rw [HW1.out]
   refine (c_l20Shipper _ _).mono ?_
   rintro e w' ⟨rfl,rfl⟩
   cases g1:inB o.shipper 0 15
   ·have HB:=hide (HRn.out _ _ HOK.out (by simp [orderB, *]))
    go_wp2_with fail
    go_ret
    exact Ret.bool HB.out (hX.trans hxo)
   go_wp2_with fail
   refine (c_l02Node A1 A2 n1 c1 n2 c2 o.node _ (by omega)).mono ?_
   rintro e w2 ⟨rfl,hx2⟩
   have hO2:=hO.ext hx2
   clear o0 o1 o2 o3 ol b0 b1 bl hO
   have o0:=(hO2).cell 0
   have o1:=(hO2).cell 1
   have o2:=(hO2).cell 2
   have o3:=(hO2).cell 3
   simp [Order.cells] at o0 o1 o2 o3
   have ol:=(hO2).lt
   have hX2:=(hX.trans hxo).trans hx2
   cases g2:inB o.node 0 ((n1:Int)-1)
   ·have HB:=hide (HRn.out _ _ HOK.out (by simp [orderB, *]))
    go_wp2_with fail
    go_ret
    exact Ret.bool HB.out hX2
   cases g3:inB o.amount (-30000) 30000
   ·have HB:=hide (HRn.out _ _ HOK.out (by simp [orderB, *]))
    go_wp2_with (first | (go_at_call 169; refine (c_l01In _ _ _ _).mono ?_; rintro e w' ⟨rfl,rfl⟩) | (go_at_call 206; refine (c_l05Flow _ _).mono ?_; rintro e w' ⟨rfl,rfl⟩))
    go_ret
    exact Ret.bool HB.out hX2
   cases g4:inB o.cls 0 3
   ·have HB:=hide (HRn.out _ _ HOK.out (by simp [orderB, *]))
    go_wp2_with (first | (go_at_call 169; refine (c_l01In _ _ _ _).mono ?_; rintro e w' ⟨rfl,rfl⟩) | (go_at_call 206; refine (c_l05Flow _ _).mono ?_; rintro e w' ⟨rfl,rfl⟩))
    go_ret
    exact Ret.bool HB.out hX2
   ·have HKN:=hide (ord_next HK.out HOK.out (by simp [orderB, *]))
    go_wp2_with (first | (go_at_call 169; refine (c_l01In _ _ _ _).mono ?_; rintro e w' ⟨rfl,rfl⟩) | (go_at_call 206; refine (c_l05Flow _ _).mono ?_; rintro e w' ⟨rfl,rfl⟩))
    go_roundw
    case rel=>exact ⟨k+1,by omega,by go_num,HKN,hx.trans (hxo.trans hx2)⟩
    case measure=>simp [intOf]; omega
  ·obtain rfl:n=k:=by omega
   have HR:=hide (HRy.out HK.out)
   go_wp2_with fail
   go_ret
   exact Ret.bool HR.out hX
set_option maxHeartbeats 1000000 in
theorem c_l22Code (A1 A2:Option Addr) (n1 c1 n2 c2:Nat) (ns:List Node) (ps:List Pipe) (A:Option Addr) (n c:Nat) (os:List Order) (w:World) (hs1:SliceOf w 3 Node.cells A1 n1 c1 ns) (hs2:SliceOf w 5 Pipe.cells A2 n2 c2 ps) (hs:SliceOf w 4 Order.cells A n c os) (hnm:∀x∈ns,x.name.size≤1048576):Calls Tryz.prog 195 #[.agg #[.slice A1 n1 c1,.slice A2 n2 c2],.slice A n c] w (Ret (.int .i64 (ordC n1 ns ps os)) w):=by
 have hm1:=hs1.max
 have hp1:=hs1.cap
 have hB:=Row.new w 45 [.slice A1 n1 c1,.slice A2 n2 c2]
 have hx0:Ext w (w.alloc (.cells #[.slice A1 n1 c1,.slice A2 n2 c2] 45)):=Ext.alloc _ _
 have HNM:=hide hnm
 clear hnm
 cases hN:netB ns ps
 ·have HR:=hide (show ordC n1 ns ps os=1 by unfold ordC; rw [hN]; rfl)
  go_enter Tryz.func195,Tryz.ntmps195
  go_wp2_with fail
  refine (c_specIsNetwork A1 A2 n1 c1 n2 c2 ns ps _ (hs1.ext hx0) (hs2.ext hx0) HNM.out).mono ?_
  rw [hN]
  rintro e w1 ⟨rfl,hx1⟩
  go_wp2_with fail
  go_ret
  exact Ret.int HR.out (hx0.trans hx1)
 have HRy:=hide (show ordersB n1 os=true→ordC n1 ns ps os=0 by intro h; unfold ordC; rw [hN,h]; rfl)
 have HRn:=hide (show ordersB n1 os=false→ordC n1 ns ps os=3 by intro h; unfold ordC; rw [hN,h]; rfl)
 generalize ordC n1 ns ps os=Z at *
 go_enter Tryz.func195,Tryz.ntmps195
 go_wp2_with fail
 refine (c_specIsNetwork A1 A2 n1 c1 n2 c2 ns ps _ (hs1.ext hx0) (hs2.ext hx0) HNM.out).mono ?_
 rw [hN]
 rintro e w1 ⟨rfl,hx1⟩
 have b0:=(hB.ext hx1).cell 0
 have b1:=(hB.ext hx1).cell 1
 simp at b0 b1
 have bl:=(hB.ext hx1).lt
 go_wp2_with fail
 refine (c_l22List A1 A2 n1 c1 n2 c2 A n c os _ (hs.ext (hx0.trans hx1)) (by omega)).mono ?_
 cases ho:ordersB n1 os
 ·have HR:=hide (HRn.out ho)
  rintro e w2 ⟨rfl,hx2⟩
  go_wp2_with fail
  go_ret
  exact Ret.int HR.out (hx0.trans (hx1.trans hx2))
 ·have HR:=hide (HRy.out ho)
  rintro e w2 ⟨rfl,hx2⟩
  go_wp2_with fail
  go_ret
  exact Ret.int HR.out (hx0.trans (hx1.trans hx2))
end Go.Proofs.YtfkpghdmljjegaaGreat
namespace Go.Proofs.YtfkpghdmljjegaaGreat
open Go.RowKit
theorem ordC_ok {n1:Int} {ns:List Node} {ps:List Pipe} {os:List Order} (h:ordC n1 ns ps os=0):netB ns ps=true∧ordersB n1 os=true:=by
 unfold ordC at h
 split at h
 ·rename_i h1
  refine ⟨h1,?_⟩
  split at h
  ·assumption
  ·cases h
 ·cases h
end Go.Proofs.YtfkpghdmljjegaaGreat
namespace Go.Proofs.YtfkpghdmljjegaaGreat
open Go.RowKit
theorem new_rd (W:World) (x:Reading) {g:Nat} (hg:g=W.heap.size):SliceOf (W.alloc (.cells #[.int .i64 x.node,.int .i64 x.amount] 176)) 2 Reading.cells (some ⟨g,0,none⟩) 1 1 [x]:=by
 subst hg; exact new_one reading_len W 176 x
def rdAt (os:List Order) (i:Nat) (s:Int):Int:=sumZ (wts os ⟨i,s⟩)
def stepR (os:List Order) (i:Nat) (s:Int) (r:List Reading):List Reading:=if 0<rdAt os i s then r++[⟨i,s*rdAt os i s⟩] else r
def rfR (os:List Order):Nat→Option (List Reading)
 | 0=>some []
 | k+1=>match rfR os k with
  | none=>none
  | some r=>if 30000<rdAt os k 1 then none else if 30000<rdAt os k (-1) then none else some (stepR os k (-1) (stepR os k 1 r))
def rfV (n1:Nat) (ns:List Node) (ps:List Pipe) (os:List Order):List Reading×Int:=
 if ordC n1 ns ps os=0 then (match rfR os n1 with | some r=>(r,0) | none=>([],7)) else ([],ordC n1 ns ps os)
theorem rfR_none {os:List Order} {k m:Nat} (h:rfR os k=none) (hm:k≤m):rfR os m=none:=by
 induction m with
 | zero=>
      obtain rfl:k=0:=by omega
      exact h
 | succ m ih=>
  rcases Nat.lt_or_ge k (m+1) with h1 | h1
  ·simp only [rfR,ih (by omega)]
  ·obtain rfl:k=m+1:=by omega
   exact h
theorem rfV_bad {n1:Nat} {ns:List Node} {ps:List Pipe} {os:List Order} {k:Nat} (hc:ordC n1 ns ps os=0) (h:rfR os (k+1)=none) (hk:k<n1):rfV n1 ns ps os=([],7):=by
 unfold rfV
 rw [if_pos hc,rfR_none h (by omega)]
theorem rfV_good {n1:Nat} {ns:List Node} {ps:List Pipe} {os:List Order} {r:List Reading} (hc:ordC n1 ns ps os=0) (h:rfR os n1=some r):rfV n1 ns ps os=(r,0):=by
 unfold rfV
 rw [if_pos hc,h]
theorem stepR_len (os:List Order) (i:Nat) (s:Int) (r:List Reading):(stepR os i s r).length≤r.length+1:=by
 unfold stepR; split <;> simp
theorem rfR_len {os:List Order}:∀ {k:Nat} {r:List Reading},rfR os k=some r→r.length≤2*k
 | 0,r,h=>by simp [rfR] at h; subst h; simp
 | k+1,r,h=>by
  simp only [rfR] at h
  cases hk:rfR os k with
  | none=>rw [hk] at h; cases h
  | some q=>
   rw [hk] at h
   simp only at h
   split at h
   ·cases h
   ·split at h
    ·cases h
    ·obtain rfl:=Option.some.inj h
     have:=rfR_len hk
     have:=stepR_len os k 1 q
     have:=stepR_len os k (-1) (stepR os k 1 q)
     omega
def RetRZ (p:List Reading×Int) (w:World) (e:Ending) (w':World):Prop:=
 ∃v l z,e= .returned (.tuple #[v,.int .i64 z])∧OwnL w' w.heap.size 176 2 Reading.cells v l∧Ext w w'∧Hid ((l,z)=p)
theorem reading_one' (y:Reading):∀u∈y.cells,u.oneCell'=true:=by intro u hu; simp [Reading.cells] at hu; rcases hu with rfl | rfl <;> rfl
def StR (os:List Order) (k:Nat) (r:List Reading) (v:Value) (q:List Reading):Prop:=
 (v= .int .i64 1∧q=r)∨(v= .int .i64 (-1)∧q=stepR os k 1 r∧¬30000<rdAt os k 1)∨(v= .int .i64 (-3)∧rfR os (k+1)=some q)
theorem rd_bd {os:List Order} (h:Amt os) (hl:os.length≤40) (k:Nat) (s:Int):0≤rdAt os k s∧rdAt os k s≤1200000:=by
 have hb:∀z∈wts os ⟨k,s⟩,0≤z∧z≤30000:=fun z hz=>by
  obtain ⟨o,ho,rfl⟩:=List.mem_map.1 hz
  exact wt_bd (h o ho)
 have h1:=sumZ_le (M:=30000) (fun z hz=>(hb z hz).2)
 have h2:(wts os ⟨k,s⟩).length=os.length:=by simp [wts]
 refine ⟨sumZ_nonneg (fun z hz=>(hb z hz).1),?_⟩
 unfold rdAt
 omega
set_option maxHeartbeats 2000000 in
theorem c_specReadingsFor (A1 A2:Option Addr) (n1 c1 n2 c2:Nat) (ns:List Node) (ps:List Pipe) (A:Option Addr) (n c:Nat) (os:List Order) (w:World) (hs1:SliceOf w 3 Node.cells A1 n1 c1 ns) (hs2:SliceOf w 5 Pipe.cells A2 n2 c2 ps) (hs:SliceOf w 4 Order.cells A n c os) (hnm:∀x∈ns,x.name.size≤1048576):Calls Tryz.prog 122 #[.agg #[.slice A1 n1 c1,.slice A2 n2 c2],.slice A n c] w (RetRZ (rfV n1 ns ps os) w):=by
 have hm1:=hs1.max
 have hp1:=hs1.cap
 have hB:=Row.new w 45 [.slice A1 n1 c1,.slice A2 n2 c2]
 have hx0:Ext w (w.alloc (.cells #[.slice A1 n1 c1,.slice A2 n2 c2] 45)):=Ext.alloc _ _
 have HNM:=hide hnm
 clear hnm
 by_cases hC:ordC n1 ns ps os=0
 ·have HC:=hide hC
  obtain ⟨hnet,hob⟩:=ordC_ok hC
  unfold ordersB at hob
  rw [Bool.and_eq_true,decide_eq_true_eq,List.all_eq_true] at hob
  have HAM:=hide (show Amt os from fun o ho=>by have:=hob.2 o ho; simp only [orderB,Bool.and_eq_true,inB_true] at this; exact this.1.2)
  have hn40:n≤40:=by rw [hs.len]; exact hob.1
  have HL40:=hide hob.1
  have hn24:n1≤24:=by rw [hs1.len]; simp only [netB,Bool.and_eq_true,decide_eq_true_eq] at hnet; exact hnet.1.1.1.2
  clear hnet
  have HLN:=hide hs.len
  clear hob hC
  go_enter Tryz.func122,Tryz.ntmps122
  go_wp2_with fail
  refine (c_l22Code A1 A2 n1 c1 n2 c2 ns ps A n c os _ (hs1.ext hx0) (hs2.ext hx0) (hs.ext hx0) HNM.out).mono ?_
  rw [HC.out]
  rintro e w1 ⟨rfl,hx1⟩
  have hX1:NetBox w A1 A2 n1 c1 n2 c2 (w1.alloc (.cells #[] 176)):=⟨hx1.and_alloc _⟩
  have hO0:OwnL (w1.alloc (.cells #[] 176)) (w.heap.size+1) 176 2 Reading.cells (.slice (some ⟨w1.heap.size,0,none⟩) 0 0) []:=own_new _ _ _ _ _ _ rfl (by have:=hx1.size; simp at this; omega)
  clear hx1
  go_wp2_with fail
  go_loopw [7,8] (fun u i wr=>∃(k:Nat) (r:List Reading),k≤n1∧i= .int .i64 k∧OwnL wr (w.heap.size+1) 176 2 Reading.cells u r∧NetBox w A1 A2 n1 c1 n2 c2 wr∧Hid (rfR os k=some r)) (fun _ i _=>n1-(intOf i).toNat)
  case atStart=>exact ⟨0,[],Nat.zero_le _,rfl,hO0,hX1,hide rfl⟩
  case round=>
   clear hX1 hO0
   obtain ⟨k,r,hk,rfl,hown,hX,HR⟩:=hrel
   obtain ⟨x0,x1,hz⟩:=hX.cell
   by_cases hlt:k<n1
   ·go_wp2_with fail
    go_loopw [7,9] (fun u v wr=>∃q,OwnL wr (w.heap.size+1) 176 2 Reading.cells u q∧NetBox w A1 A2 n1 c1 n2 c2 wr∧Hid (StR os k r v q)) (fun _ v _=>(intOf v+3).toNat)
    case atStart=>exact ⟨r,hown,hX,hide (.inl ⟨rfl,rfl⟩)⟩
    case round=>
     clear hown hX x0 x1 hz
     obtain ⟨q,hown,hX,HST⟩:=hrel
     obtain ⟨x0,x1,hz⟩:=hX.cell
     have HLL:=hide (show q.length≤1000000 by
      have h0:=rfR_len HR.out
      rcases HST.out with ⟨_,h⟩ | ⟨_,h,_⟩ | ⟨_,h⟩
      ·rw [h]; omega
      ·rw [h]; have:=stepR_len os k 1 r; omega
      ·have:=rfR_len h; omega)
     rcases HST.out with ⟨rfl,hq⟩ | ⟨rfl,hq,hb1⟩ | ⟨rfl,hq⟩
     ·have HQ:=hide hq
      clear hq
      go_wp2_with fail
      refine (c_l28Weights A n c os ⟨k,1⟩ _ (hs.ext hX.ext.box) (by omega) HAM.out).mono ?_
      rintro e w2 ⟨v9,ws,rfl,ho9,hwse,hx2⟩
      obtain ⟨A9,c9,rfl,hs9⟩:=ho9.sl intC_len (by omega)
      have hwb:∀z∈ws,0≤z∧z≤30000:=fun z hz=>by
       rw [hwse.out] at hz
       obtain ⟨o,ho,rfl⟩:=List.mem_map.1 hz
       exact wt_bd (HAM.out o ho)
      have hwl:ws.length=n:=by rw [hwse.out,wts,List.length_map, ←HLN.out]
      have hallB:allB ws (-1000000000) 1000000000=true:=List.all_eq_true.2 (fun z hz=>inB_true.2 (by have:=hwb z hz; omega))
      have hmb:=rd_bd HAM.out HL40.out k (1)
      obtain ⟨m,hm⟩:∃m,rdAt os k (1)=m:=⟨_,rfl⟩
      have HMS:=hide (show sumZ ws=m by rw [←hm,hwse.out]; rfl)
      have HM:=hide hm
      rw [hm] at hmb
      rw [hwl] at hs9
      have hX2:NetBox w A1 A2 n1 c1 n2 c2 w2:=⟨hX.ext.trans hx2⟩
      have ho2:=hown.ext hx2
      clear hm hwb ho9 hown x0 x1
      go_wp2_with fail
      refine (c_l01Sum A9 n c9 ws _ hs9 hallB (by omega)).mono ?_
      rw [sumI_eq,HMS.out]
      rintro e w' ⟨rfl,rfl⟩
      clear hs9 hallB hx2
      by_cases hbg:30000<m
      ·have hbig:30000<m:=by omega
       have HBR:=hide (show rfR os (k+1)=none by simp only [rfR,HR.out]; rw [HM.out,if_pos hbig])
       go_wp2_with fail
       go_ret2
       exact ⟨_,[],7,rfl,OwnL.nil_ _ _ _ _ _,hX2.ext.box,hide (rfV_bad HC.out HBR.out hlt).symm⟩
      ·by_cases hps:0<m
       ·have e1:IntKind.i64.wrap ((1)*m)=m:=by rw [show (1)*m=m by omega]; exact IntWalk.i64_in _ (by omega)
        go_wp2_with (at_builtin; go_must (refine wpList_append_where rfl _ _ 60 rfl (w.heap.size+1) 176 _ 2 16 Tryz.underlying60 reading_info rfl (by decide) Reading.cells reading_len reading_one' _ (q) rfl (ho2.ext (Ext.alloc _ _)) w2.heap.size 0 1 1 [⟨k,m⟩] rfl (new_rd w2 ⟨k,m⟩ rfl) (by have:=HLL.out; omega) (by omega) (by have:=hX2.ext.size; simp at this ⊢; omega) ?_))
        intro v4 w4 ho4 hg4 _
        have hX4:NetBox w A1 A2 n1 c1 n2 c2 w4:=⟨(hX2.ext.and_alloc (.cells #[.int .i64 (k:Int),.int .i64 (m)] 176)).grown hg4 (fun z hz=>by have:=ho2.block_le hz; simp; omega)⟩
        have HS:=hide (show stepR os k (1) q=q++[⟨k,m⟩] by unfold stepR; rw [HM.out,if_pos hps,show (1)*m=m by omega])
        rw [←HS.out] at ho4
        clear ho2 hg4
        go_wp2_with fail
        go_roundw
        case rel=>exact ⟨_,ho4,hX4,hide (.inr (.inl ⟨rfl,by rw [HQ.out],by rw [HM.out]; omega⟩))⟩
        case measure=>simp [intOf]
       ·have HS:=hide (show stepR os k (1) q=q by unfold stepR; rw [HM.out,if_neg hps])
        rw [←HS.out] at ho2
        go_wp2_with fail
        go_roundw
        case rel=>exact ⟨_,ho2,hX2,hide (.inr (.inl ⟨rfl,by rw [HQ.out],by rw [HM.out]; omega⟩))⟩
        case measure=>simp [intOf]
     ·have HQ:=hide hq
      have HB1:=hide hb1
      clear hq hb1
      go_wp2_with fail
      refine (c_l28Weights A n c os ⟨k,-1⟩ _ (hs.ext hX.ext.box) (by omega) HAM.out).mono ?_
      rintro e w2 ⟨v9,ws,rfl,ho9,hwse,hx2⟩
      obtain ⟨A9,c9,rfl,hs9⟩:=ho9.sl intC_len (by omega)
      have hwb:∀z∈ws,0≤z∧z≤30000:=fun z hz=>by
       rw [hwse.out] at hz
       obtain ⟨o,ho,rfl⟩:=List.mem_map.1 hz
       exact wt_bd (HAM.out o ho)
      have hwl:ws.length=n:=by rw [hwse.out,wts,List.length_map, ←HLN.out]
      have hallB:allB ws (-1000000000) 1000000000=true:=List.all_eq_true.2 (fun z hz=>inB_true.2 (by have:=hwb z hz; omega))
      have hmb:=rd_bd HAM.out HL40.out k (-1)
      obtain ⟨m,hm⟩:∃m,rdAt os k (-1)=m:=⟨_,rfl⟩
      have HMS:=hide (show sumZ ws=m by rw [←hm,hwse.out]; rfl)
      have HM:=hide hm
      rw [hm] at hmb
      rw [hwl] at hs9
      have hX2:NetBox w A1 A2 n1 c1 n2 c2 w2:=⟨hX.ext.trans hx2⟩
      have ho2:=hown.ext hx2
      clear hm hwb ho9 hown x0 x1
      go_wp2_with fail
      refine (c_l01Sum A9 n c9 ws _ hs9 hallB (by omega)).mono ?_
      rw [sumI_eq,HMS.out]
      rintro e w' ⟨rfl,rfl⟩
      clear hs9 hallB hx2
      by_cases hbg:30000<m
      ·have hbig:30000<m:=by omega
       have HBR:=hide (show rfR os (k+1)=none by simp only [rfR,HR.out]; rw [if_neg (show ¬30000<rdAt os k 1 from by have:=HB1.out; omega),HM.out,if_pos hbig])
       go_wp2_with fail
       go_ret2
       exact ⟨_,[],7,rfl,OwnL.nil_ _ _ _ _ _,hX2.ext.box,hide (rfV_bad HC.out HBR.out hlt).symm⟩
      ·by_cases hps:0<m
       ·have e1:IntKind.i64.wrap ((-1)*m)= -m:=by rw [show (-1)*m= -m by omega]; exact IntWalk.i64_in _ (by omega)
        go_wp2_with (at_builtin; go_must (refine wpList_append_where rfl _ _ 60 rfl (w.heap.size+1) 176 _ 2 16 Tryz.underlying60 reading_info rfl (by decide) Reading.cells reading_len reading_one' _ (q) rfl (ho2.ext (Ext.alloc _ _)) w2.heap.size 0 1 1 [⟨k,-m⟩] rfl (new_rd w2 ⟨k,-m⟩ rfl) (by have:=HLL.out; omega) (by omega) (by have:=hX2.ext.size; simp at this ⊢; omega) ?_))
        intro v4 w4 ho4 hg4 _
        have hX4:NetBox w A1 A2 n1 c1 n2 c2 w4:=⟨(hX2.ext.and_alloc (.cells #[.int .i64 (k:Int),.int .i64 (-m)] 176)).grown hg4 (fun z hz=>by have:=ho2.block_le hz; simp; omega)⟩
        have HS:=hide (show stepR os k (-1) q=q++[⟨k,-m⟩] by unfold stepR; rw [HM.out,if_pos hps,show (-1)*m= -m by omega])
        rw [←HS.out] at ho4
        clear ho2 hg4
        go_wp2_with fail
        go_roundw
        case rel=>exact ⟨_,ho4,hX4,hide (.inr (.inr ⟨rfl,by simp only [rfR,HR.out]; rw [if_neg (show ¬30000<rdAt os k 1 from by have:=HB1.out; omega),HM.out,if_neg (show ¬30000<m from by omega),HQ.out]⟩))⟩
        case measure=>simp [intOf]
       ·have HS:=hide (show stepR os k (-1) q=q by unfold stepR; rw [HM.out,if_neg hps])
        rw [←HS.out] at ho2
        go_wp2_with fail
        go_roundw
        case rel=>exact ⟨_,ho2,hX2,hide (.inr (.inr ⟨rfl,by simp only [rfR,HR.out]; rw [if_neg (show ¬30000<rdAt os k 1 from by have:=HB1.out; omega),HM.out,if_neg (show ¬30000<m from by omega),HQ.out]⟩))⟩
        case measure=>simp [intOf]
     ·have HQ:=hide hq
      clear hq
      go_wp2_with fail
      case roundEnd=>
       refine ⟨⟨k+1,q,by omega,by go_num,hown,hX,HQ⟩,?_⟩
       simp [intOf]; omega
   ·obtain rfl:n1=k:=by omega
    go_wp2_with fail
    go_ret2
    exact ⟨_,r,0,rfl,hown.lowG (by omega),hX.ext.box,hide (rfV_good HC.out HR.out).symm⟩
 ·have HR:=hide (show rfV n1 ns ps os=([],ordC n1 ns ps os) by unfold rfV; rw [if_neg hC])
  have hb:(ordC n1 ns ps os==0)=false:=by rw [beq_eq_false_iff_ne]; exact hC
  clear hC
  go_enter Tryz.func122,Tryz.ntmps122
  go_wp2_with fail
  refine (c_l22Code A1 A2 n1 c1 n2 c2 ns ps A n c os _ (hs1.ext hx0) (hs2.ext hx0) (hs.ext hx0) HNM.out).mono ?_
  generalize ordC n1 ns ps os=Z at *
  rintro e w1 ⟨rfl,hx1⟩
  go_wp2_with fail
  go_ret2
  exact ⟨_,[],Z,rfl,OwnL.nil_ _ _ _ _ _,hx0.trans hx1,hide HR.out.symm⟩
end Go.Proofs.YtfkpghdmljjegaaGreat
namespace Go.Proofs.YtfkpghdmljjegaaGreat
open Go.RowKit
def setC (n1:Int) (ns:List Node) (ps:List Pipe) (xs:List Contract) (L:List Nomination) (h:Int):Int:=
 if nomC n1 ns ps xs L=0 then (if inB h 0 47=false then 2 else if 20<xs.length then 7 else 0) else nomC n1 ns ps xs L
structure HrOk (n1:Nat) (ns:List Node) (ps:List Pipe) (xs:List Contract) (L:List Nomination) (h:Int):Prop where
 net:netB ns ps=true
 bk:bookB n1 xs=true
 nm:nomsB xs L=true
 hr:inB h 0 47=true
 le:xs.length≤20
theorem nomC_ok3 {n1:Int} {ns:List Node} {ps:List Pipe} {xs:List Contract} {L:List Nomination} (h:nomC n1 ns ps xs L=0):netB ns ps=true∧bookB n1 xs=true∧nomsB xs L=true:=by
 unfold nomC at h
 split at h
 ·rename_i h0
  obtain ⟨h1,h2⟩:=book_zero h0
  split at h
  ·cases h
  ·exact ⟨h1,h2,by simp_all⟩
 ·exact absurd h (by assumption)
theorem setC_ok {n1:Nat} {ns:List Node} {ps:List Pipe} {xs:List Contract} {L:List Nomination} {h:Int} (hz:setC n1 ns ps xs L h=0):HrOk n1 ns ps xs L h:=by
 unfold setC at hz
 split at hz
 ·rename_i h0
  obtain ⟨a,b,c⟩:=nomC_ok3 h0
  split at hz
  ·cases hz
  ·split at hz
   ·cases hz
   ·exact ⟨a,b,c,by simp_all,by omega⟩
 ·exact absurd hz (by assumption)
theorem con_facts {nn:Int} {xs:List Contract} (h:bookB nn xs=true):∀x∈xs,(0≤x.shipper∧x.shipper≤15)∧(0≤x.entry∧x.entry<nn)∧(0≤x.exit∧x.exit<nn)∧x.entry≠x.exit∧(1≤x.amount∧x.amount≤30000)∧(0≤x.cls∧x.cls≤3):=by
 intro x hx
 simp only [bookB,Bool.and_eq_true,List.all_eq_true] at h
 have:=h.2 x hx
 simp only [conB,Bool.and_eq_true,inB_true,bne_iff_ne,ne_eq,decide_eq_true_eq] at this
 omega
theorem nom_facts {nn:Int} {xs:List Contract} {L:List Nomination} (hb:bookB nn xs=true) (h:nomsB xs L=true):L.length≤200∧∀x∈L,(0≤x.contract∧x.contract<xs.length)∧(0≤x.amount∧x.amount≤30000):=by
 simp only [nomsB,Bool.and_eq_true,decide_eq_true_eq,List.all_eq_true] at h
 refine ⟨h.1,fun x hx=> ?_⟩
 obtain ⟨k,hk,rfl⟩:=List.mem_iff_getElem.1 hx
 have h1:=h.2 k (by simpa using hk)
 rw [nomOk_at (List.getElem?_eq_getElem hk),Bool.and_eq_true] at h1
 have h2:=h1.1
 unfold nomB at h2
 split at h2
 ·rename_i p hp
  have hpc:=(con_facts hb p (List.mem_of_getElem? hp)).2.2.2.2.1
  simp only [Bool.and_eq_true,inB_true] at h2
  omega
 ·cases h2
section
variable {n1:Nat} {xs:List Contract} {L:List Nomination}
theorem trn_ok (hb:bookB n1 xs=true) (hn:nomsB xs L=true) (h:Int):∀x∈trnL xs L h,TrnB n1 30000 x:=by
 intro x hx
 have ha:=amtL_in (nb:=xs.length) (h:=h) (fun y hy=>((nom_facts hb hn).2 y hy).2)
 obtain ⟨k,hk,rfl⟩:=List.mem_iff_getElem.1 hx
 unfold trnL at hk ⊢
 rw [List.length_zipWith] at hk
 rw [List.getElem_zipWith]
 have h1:=con_facts hb (xs[k]'(by omega)) (List.getElem_mem _)
 have h2:=ha ((amtL xs.length L h)[k]'(by omega)) (List.getElem_mem _)
 unfold trnOf
 exact ⟨h1.2.1,h1.2.2.1,h2,⟨h1.2.2.2.2.2.1,by have:=h1.2.2.2.2.2.2; show (xs[k]'(by omega)).cls<4; omega⟩⟩
end
noncomputable def lessT (ps:List Pipe) (N:Nat) (xs:List Contract) (L:List Nomination) (h:Int):List Trn:=(trnL xs L h).map (scaleT (scalesF (fitS ps N (trnL xs L h))))
noncomputable def hrSc (ps:List Pipe) (N:Nat) (xs:List Contract) (L:List Nomination) (h:Int):List Int:=scalesF (fitS ps N (trnL xs L h))
theorem less_sc (ps:List Pipe) (N:Nat) (xs:List Contract) (L:List Nomination) (h:Int):lessT ps N xs L h=(trnL xs L h).map (scaleT (hrSc ps N xs L h)):=rfl
theorem hrSc_in (ps:List Pipe) (N:Nat) (xs:List Contract) (L:List Nomination) (h:Int):ScaleIn (hrSc ps N xs L h):=scK_in _ 4
theorem hrSc_len (ps:List Pipe) (N:Nat) (xs:List Contract) (L:List Nomination) (h:Int):(hrSc ps N xs L h).length=4:=(hrSc_in ps N xs L h).1
theorem lessT_len (ps:List Pipe) (N:Nat) (xs:List Contract) (L:List Nomination) (h:Int):(lessT ps N xs L h).length=xs.length:=by
 unfold lessT; rw [List.length_map,trnL_len]
theorem less_ok {n1:Nat} {ps:List Pipe} {xs:List Contract} {L:List Nomination} (hb:bookB n1 xs=true) (hn:nomsB xs L=true) (h:Int):∀x∈lessT ps n1 xs L h,TrnB n1 30000 x:=by
 intro x hx
 obtain ⟨y,hy,rfl⟩:=List.mem_map.1 hx
 exact scaleT_ok (trn_ok hb hn h y hy) (hrSc_in ps n1 xs L h)
noncomputable def hrOrd (ps:List Pipe) (N:Nat) (xs:List Contract) (L:List Nomination) (h:Int):List Order:=ordL xs ((lessT ps N xs L h).map Trn.amount)
theorem hrOrd_len (ps:List Pipe) (N:Nat) (xs:List Contract) (L:List Nomination) (h:Int):(hrOrd ps N xs L h).length=2*xs.length:=ordL_len _ _ (by rw [List.length_map,lessT_len])
noncomputable def pfV (n1:Nat) (ns:List Node) (ps:List Pipe) (xs:List Contract) (L:List Nomination) (h:Int):List Int×Int:=
 if setC n1 ns ps xs L h=0 then routR ps n1 (supT n1 (lessT ps n1 xs L h)) else ([],setC n1 ns ps xs L h)
noncomputable def prV (n1:Nat) (ns:List Node) (ps:List Pipe) (xs:List Contract) (L:List Nomination) (h:Int):List Reading×Int:=
 if setC n1 ns ps xs L h=0 then rfV n1 ns ps (hrOrd ps n1 xs L h) else ([],setC n1 ns ps xs L h)
end Go.Proofs.YtfkpghdmljjegaaGreat
