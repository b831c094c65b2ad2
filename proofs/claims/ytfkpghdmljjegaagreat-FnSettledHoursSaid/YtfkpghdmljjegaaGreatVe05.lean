/-
  Contracts and books: validity, of the program and of the reference.
-/
import Derived.Test.YtfkpghdmljjegaaGreatVe04
import Derived.Test.YtfkpghdmljjegaaGreatVe00
namespace Go.Proofs.YtfkpghdmljjegaaGreat
open Go.RowKit
def conB (nn:Int) (x:Contract):Bool:=inB x.shipper 0 15&&inB x.entry 0 (nn-1)&&inB x.exit 0 (nn-1)&&(x.entry != x.exit)&&inB x.amount 1 30000&&inB x.cls 0 3&&decide (0≤x.start)&&decide (x.start≤x.stop)&&decide (x.stop<48)&&inB x.price 0 1000000
def bookB (nn:Int) (xs:List Contract):Bool:=decide (xs.length≤32)&&xs.all (conB nn)
theorem c_isShipper (z:Int) (w:World):
  Calls Tryz.prog 248 #[.int .i64 z] w fun e w'=>e= .returned (.bool (inB z 0 15))∧w=w':=by
 go_enter Tryz.func248,Tryz.ntmps248
 go_wp2_with (go_at_call 164; refine (c_within _ _ _ _).mono ?_; rintro e w' ⟨rfl,rfl⟩)
 go_ret
 exact ⟨rfl,rfl⟩
theorem c_l20Hour (z:Int) (w:World):
  Calls Tryz.prog 136 #[.int .i64 z] w fun e w'=>e= .returned (.bool (inB z 0 47))∧w=w':=by
 go_enter Tryz.func136,Tryz.ntmps136
 go_wp2_with (go_at_call 169; refine (c_l01In _ _ _ _).mono ?_; rintro e w' ⟨rfl,rfl⟩)
 go_ret
 exact ⟨rfl,rfl⟩
theorem c_holdsIn (x:Contract) (z:Int) (w:World):
  Calls Tryz.prog 293 #[.agg #[.int .i64 x.shipper,.int .i64 x.entry,.int .i64 x.exit,.int .i64 x.amount,.int .i64 x.cls,.int .i64 x.start,.int .i64 x.stop,.int .i64 x.price],.int .i64 z] w (Ret (.bool (inB z x.start x.stop)) w):=by
 go_enter Tryz.func293,Tryz.ntmps293
 go_wp2_with (go_at_call 164; refine (c_within _ _ _ _).mono ?_; rintro e w' ⟨rfl,rfl⟩)
 go_ret
 exact Ret.bool rfl (Ext.alloc _ _)
theorem c_l20Holds (x:Contract) (z:Int) (w:World):
  Calls Tryz.prog 297 #[.agg #[.int .i64 x.shipper,.int .i64 x.entry,.int .i64 x.exit,.int .i64 x.amount,.int .i64 x.cls,.int .i64 x.start,.int .i64 x.stop,.int .i64 x.price],.int .i64 z] w (Ret (.bool (inB z x.start x.stop)) w):=by
 go_enter Tryz.func297,Tryz.ntmps297
 go_wp2_with (go_at_call 169; refine (c_l01In _ _ _ _).mono ?_; rintro e w' ⟨rfl,rfl⟩)
 go_ret
 exact Ret.bool rfl (Ext.alloc _ _)
structure ConBox (w:World) (A1 A2:Option Addr) (n1 c1 n2 c2:Nat) (x:Contract) (wr:World):Prop where
 ext:Ext ((w.alloc (.cells #[.slice A1 n1 c1,.slice A2 n2 c2] 45)).alloc (.cells #[.int .i64 x.shipper,.int .i64 x.entry,.int .i64 x.exit,.int .i64 x.amount,.int .i64 x.cls,.int .i64 x.start,.int .i64 x.stop,.int .i64 x.price] 153)) wr
theorem ConBox.cell {w wr:World} {A1 A2:Option Addr} {n1 c1 n2 c2:Nat} {x:Contract} (h:ConBox w A1 A2 n1 c1 n2 c2 x wr):wr.cell? ⟨w.heap.size,0,none⟩=some (.slice A1 n1 c1)∧wr.cell? ⟨w.heap.size,1,none⟩=some (.slice A2 n2 c2)∧w.heap.size+1<wr.heap.size∧
  ∀j u,x.cells[j]? =some u→wr.cell? ⟨w.heap.size+1,j,none⟩=some u:=by
 have hz:=h.ext.size
 simp at hz
 refine ⟨(h.ext.cell _ _ (by simp; omega)).trans (by simp [go_sem]),(h.ext.cell _ _ (by simp; omega)).trans (by simp [go_sem]),by omega,fun j u hu=>(h.ext.cell _ _ (by simp)).trans ?_⟩
 have hR:=Row.new (w.alloc (.cells #[.slice A1 n1 c1,.slice A2 n2 c2] 45)) 153 [.int .i64 x.shipper,.int .i64 x.entry,.int .i64 x.exit,.int .i64 x.amount,.int .i64 x.cls,.int .i64 x.start,.int .i64 x.stop,.int .i64 x.price]
 rw [show (w.alloc (.cells #[.slice A1 n1 c1,.slice A2 n2 c2] 45)).heap.size=w.heap.size+1 by simp] at hR
 rw [hR.cell]
 exact hu
set_option maxHeartbeats 8000000 in
theorem c_isContract (A1 A2:Option Addr) (n1 c1 n2 c2:Nat) (x:Contract) (w:World) (hn:n1≤9223372036854775807):
  Calls Tryz.prog 242 #[.agg #[.slice A1 n1 c1,.slice A2 n2 c2],.agg #[.int .i64 x.shipper,.int .i64 x.entry,.int .i64 x.exit,.int .i64 x.amount,.int .i64 x.cls,.int .i64 x.start,.int .i64 x.stop,.int .i64 x.price]] w (Ret (.bool (conB n1 x)) w):=by
 cases h1:inB x.shipper 0 15
 ·have HR:=hide (show conB n1 x=false by simp [conB,h1])
  go_enter Tryz.func242,Tryz.ntmps242
  go_wp2_with (go_at_call 248; refine (c_isShipper _ _).mono ?_; rintro e w' ⟨rfl,rfl⟩)
  go_ret
  exact Ret.bool HR.out ((Ext.alloc _ _).and_alloc _)
 cases h2:inB x.entry 0 ((n1:Int)-1)
 ·have HR:=hide (show conB n1 x=false by simp [conB,h2])
  go_enter Tryz.func242,Tryz.ntmps242
  go_wp2_with (go_at_call 248; refine (c_isShipper _ _).mono ?_; rintro e w' ⟨rfl,rfl⟩)
  refine (c_isNodeOf A1 A2 n1 c1 n2 c2 x.entry _ hn).mono ?_
  rw [h2]
  rintro e w1 ⟨rfl,hx1⟩
  go_wp2_with fail
  go_ret
  exact Ret.bool HR.out (((Ext.alloc _ _).and_alloc _).trans hx1)
 have H1:=hide h1
 have H2:=hide h2
 go_enter Tryz.func242,Tryz.ntmps242
 go_wp2_with (go_at_call 248; refine (c_isShipper _ _).mono ?_; rintro e w' ⟨rfl,rfl⟩)
 clear h1
 refine (c_isNodeOf A1 A2 n1 c1 n2 c2 x.entry _ hn).mono ?_
 rw [h2]
 rintro e w1 ⟨rfl,hx1⟩
 clear h2
 have hB1:ConBox w A1 A2 n1 c1 n2 c2 x w1:=⟨hx1⟩
 obtain ⟨y0,y1,hz,t⟩:=hB1.cell
 have t0:=(t 0 _ rfl)
 have t1:=(t 1 _ rfl)
 have t2:=(t 2 _ rfl)
 have t3:=(t 3 _ rfl)
 have t4:=(t 4 _ rfl)
 have t5:=(t 5 _ rfl)
 have t6:=(t 6 _ rfl)
 have t7:=(t 7 _ rfl)
 clear t
 go_wp2_with fail
 refine (c_isNodeOf A1 A2 n1 c1 n2 c2 x.exit _ hn).mono ?_
 cases h3:inB x.exit 0 ((n1:Int)-1)
 ·have HR:=hide (show conB n1 x=false by simp [conB,h3])
  rintro e w2 ⟨rfl,hx2⟩
  go_wp2_with fail
  go_ret
  exact Ret.bool HR.out (((Ext.alloc _ _).and_alloc _).trans (hx1.trans hx2))
 have H3:=hide h3
 clear h3
 rintro e w2 ⟨rfl,hx2⟩
 have hB2:ConBox w A1 A2 n1 c1 n2 c2 x w2:=⟨hx1.trans hx2⟩
 clear hz t0 t1 t2 t3 t4 t5 t6 t7 y0 y1
 obtain ⟨y0,y1,hz,t⟩:=hB2.cell
 have t0:=(t 0 _ rfl)
 have t1:=(t 1 _ rfl)
 have t2:=(t 2 _ rfl)
 have t3:=(t 3 _ rfl)
 have t4:=(t 4 _ rfl)
 have t5:=(t 5 _ rfl)
 have t6:=(t 6 _ rfl)
 have t7:=(t 7 _ rfl)
 clear t
 have HE:=hide (((Ext.alloc w (.cells #[.slice A1 n1 c1,.slice A2 n2 c2] 45)).and_alloc _).trans (hx1.trans hx2))
 have HR:=hide (show conB n1 x=((x.entry != x.exit)&&inB x.amount 1 30000&&inB x.cls 0 3&&decide (0≤x.start)&&decide (x.start≤x.stop)&&decide (x.stop<48)&&inB x.price 0 1000000) by unfold conB; rw [H1.out,H2.out,H3.out]; simp only [Bool.true_and])
 clear hB1 hB2 hx1 hx2 H1 H2 H3
 go_wp2_with (go_at_call 164; refine (c_within _ _ _ _).mono ?_; rintro e w' ⟨rfl,rfl⟩)
 all_goals
  go_ret
  refine Ret.bool ?_ HE.out
  rw [HR.out]
  clear HR HE
  simp_all <;> (intros; omega)
set_option maxHeartbeats 8000000 in
theorem c_l20Is (A1 A2:Option Addr) (n1 c1 n2 c2:Nat) (x:Contract) (w:World) (hn:n1≤9223372036854775807):
  Calls Tryz.prog 204 #[.agg #[.slice A1 n1 c1,.slice A2 n2 c2],.agg #[.int .i64 x.shipper,.int .i64 x.entry,.int .i64 x.exit,.int .i64 x.amount,.int .i64 x.cls,.int .i64 x.start,.int .i64 x.stop,.int .i64 x.price]] w (Ret (.bool (conB n1 x)) w):=by
 cases h1:inB x.shipper 0 15
 ·have HR:=hide (show conB n1 x=false by simp [conB,h1])
  go_enter Tryz.func204,Tryz.ntmps204
  go_wp2_with (go_at_call 169; refine (c_l01In _ _ _ _).mono ?_; rintro e w' ⟨rfl,rfl⟩)
  go_ret
  exact Ret.bool HR.out ((Ext.alloc _ _).and_alloc _)
 cases h2:inB x.entry 0 ((n1:Int)-1)
 ·have HR:=hide (show conB n1 x=false by simp [conB,h2])
  go_enter Tryz.func204,Tryz.ntmps204
  go_wp2_with (go_at_call 169; refine (c_l01In _ _ _ _).mono ?_; rintro e w' ⟨rfl,rfl⟩)
  refine (c_l02Node A1 A2 n1 c1 n2 c2 x.entry _ hn).mono ?_
  rw [h2]
  rintro e w1 ⟨rfl,hx1⟩
  go_wp2_with fail
  go_ret
  exact Ret.bool HR.out (((Ext.alloc _ _).and_alloc _).trans hx1)
 have H1:=hide h1
 have H2:=hide h2
 go_enter Tryz.func204,Tryz.ntmps204
 go_wp2_with (go_at_call 169; refine (c_l01In _ _ _ _).mono ?_; rintro e w' ⟨rfl,rfl⟩)
 clear h1
 refine (c_l02Node A1 A2 n1 c1 n2 c2 x.entry _ hn).mono ?_
 rw [h2]
 rintro e w1 ⟨rfl,hx1⟩
 clear h2
 have hB1:ConBox w A1 A2 n1 c1 n2 c2 x w1:=⟨hx1⟩
 obtain ⟨y0,y1,hz,t⟩:=hB1.cell
 have t0:=(t 0 _ rfl)
 have t1:=(t 1 _ rfl)
 have t2:=(t 2 _ rfl)
 have t3:=(t 3 _ rfl)
 have t4:=(t 4 _ rfl)
 have t5:=(t 5 _ rfl)
 have t6:=(t 6 _ rfl)
 have t7:=(t 7 _ rfl)
 clear t
 go_wp2_with fail
 refine (c_l02Node A1 A2 n1 c1 n2 c2 x.exit _ hn).mono ?_
 cases h3:inB x.exit 0 ((n1:Int)-1)
 ·have HR:=hide (show conB n1 x=false by simp [conB,h3])
  rintro e w2 ⟨rfl,hx2⟩
  go_wp2_with fail
  go_ret
  exact Ret.bool HR.out (((Ext.alloc _ _).and_alloc _).trans (hx1.trans hx2))
 have H3:=hide h3
 clear h3
 rintro e w2 ⟨rfl,hx2⟩
 have hB2:ConBox w A1 A2 n1 c1 n2 c2 x w2:=⟨hx1.trans hx2⟩
 clear hz t0 t1 t2 t3 t4 t5 t6 t7 y0 y1
 obtain ⟨y0,y1,hz,t⟩:=hB2.cell
 have t0:=(t 0 _ rfl)
 have t1:=(t 1 _ rfl)
 have t2:=(t 2 _ rfl)
 have t3:=(t 3 _ rfl)
 have t4:=(t 4 _ rfl)
 have t5:=(t 5 _ rfl)
 have t6:=(t 6 _ rfl)
 have t7:=(t 7 _ rfl)
 clear t
 have HE:=hide (((Ext.alloc w (.cells #[.slice A1 n1 c1,.slice A2 n2 c2] 45)).and_alloc _).trans (hx1.trans hx2))
 have HR:=hide (show conB n1 x=((x.entry != x.exit)&&inB x.amount 1 30000&&inB x.cls 0 3&&decide (0≤x.start)&&decide (x.start≤x.stop)&&decide (x.stop<48)&&inB x.price 0 1000000) by unfold conB; rw [H1.out,H2.out,H3.out]; simp only [Bool.true_and])
 clear hB1 hB2 hx1 hx2 H1 H2 H3
 go_wp2_with (go_at_call 169; refine (c_l01In _ _ _ _).mono ?_; rintro e w' ⟨rfl,rfl⟩)
 all_goals
  go_ret
  refine Ret.bool ?_ HE.out
  rw [HR.out]
  clear HR HE
  simp_all <;> (intros; omega)
def NetIn (w:World) (b:Nat) (A1 A2:Option Addr) (n1 c1 n2 c2:Nat):Prop:=b<w.heap.size∧w.cell? ⟨b,0,none⟩=some (.slice A1 n1 c1)∧w.cell? ⟨b,1,none⟩=some (.slice A2 n2 c2)
theorem NetIn.ext {w w':World} {b:Nat} {A1 A2:Option Addr} {n1 c1 n2 c2:Nat} (h:NetIn w b A1 A2 n1 c1 n2 c2) (hx:Ext w w'):NetIn w' b A1 A2 n1 c1 n2 c2:=
 ⟨Nat.lt_of_lt_of_le h.1 hx.size,(hx.cell _ _ h.1).trans h.2.1,(hx.cell _ _ h.1).trans h.2.2⟩
theorem NetIn.new (w:World) (A1 A2:Option Addr) (n1 c1 n2 c2:Nat):NetIn (w.alloc (.cells #[.slice A1 n1 c1,.slice A2 n2 c2] 45)) w.heap.size A1 A2 n1 c1 n2 c2:=
 ⟨by simp,by simp [go_sem],by simp [go_sem]⟩
theorem c_badCon (A1 A2:Option Addr) (n1 c1 n2 c2:Nat) (x:Contract) (b:Nat) (w:World) (hn:n1≤9223372036854775807) (hb:NetIn w b A1 A2 n1 c1 n2 c2):
  Calls Tryz.prog 241 #[.agg #[.int .i64 x.shipper,.int .i64 x.entry,.int .i64 x.exit,.int .i64 x.amount,.int .i64 x.cls,.int .i64 x.start,.int .i64 x.stop,.int .i64 x.price],.pointer (some ⟨b,0,none⟩)] w (Ret (.bool (!conB n1 x)) w):=by
 obtain ⟨hb0,hb1,hb2⟩:=hb
 go_enter Tryz.func241,Tryz.ntmps241
 go_wp2_with fail
 refine (c_isContract A1 A2 n1 c1 n2 c2 x _ hn).mono ?_
 rintro e w1 ⟨rfl,hx1⟩
 go_wp2_with fail
 go_ret
 exact Ret.bool rfl hx1.box
def FoundIdx (b:Bool) (w:World) (e:Ending) (w':World):Prop:=∃r:Int,e= .returned (.int .i64 r)∧decide (0≤r)= !b∧Ext w w'
set_option maxHeartbeats 2000000 in
theorem c_IndexCon (A1 A2:Option Addr) (n1 c1 n2 c2:Nat) (b:Nat) (A:Option Addr) (n c:Nat) (xs:List Contract) (w:World) (hn:n1≤9223372036854775807) (hb:NetIn w b A1 A2 n1 c1 n2 c2) (hs:SliceOf w 8 Contract.cells A n c xs):
  Calls Tryz.prog 280 #[.slice A n c,.func (.func 241) #[] #[.pointer (some ⟨b,0,none⟩)]] w (FoundIdx (xs.all (conB n1)) w):=by
 have hm:=hs.max
 have hcap:=hs.cap
 go_enter Tryz.func280,Tryz.ntmps280
 go_wp2_with fail
 go_loopw [4,8] (fun r i wr=>∃k:Nat,k≤n∧r= .int .i64 0∧i= .int .i64 k∧Hid (∀(j:Nat) (p:Contract),j<k→xs[j]? =some p→conB n1 p=true)∧Ext w wr) (fun _ i _=>n-(intOf i).toNat)
 case atStart=>exact ⟨0,Nat.zero_le _,rfl,rfl,hide (fun j p hj=>absurd hj (by omega)),Ext.refl _⟩
 case round=>
  obtain ⟨k,hk,rfl,rfl,HK,hx⟩:=hrel
  by_cases hlt:k<n
  ·obtain ⟨bb,off,p,rfl,hbb,hxk,t⟩:=(hs.ext hx).get hlt
   have t0:=(t 0 _ rfl)
   have t1:=(t 1 _ rfl)
   have t2:=(t 2 _ rfl)
   have t3:=(t 3 _ rfl)
   have t4:=(t 4 _ rfl)
   have t5:=(t 5 _ rfl)
   have t6:=(t 6 _ rfl)
   have t7:=(t 7 _ rfl)
   clear t
   simp only [Nat.add_zero] at t0
   have HX:=hide hxk
   clear hxk
   have hbx:=hb.ext hx
   cases hp:conB n1 p
   ·go_wp2_with (go_at_call 241; refine (c_badCon A1 A2 n1 c1 n2 c2 p b _ hn hbx).mono ?_; rw [hp]; rintro e w1 ⟨rfl,hx1⟩)
    go_ret
    refine ⟨k,rfl,?_,hx.trans hx1⟩
    have:xs.all (conB n1)=false:=by rw [List.all_eq_false]; exact ⟨p,List.mem_of_getElem? HX.out,by simp [hp]⟩
    rw [this]; simp
   ·go_wp2_with (go_at_call 241; refine (c_badCon A1 A2 n1 c1 n2 c2 p b _ hn hbx).mono ?_; rw [hp]; rintro e w1 ⟨rfl,hx1⟩)
    go_roundw
    case rel=>
     refine ⟨k+1,by omega,rfl,by go_num,hide fun j q hj hq=> ?_,hx.trans hx1⟩
     by_cases e:j=k
     ·subst e; rw [HX.out] at hq; injection hq with hq; subst hq; exact hp
     ·exact HK.out j q (by omega) hq
    case measure=>simp [intOf]; omega
  ·go_wp2_with fail
   go_ret
   refine ⟨-1,rfl,?_,hx⟩
   have:xs.all (conB n1)=true:=by
    rw [List.all_eq_true]; intro q hq
    obtain ⟨j,hj,rfl⟩:=List.mem_iff_getElem.1 hq
    exact HK.out j _ (by have:=hs.len; omega) (List.getElem?_eq_getElem hj)
   rw [this]; simp
theorem c_ContainsCon (A1 A2:Option Addr) (n1 c1 n2 c2:Nat) (b:Nat) (A:Option Addr) (n c:Nat) (xs:List Contract) (w:World) (hn:n1≤9223372036854775807) (hb:NetIn w b A1 A2 n1 c1 n2 c2) (hs:SliceOf w 8 Contract.cells A n c xs):
  Calls Tryz.prog 240 #[.slice A n c,.func (.func 241) #[] #[.pointer (some ⟨b,0,none⟩)]] w (Ret (.bool (!xs.all (conB n1))) w):=by
 go_enter Tryz.func240,Tryz.ntmps240
 go_wp2_with fail
 refine (c_IndexCon A1 A2 n1 c1 n2 c2 b A n c xs _ hn hb hs).mono ?_
 rintro e w1 ⟨r,rfl,hr,hx1⟩
 have HR:=hide hr
 clear hr
 go_wp2_with fail
 go_ret
 exact Ret.bool HR.out.symm hx1
theorem c_isBook (A1 A2:Option Addr) (n1 c1 n2 c2:Nat) (A:Option Addr) (n c:Nat) (xs:List Contract) (w:World) (hn:n1≤9223372036854775807) (hs:SliceOf w 8 Contract.cells A n c xs):
  Calls Tryz.prog 187 #[.agg #[.slice A1 n1 c1,.slice A2 n2 c2],.slice A n c] w (Ret (.bool (bookB n1 xs)) w):=by
 have hm:=hs.max
 have hcap:=hs.cap
 have hl:=hs.len
 by_cases h:n≤32
 ·have HR:=hide (show bookB n1 xs=xs.all (conB n1) by simp [bookB, ←hl,h])
  clear hl
  have h':(n:Int)≤32:=by omega
  go_enter Tryz.func187,Tryz.ntmps187
  go_wp2_with fail
  refine (c_ContainsCon A1 A2 n1 c1 n2 c2 _ A n c xs _ hn (NetIn.new _ _ _ _ _ _ _) (hs.ext (Ext.alloc _ _))).mono ?_
  rintro e w1 ⟨rfl,hx1⟩
  go_wp2_with fail
  go_ret
  exact Ret.bool HR.out hx1.box
 ·have HR:=hide (show bookB n1 xs=false by simp [bookB, ←hl,h])
  clear hl
  have h':¬(n:Int)≤32:=by omega
  go_enter Tryz.func187,Tryz.ntmps187
  go_wp2_with fail
  go_ret
  exact Ret.bool HR.out (Ext.alloc _ _)
end Go.Proofs.YtfkpghdmljjegaaGreat
namespace Go.Proofs.YtfkpghdmljjegaaGreat
open Go.RowKit
set_option maxHeartbeats 2000000 in
theorem c_l20Book (A1 A2:Option Addr) (n1 c1 n2 c2:Nat) (A:Option Addr) (n c:Nat) (xs:List Contract) (w:World) (hn:n1≤9223372036854775807) (hs:SliceOf w 8 Contract.cells A n c xs):
  Calls Tryz.prog 134 #[.agg #[.slice A1 n1 c1,.slice A2 n2 c2],.slice A n c] w (Ret (.bool (bookB n1 xs)) w):=by
 have hm:=hs.max
 have hcap:=hs.cap
 have hl:=hs.len
 by_cases h:n≤32
 ·have HR:=hide (show bookB n1 xs=xs.all (conB n1) by simp [bookB, ←hl,h])
  have HL:=hide hl
  clear hl
  go_enter Tryz.func134,Tryz.ntmps134
  go_wp2_with fail
  go_loopw [5] (fun i wr=>∃k:Nat,k≤n∧i= .int .i64 k∧Hid (∀(j:Nat) (p:Contract),j<k→xs[j]? =some p→conB n1 p=true)∧NetBox w A1 A2 n1 c1 n2 c2 wr) (fun i _=>n-(intOf i).toNat)
  case atStart=>exact ⟨0,Nat.zero_le _,rfl,hide (fun j p hj=>absurd hj (by omega)),⟨Ext.refl _⟩⟩
  case round=>
   obtain ⟨k,hk,rfl,HK,hX⟩:=hrel
   have hx:=hX.ext.box
   obtain ⟨x0,x1,hz⟩:=hX.cell
   by_cases hlt:k<n
   ·obtain ⟨bb,off,p,rfl,hbb,hxk,t⟩:=(hs.ext hx).get hlt
    have t0:=(t 0 _ rfl)
    have t1:=(t 1 _ rfl)
    have t2:=(t 2 _ rfl)
    have t3:=(t 3 _ rfl)
    have t4:=(t 4 _ rfl)
    have t5:=(t 5 _ rfl)
    have t6:=(t 6 _ rfl)
    have t7:=(t 7 _ rfl)
    clear t
    simp only [Nat.add_zero] at t0
    have HX:=hide hxk
    clear hxk
    go_wp2_with fail
    refine wp_region_ph [([0,1,2,3,4],5)] [6] (by kernel_rfl) (by kernel_rfl) (by intro c a w d v h; cases d <;> exact h) ?_
    simp only [wpPh,pickL,nthO]
    repeat (go_big_quiet_step (fail))
    refine wpQuiet_nil ?_
    go_wp2_with fail
    refine (c_l20Is A1 A2 n1 c1 n2 c2 p _ hn).mono ?_
    cases hp:conB n1 p
    ·rintro e w1 ⟨rfl,hx1⟩
     have HF:=hide (show bookB n1 xs=false by rw [HR.out,List.all_eq_false]; exact ⟨p,List.mem_of_getElem? HX.out,by simp [hp]⟩)
     go_wp2_with fail
     refine ⟨hx1,?_⟩
     repeat (go_big_quiet_step (fail))
     refine wpQuiet_nil ?_
     go_wp2_with fail
     go_ret
     exact Ret.bool HF.out (hx.drew.trans hx1)
    ·rintro e w1 ⟨rfl,hx1⟩
     go_wp2_with fail
     refine ⟨hx1,?_⟩
     repeat (go_big_quiet_step (fail))
     refine wpQuiet_nil ?_
     go_wp2_with fail
     go_roundw
     case rel=>
      refine ⟨k+1,by omega,by go_num,hide fun j q hj hq=> ?_,⟨hX.ext.trans ((Ext.refl _).drew.trans hx1)⟩⟩
      by_cases e:j=k
      ·subst e; rw [HX.out] at hq; injection hq with hq; subst hq; exact hp
      ·exact HK.out j q (by omega) hq
     case measure=>simp [intOf]; omega
   ·have HF:=hide (show bookB n1 xs=true by
     rw [HR.out,List.all_eq_true]; intro q hq
     obtain ⟨j,hj,rfl⟩:=List.mem_iff_getElem.1 hq
     exact HK.out j _ (by have:=HL.out; omega) (List.getElem?_eq_getElem hj))
    go_wp2_with fail
    go_ret
    exact Ret.bool HF.out hx
 ·have HR:=hide (show bookB n1 xs=false by simp [bookB, ←hl,h])
  clear hl
  have h':(32:Int)<n:=by omega
  go_enter Tryz.func134,Tryz.ntmps134
  go_wp2_with fail
  go_ret
  exact Ret.bool HR.out (Ext.alloc _ _)
def bookC (n1:Int) (ns:List Node) (ps:List Pipe) (xs:List Contract):Int:=if netB ns ps=false then 1 else if bookB n1 xs=false then 3 else 0
set_option maxHeartbeats 1000000 in
theorem c_specIsBook (A1 A2:Option Addr) (n1 c1 n2 c2:Nat) (ns:List Node) (ps:List Pipe) (A:Option Addr) (n c:Nat) (xs:List Contract) (w:World) (hs1:SliceOf w 3 Node.cells A1 n1 c1 ns) (hs2:SliceOf w 5 Pipe.cells A2 n2 c2 ps) (hs:SliceOf w 8 Contract.cells A n c xs)(hnm:∀x∈ns,x.name.size≤1048576):
  Calls Tryz.prog 228 #[.agg #[.slice A1 n1 c1,.slice A2 n2 c2],.slice A n c] w (Ret (.bool (netB ns ps&&bookB n1 xs)) w):=by
 have hm1:=hs1.max
 have hp1:=hs1.cap
 cases hN:netB ns ps
 ·go_enter Tryz.func228,Tryz.ntmps228
  go_wp2_with fail
  refine (c_specIsNetwork A1 A2 n1 c1 n2 c2 ns ps _ (hs1.ext (Ext.alloc _ _)) (hs2.ext (Ext.alloc _ _)) hnm).mono ?_
  rw [hN]
  rintro e w1 ⟨rfl,hx1⟩
  go_wp2_with fail
  go_ret
  exact Ret.bool rfl hx1.box
 ·go_enter Tryz.func228,Tryz.ntmps228
  go_wp2_with fail
  refine (c_specIsNetwork A1 A2 n1 c1 n2 c2 ns ps _ (hs1.ext (Ext.alloc _ _)) (hs2.ext (Ext.alloc _ _)) hnm).mono ?_
  rw [hN]
  rintro e w1 ⟨rfl,hx1⟩
  have hX:NetBox w A1 A2 n1 c1 n2 c2 w1:=⟨hx1⟩
  obtain ⟨x0,x1,hz⟩:=hX.cell
  go_wp2_with fail
  refine (c_l20Book A1 A2 n1 c1 n2 c2 A n c xs _ (by omega) (hs.ext hx1.box)).mono ?_
  rintro e w2 ⟨rfl,hx2⟩
  go_wp2_with fail
  go_ret
  exact Ret.bool rfl (hx1.box.trans hx2)
set_option maxHeartbeats 1000000 in
theorem c_checkBook (A1 A2:Option Addr) (n1 c1 n2 c2:Nat) (ns:List Node) (ps:List Pipe) (A:Option Addr) (n c:Nat) (xs:List Contract) (w:World) (hs1:SliceOf w 3 Node.cells A1 n1 c1 ns) (hs2:SliceOf w 5 Pipe.cells A2 n2 c2 ps) (hs:SliceOf w 8 Contract.cells A n c xs):
  Calls Tryz.prog 263 #[.agg #[.slice A1 n1 c1,.slice A2 n2 c2],.slice A n c] w (Ret (.int .i64 (bookC n1 ns ps xs)) w):=by
 have hm1:=hs1.max
 have hp1:=hs1.cap
 cases hN:netB ns ps
 ·have HR:=hide (show bookC n1 ns ps xs=1 by simp [bookC,hN])
  go_enter Tryz.func263,Tryz.ntmps263
  go_wp2_with fail
  refine (c_IsNetwork A1 A2 n1 c1 n2 c2 ns ps _ (hs1.ext (Ext.alloc _ _)) (hs2.ext (Ext.alloc _ _))).mono ?_
  rw [hN]
  rintro e w1 ⟨rfl,hx1⟩
  go_wp2_with fail
  go_ret
  exact Ret.int HR.out hx1.box
 cases hB:bookB n1 xs
 ·have HR:=hide (show bookC n1 ns ps xs=3 by simp [bookC,hN,hB])
  go_enter Tryz.func263,Tryz.ntmps263
  go_wp2_with fail
  refine (c_IsNetwork A1 A2 n1 c1 n2 c2 ns ps _ (hs1.ext (Ext.alloc _ _)) (hs2.ext (Ext.alloc _ _))).mono ?_
  rw [hN]
  rintro e w1 ⟨rfl,hx1⟩
  have hX:NetBox w A1 A2 n1 c1 n2 c2 w1:=⟨hx1⟩
  obtain ⟨x0,x1,hz⟩:=hX.cell
  go_wp2_with fail
  refine (c_isBook A1 A2 n1 c1 n2 c2 A n c xs _ (by omega) (hs.ext hx1.box)).mono ?_
  rw [hB]
  rintro e w2 ⟨rfl,hx2⟩
  go_wp2_with fail
  go_ret
  exact Ret.int HR.out (hx1.box.trans hx2)
 ·have HR:=hide (show bookC n1 ns ps xs=0 by simp [bookC,hN,hB])
  go_enter Tryz.func263,Tryz.ntmps263
  go_wp2_with fail
  refine (c_IsNetwork A1 A2 n1 c1 n2 c2 ns ps _ (hs1.ext (Ext.alloc _ _)) (hs2.ext (Ext.alloc _ _))).mono ?_
  rw [hN]
  rintro e w1 ⟨rfl,hx1⟩
  have hX:NetBox w A1 A2 n1 c1 n2 c2 w1:=⟨hx1⟩
  obtain ⟨x0,x1,hz⟩:=hX.cell
  go_wp2_with fail
  refine (c_isBook A1 A2 n1 c1 n2 c2 A n c xs _ (by omega) (hs.ext hx1.box)).mono ?_
  rw [hB]
  rintro e w2 ⟨rfl,hx2⟩
  go_wp2_with fail
  go_ret
  exact Ret.int HR.out (hx1.box.trans hx2)
end Go.Proofs.YtfkpghdmljjegaaGreat
namespace Go.Proofs.YtfkpghdmljjegaaGreat
open Go.RowKit
structure Nomination where
 contract:Int
 hour:Int
 sent:Int
 amount:Int
def Nomination.cells (x:Nomination):List Value:=[.int .i64 x.contract,.int .i64 x.hour,.int .i64 x.sent,.int .i64 x.amount]
theorem nomination_len (x:Nomination):x.cells.length=4:=rfl
theorem nomination_info:(Tryz.prog.info? 157).map (fun i=>(i.zero,i.size,i.bytes))=some (some (.agg #[.int .i64 0,.int .i64 0,.int .i64 0,.int .i64 0]),4,32):=by kernel_rfl
def markNomination (a:Int) (n:Nat):List Nomination:=(List.range n).map fun (i:Nat)=>⟨a+4*(i:Int),a+4*(i:Int)+1,a+4*(i:Int)+2,a+4*(i:Int)+3⟩
end Go.Proofs.YtfkpghdmljjegaaGreat
namespace Go.Proofs.YtfkpghdmljjegaaGreat
open Go.RowKit
def nomB (xs:List Contract) (x:Nomination):Bool:=match xs[x.contract.toNat]? with
 | some p=>inB x.contract 0 ((xs.length:Int)-1)&&inB x.hour p.start p.stop&&inB x.sent (-48) (x.hour-2)&&inB x.amount 0 p.amount
 | none=>false
theorem nom_no {xs:List Contract} {x:Nomination} {n:Nat} (hn:n=xs.length) (h:inB x.contract 0 ((n:Int)-1)=false):nomB xs x=false:=by
 subst hn
 unfold nomB
 split
 ·simp [h]
 ·rfl
theorem nom_at {xs:List Contract} {k:Nat} {hr st am:Int} {p:Contract} {n:Nat} (hn:n=xs.length) (hk:k<n) (h:xs[k]? =some p):nomB xs ⟨k,hr,st,am⟩=(inB hr p.start p.stop&&inB st (-48) (hr-2)&&inB am 0 p.amount):=by
 unfold nomB
 simp only [Int.toNat_natCast]
 rw [h]
 simp only
 rw [inB_true.2 ⟨by omega,by omega⟩,Bool.true_and]
def HoursOk (xs:List Contract):Prop:=∀p∈xs,0≤p.start∧p.stop<48
theorem book_hours {nn:Int} {xs:List Contract} (h:bookB nn xs=true):HoursOk xs:=by
 intro p hp
 simp only [bookB,Bool.and_eq_true,List.all_eq_true] at h
 have:=h.2 p hp
 simp only [conB,Bool.and_eq_true,decide_eq_true_eq] at this
 omega
set_option maxHeartbeats 2000000 in
theorem c_isNomination (A:Option Addr) (n c:Nat) (xs:List Contract) (x:Nomination) (w:World) (hs:SliceOf w 8 Contract.cells A n c xs) (hok:HoursOk xs):
  Calls Tryz.prog 264 #[.slice A n c,.agg #[.int .i64 x.contract,.int .i64 x.hour,.int .i64 x.sent,.int .i64 x.amount]] w (Ret (.bool (nomB xs x)) w):=by
 have hm:=hs.max
 have hcap:=hs.cap
 have HL:=hide hs.len
 have HOK:=hide hok
 clear hok
 cases h1:inB x.contract 0 ((n:Int)-1)
 ·have HR:=hide (nom_no HL.out h1)
  go_enter Tryz.func264,Tryz.ntmps264
  go_wp2_with (go_at_call 164; refine (c_within _ _ _ _).mono ?_; rintro e w' ⟨rfl,rfl⟩)
  go_ret
  exact Ret.bool HR.out (Ext.alloc _ _)
 obtain ⟨ct,hr,st,am⟩:=x
 obtain ⟨h10,h11⟩:=inB_true.1 h1
 simp only at h10 h11 h1
 obtain ⟨k,rfl⟩:=Int.eq_ofNat_of_zero_le h10
 have hk:k<n:=by omega
 obtain ⟨bb,off,p,rfl,hbb,hxk,t⟩:=hs.get hk
 have t0:=(t 0 _ rfl)
 have t1:=(t 1 _ rfl)
 have t2:=(t 2 _ rfl)
 have t3:=(t 3 _ rfl)
 have t4:=(t 4 _ rfl)
 have t5:=(t 5 _ rfl)
 have t6:=(t 6 _ rfl)
 have t7:=(t 7 _ rfl)
 clear t
 simp only [Nat.add_zero] at t0
 have HR:=hide (nom_at (hr:=hr) (st:=st) (am:=am) HL.out hk hxk)
 obtain ⟨hp0,hp1⟩:=HOK.out p (List.mem_of_getElem? hxk)
 clear hxk
 go_enter Tryz.func264,Tryz.ntmps264
 go_wp2_with (go_at_call 164; refine (c_within _ _ _ _).mono ?_; rintro e w' ⟨rfl,rfl⟩)
 clear h1
 refine (c_holdsIn p hr _).mono ?_
 cases h2:inB hr p.start p.stop
 ·rw [h2] at HR
  rintro e w1 ⟨rfl,hx1⟩
  go_wp2_with fail
  go_ret
  exact Ret.bool HR.out (((Ext.alloc _ _).and_alloc _).trans hx1)
 obtain ⟨h20,h21⟩:=inB_true.1 h2
 rw [h2] at HR
 rintro e w1 ⟨rfl,hx1⟩
 have hRn:=((Row.new w 157 [.int .i64 k,.int .i64 hr,.int .i64 st,.int .i64 am]).alloc (.cells #[.int .i64 p.shipper,.int .i64 p.entry,.int .i64 p.exit,.int .i64 p.amount,.int .i64 p.cls,.int .i64 p.start,.int .i64 p.stop,.int .i64 p.price] 153)).ext hx1
 have hRc:=(Row.new (w.alloc (.cells #[.int .i64 k,.int .i64 hr,.int .i64 st,.int .i64 am] 157)) 153 [.int .i64 p.shipper,.int .i64 p.entry,.int .i64 p.exit,.int .i64 p.amount,.int .i64 p.cls,.int .i64 p.start,.int .i64 p.stop,.int .i64 p.price]).ext hx1
 rw [show (w.alloc (.cells #[.int .i64 k,.int .i64 hr,.int .i64 st,.int .i64 am] 157)).heap.size=w.heap.size+1 by simp] at hRc
 have q1:=hRn.cell 1
 have q2:=hRn.cell 2
 have q3:=hRn.cell 3
 have r3:=hRc.cell 3
 simp at q1 q2 q3 r3
 have hln:=hRn.lt
 have hlc:=hRc.lt
 clear hRn hRc
 go_wp2_with (go_at_call 164; refine (c_within _ _ _ _).mono ?_; rintro e w' ⟨rfl,rfl⟩)
 all_goals
  go_ret
  refine Ret.bool ?_ (((Ext.alloc _ _).and_alloc _).trans hx1)
  rw [HR.out]
  clear HR
  simp_all
set_option maxHeartbeats 2000000 in
theorem c_l21Is (A:Option Addr) (n c:Nat) (xs:List Contract) (x:Nomination) (w:World) (hs:SliceOf w 8 Contract.cells A n c xs) (hok:HoursOk xs):
  Calls Tryz.prog 271 #[.slice A n c,.agg #[.int .i64 x.contract,.int .i64 x.hour,.int .i64 x.sent,.int .i64 x.amount]] w (Ret (.bool (nomB xs x)) w):=by
 have hm:=hs.max
 have hcap:=hs.cap
 have HL:=hide hs.len
 have HOK:=hide hok
 clear hok
 cases h1:inB x.contract 0 ((n:Int)-1)
 ·have HR:=hide (nom_no HL.out h1)
  go_enter Tryz.func271,Tryz.ntmps271
  go_wp2_with fail
  refine wp_region_ph [([0,1,2,3,4],5),([6,7,8,9],10),([11,12,13,14,15,16,17,18,19,20],21)] [22,23] (by kernel_rfl) (by kernel_rfl) (by intro c a w d v h; cases d <;> exact h) ?_
  simp only [wpPh,pickL,nthO]
  repeat (go_big_quiet_step (fail))
  refine wpQuiet_nil ?_
  go_wp2_with fail
  refine (c_l01In _ _ _ _).mono ?_
  rw [h1]
  rintro e w' ⟨rfl,rfl⟩
  go_wp2_with fail
  refine ⟨Ext.refl _,?_⟩
  repeat (go_big_quiet_step (fail))
  refine wpQuiet_nil ?_
  go_wp2_with fail
  refine ⟨Ext.refl _,?_⟩
  repeat (go_big_quiet_step (fail))
  refine wpQuiet_nil ?_
  go_wp2_with fail
  refine ⟨Ext.refl _,?_⟩
  repeat (go_big_quiet_step (fail))
  refine wpQuiet_nil ?_
  go_wp2_with fail
  go_ret
  exact Ret.bool HR.out (Ext.alloc _ _).drew
 obtain ⟨ct,hr,st,am⟩:=x
 obtain ⟨h10,h11⟩:=inB_true.1 h1
 simp only at h10 h11 h1
 obtain ⟨k,rfl⟩:=Int.eq_ofNat_of_zero_le h10
 have hk:k<n:=by omega
 obtain ⟨bb,off,p,rfl,hbb,hxk,t⟩:=hs.get hk
 have t0:=(t 0 _ rfl)
 have t1:=(t 1 _ rfl)
 have t2:=(t 2 _ rfl)
 have t3:=(t 3 _ rfl)
 have t4:=(t 4 _ rfl)
 have t5:=(t 5 _ rfl)
 have t6:=(t 6 _ rfl)
 have t7:=(t 7 _ rfl)
 clear t
 simp only [Nat.add_zero] at t0
 have HR:=hide (nom_at (hr:=hr) (st:=st) (am:=am) HL.out hk hxk)
 obtain ⟨hp0,hp1⟩:=HOK.out p (List.mem_of_getElem? hxk)
 clear hxk
 have hRn:=(Row.new w 157 [.int .i64 k,.int .i64 hr,.int .i64 st,.int .i64 am])
 have q0:=hRn.cell 0
 have q1:=hRn.cell 1
 have q2:=hRn.cell 2
 have q3:=hRn.cell 3
 simp at q0 q1 q2 q3
 have hln:=hRn.lt
 go_enter Tryz.func271,Tryz.ntmps271
 go_wp2_with fail
 refine wp_region_ph [([0,1,2,3,4],5),([6,7,8,9],10),([11,12,13,14,15,16,17,18,19,20],21)] [22,23] (by kernel_rfl) (by kernel_rfl) (by intro c a w d v h; cases d <;> exact h) ?_
 simp only [wpPh,pickL,nthO]
 repeat (go_big_quiet_step (fail))
 refine wpQuiet_nil ?_
 go_wp2_with fail
 refine (c_l01In _ _ _ _).mono ?_
 rw [h1]
 rintro e w' ⟨rfl,rfl⟩
 clear h1
 go_wp2_with fail
 refine ⟨Ext.refl _,?_⟩
 repeat (go_big_quiet_step (fail))
 refine wpQuiet_nil ?_
 go_wp2_with fail
 refine (c_l20Hour _ _).mono ?_
 cases h47:inB hr 0 47
 ·have h2:inB hr p.start p.stop=false:=by
   have:=inB_false.1 h47
   exact inB_false.2 (by omega)
  rw [h2] at HR
  clear h2
  rintro e w' ⟨rfl,rfl⟩
  go_wp2_with fail
  refine ⟨Ext.refl _,?_⟩
  repeat (go_big_quiet_step (fail))
  refine wpQuiet_nil ?_
  go_wp2_with fail
  refine ⟨Ext.refl _,?_⟩
  repeat (go_big_quiet_step (fail))
  refine wpQuiet_nil ?_
  go_wp2_with fail
  go_ret
  exact Ret.bool HR.out (Ext.alloc _ _).drew
 obtain ⟨h470,h471⟩:=inB_true.1 h47
 rintro e w' ⟨rfl,rfl⟩
 clear h47
 go_wp2_with fail
 refine ⟨Ext.refl _,?_⟩
 repeat (go_big_quiet_step (fail))
 refine wpQuiet_nil ?_
 go_wp2_with fail
 refine (c_l20Holds p hr _).mono ?_
 cases h2:inB hr p.start p.stop
 ·rw [h2] at HR
  rintro e w1 ⟨rfl,hx1⟩
  go_wp2_with fail
  refine ⟨hx1,?_⟩
  repeat (go_big_quiet_step (fail))
  refine wpQuiet_nil ?_
  go_wp2_with fail
  go_ret
  exact Ret.bool HR.out ((Ext.alloc _ _).drew.trans hx1)
 rw [h2] at HR
 rintro e w1 ⟨rfl,hx1⟩
 clear h2
 go_wp2_with fail
 refine ⟨hx1,?_⟩
 repeat (go_big_quiet_step (fail))
 refine wpQuiet_nil ?_
 have hx1':=(Ext.refl _).drew.trans hx1
 have hR1:=hRn.ext hx1'
 have s0:=hR1.cell 0
 have s1:=hR1.cell 1
 have s2:=hR1.cell 2
 have s3:=hR1.cell 3
 simp at s0 s1 s2 s3
 have hl1:=hR1.lt
 have hb1:w1.cell? ⟨bb,off+k*8+3,none⟩=some (.int .i64 p.amount):=((hx1'.box).cell _ _ hbb).trans t3
 have hbl:bb<w1.heap.size:=Nat.lt_of_lt_of_le hbb hx1'.box.size
 clear q0 q1 q2 q3 t0 t1 t2 t3 t4 t5 t6 t7 hRn hR1 hln
 go_wp2_with fail
 refine wp_region_ph [([0,1,2,3,4],5),([6,7,8,9,10,11,12,13,14],15)] [16,17] (by kernel_rfl) (by kernel_rfl) (by intro c a w d v h; cases d <;> exact h) ?_
 simp only [wpPh,pickL,nthO]
 repeat (go_big_quiet_step (fail))
 refine wpQuiet_nil ?_
 go_wp2_with fail
 refine (c_l01In _ _ _ _).mono ?_
 cases h3:inB st (-48) (hr-2)
 ·rw [h3] at HR
  rintro e w' ⟨rfl,rfl⟩
  go_wp2_with fail
  refine ⟨Ext.refl _,?_⟩
  repeat (go_big_quiet_step (fail))
  refine wpQuiet_nil ?_
  go_wp2_with fail
  refine ⟨Ext.refl _,?_⟩
  repeat (go_big_quiet_step (fail))
  refine wpQuiet_nil ?_
  go_wp2_with fail
  go_ret
  exact Ret.bool (by rw [HR.out]; rfl) hx1'.box.drew
 rw [h3] at HR
 rintro e w' ⟨rfl,rfl⟩
 go_wp2_with fail
 refine ⟨Ext.refl _,?_⟩
 repeat (go_big_quiet_step (fail))
 refine wpQuiet_nil ?_
 go_wp2_with fail
 refine (c_l01In _ _ _ _).mono ?_
 rintro e w' ⟨rfl,rfl⟩
 go_wp2_with fail
 refine ⟨Ext.refl _,?_⟩
 repeat (go_big_quiet_step (fail))
 refine wpQuiet_nil ?_
 go_wp2_with fail
 go_ret
 exact Ret.bool (by rw [HR.out]; rfl) hx1'.box.drew
end Go.Proofs.YtfkpghdmljjegaaGreat
