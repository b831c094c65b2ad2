/-
  The helpers of the laws on Nomination: copying, comparing, measuring, marking.
-/
import Derived.Test.YtinindjjapblcaaGreatDoorWa04
import Derived.Test.YtinindjjapblcaaGreatDoorWa00
namespace Go.Proofs.YtinindjjapblcaaGreatDoor
open Go.RowKit
structure Nomination where
 contract:Int
 hour:Int
 sent:Int
 amount:Int
def Nomination.cells (x:Nomination):List Value:=[.int .i64 x.contract,.int .i64 x.hour,.int .i64 x.sent,.int .i64 x.amount]
theorem nomination_len (x:Nomination):x.cells.length=4:=rfl
theorem nomination_info:(Tryz.prog.info? 79).map (fun i=>(i.zero,i.size,i.bytes))=some (some (.agg #[.int .i64 0,.int .i64 0,.int .i64 0,.int .i64 0]),4,32):=by kernel_rfl
theorem c_eqNomination (x:Nomination) (w:World):
  Calls Tryz.prog 121 #[.agg #[.int .i64 x.contract,.int .i64 x.hour,.int .i64 x.sent,.int .i64 x.amount],.agg #[.int .i64 x.contract,.int .i64 x.hour,.int .i64 x.sent,.int .i64 x.amount]] w (Ret (.bool true) w):=by
 go_enter Tryz.func121,Tryz.ntmps121
 go_wp2
 go_ret
 exact Ret.bool rfl (((Ext.refl _).and_alloc _).and_alloc _)
set_option maxHeartbeats 1000000 in
theorem c_eqNominationS (A A':Option Addr) (n c n' c':Nat) (ts:List Nomination) (w:World) (hs:SliceOf w 4 Nomination.cells A n c ts) (hs':SliceOf w 4 Nomination.cells A' n' c' ts):
  Calls Tryz.prog 70 #[.slice A n c,.slice A' n' c'] w (Ret (.bool true) w):=by
 have hl:=hs.len
 obtain rfl:n=n':=by rw [hs.len,hs'.len]
 have hm:=hs.max
 have hcp:=hs.cap
 clear hl
 go_enter Tryz.func70,Tryz.ntmps70
 go_wp2_with fail
 go_loopw [5] (fun i wr=>∃(k:Nat),k≤n∧i= .int .i64 k∧Ext w wr) (fun i _=>n-(intOf i).toNat)
 case atStart=>exact ⟨0,Nat.zero_le _,rfl,Ext.refl _⟩
 case round=>
  obtain ⟨k,hk,rfl,hx⟩:=hrel
  by_cases hlt:k<n
  ·obtain ⟨b,off,x,rfl,hb,hxk,hc⟩:=(hs.ext hx).get hlt
   obtain ⟨b',off',x',rfl,hb',hxk',hc'⟩:=(hs'.ext hx).get hlt
   obtain rfl:x=x':=by rw [hxk] at hxk'; injection hxk'
   have hc0:=hc 0 _ rfl
   have hc1:=hc 1 _ rfl
   have hc2:=hc 2 _ rfl
   have hc3:=hc 3 _ rfl
   have hd0:=hc' 0 _ rfl
   have hd1:=hc' 1 _ rfl
   have hd2:=hc' 2 _ rfl
   have hd3:=hc' 3 _ rfl
   clear hc hc' hxk hxk'
   simp only [Nat.add_zero] at hc0 hd0
   go_wp2_with fail
   refine wp_region_later (by kernel_rfl) (by kernel_rfl) ?_
   repeat (go_big_quiet_step ((go_at_call 121; exact quiet_later (c_eqNomination x _))))
   refine wpQuiet_nil ?_
   intro w1 hx1
   go_wp2
   go_roundw
   case rel=>exact ⟨k+1,by omega,by go_num,hx.trans hx1⟩
   case measure=>simp [intOf]; omega
  ·go_wp2
   go_ret
   exact Ret.bool rfl hx
def markNomination (a:Int) (n:Nat):List Nomination:=(List.range n).map fun (i:Nat)=>⟨a+4*(i:Int),a+4*(i:Int)+1,a+4*(i:Int)+2,a+4*(i:Int)+3⟩
theorem markNomination_at (a:Int) (n i:Nat) (h:i<n):(markNomination a n)[i]? =some ⟨a+4*(i:Int),a+4*(i:Int)+1,a+4*(i:Int)+2,a+4*(i:Int)+3⟩:=by
 unfold markNomination; rw [List.getElem?_map,List.getElem?_range h]; rfl
def MarkedNomination (g:Nat) (A:Option Addr) (n:Nat) (a:Int) (w:World) (e:Ending) (w':World):Prop:=
 e= .returned (.int .i64 (a+4*n))∧OwnS w' g 79 Nomination.cells A n (markNomination a n)∧Only g w w'
set_option maxHeartbeats 1000000 in
theorem c_markNominationS (g:Nat) (A:Option Addr) (n c:Nat) (ts:List Nomination) (a:Int) (w:World) (hown0:OwnS w g 79 Nomination.cells A n ts) (hn:n≤1000000000) (hcap:n≤c) (hmax:c≤9223372036854775807) (ha0:0≤a) (ha1:a≤1000000000000):
  Calls Tryz.prog 77 #[.slice A n c,.int .i64 a] w (MarkedNomination g A n a w):=by
 go_enter Tryz.func77,Tryz.ntmps77
 go_wp2_with fail
 go_loopw [1,5] (fun q i wr=>∃(k:Nat) (K:Int) (L:List Nomination),k≤n∧q= .int .i64 K∧i= .int .i64 k∧a+4*(k:Int)≤K∧K≤a+4*(k:Int)∧OwnS wr g 79 Nomination.cells A n L∧Hid (∀j,j<k→L[j]? =(markNomination a n)[j]?)∧Only g w wr) (fun _ i _=>n-(intOf i).toNat)
 case atStart=>exact ⟨0,a,ts,Nat.zero_le _,rfl,rfl,by omega,by omega,hown0,hide (fun j hj=>absurd hj (by omega)),Only.refl _ _⟩
 case round=>
  obtain ⟨k,K,L,hk,rfl,rfl,hK0,hK1,hown,HK,hx⟩:=hrel
  by_cases hlt:k<n
  ·have hn0:0<n:=by omega
   obtain ⟨rfl,_⟩:=hown.2 hn0
   obtain ⟨v0,hv0⟩:=hown.there nomination_len (i:=k) hlt (j:=0) (by omega)
   have hf0:=hown.frozen hn0 (k*4)
   obtain ⟨v1,hv1⟩:=hown.there nomination_len (i:=k) hlt (j:=1) (by omega)
   have hf1:=hown.frozen hn0 (k*4+1)
   obtain ⟨v2,hv2⟩:=hown.there nomination_len (i:=k) hlt (j:=2) (by omega)
   have hf2:=hown.frozen hn0 (k*4+2)
   obtain ⟨v3,hv3⟩:=hown.there nomination_len (i:=k) hlt (j:=3) (by omega)
   have hf3:=hown.frozen hn0 (k*4+3)
   rw [Nat.add_zero] at hv0
   have HL:=hide hown.1
   go_wp2_with fail
   go_roundw
   case rel=>
    refine ⟨k+1,_,L.set k ⟨K,K+1,K+1+1,K+1+1+1⟩,by omega,rfl,by go_num,by omega,by omega,hown.put nomination_len hlt ⟨K,K+1,K+1+1,K+1+1+1⟩,hide ?_,hx.put (k*4) (Nomination.cells ⟨K,K+1,K+1+1,K+1+1+1⟩)⟩
    intro j hj
    rw [List.getElem?_set]
    by_cases e:k=j
    ·subst e
     rw [if_pos rfl,if_pos (by rw [←HL.out]; exact hlt),markNomination_at _ _ _ hlt]
     congr 2 <;> omega
    ·rw [if_neg e]; exact HK.out j (by omega)
   case measure=>simp [intOf]; omega
  ·go_wp2_with fail
   go_ret
   have hLts:L=markNomination a n:=by
    apply List.ext_getElem?
    intro j
    by_cases hj:j<n
    ·exact HK.out j (by omega)
    ·rw [List.getElem?_eq_none (by have:=hown.1; omega),List.getElem?_eq_none (by simp [markNomination]; omega)]
   subst hLts
   refine ⟨?_,hown,hx⟩
   obtain rfl:k=n:=by omega
   have:K=a+4*(k:Int):=by omega
   rw [←this]; rfl
set_option maxRecDepth 8000 in
set_option maxHeartbeats 1000000 in
theorem c_heldNominationS (A:Option Addr) (n c:Nat) (a:Int) (w:World) (hs:SliceOf w 4 Nomination.cells A n c (markNomination a n)) (hn:n≤1000000000) (ha0:0≤a) (ha1:a≤1000000000000):
  Calls Tryz.prog 81 #[.slice A n c,.int .i64 a] w fun e w'=>e= .returned (.int .i64 (a+4*n))∧w=w':=by
 have hcap:=hs.cap
 have hmax:=hs.max
 go_enter Tryz.func81,Tryz.ntmps81
 go_wp2_with fail
 go_loop [1,5] (fun q i=>∃(k:Nat) (K:Int),k≤n∧q= .int .i64 K∧i= .int .i64 k∧a+4*(k:Int)≤K∧K≤a+4*(k:Int)) (fun _ i=>n-(intOf i).toNat)
 case atStart=>exact ⟨0,a,Nat.zero_le _,rfl,rfl,by omega,by omega⟩
 case round=>
  obtain ⟨k,K,hk,rfl,rfl,hK0,hK1⟩:=hrel
  by_cases hlt:k<n
  ·obtain ⟨b,off,x,rfl,hb,hxk,hc⟩:=hs.get hlt
   rw [markNomination_at _ _ _ hlt] at hxk
   obtain rfl:(⟨K,K+1,K+1+1,K+1+1+1⟩:Nomination)=x:=by
    injection hxk with hxk
    rw [←hxk]
    congr 1 <;> omega
   clear hxk
   have hc0:=hc 0 _ rfl
   have hc1:=hc 1 _ rfl
   have hc2:=hc 2 _ rfl
   have hc3:=hc 3 _ rfl
   clear hc
   simp only [Nat.add_zero] at hc0
   go_wp2_with fail
   go_round
   case rel=>exact ⟨k+1,_,by omega,rfl,by go_num,by omega,by omega⟩
   case measure=>simp [intOf]; omega
  ·go_wp2_with fail
   go_ret
   obtain rfl:k=n:=by omega
   have:K=a+4*(k:Int):=by omega
   exact ⟨by rw [←this]; rfl,rfl⟩
end Go.Proofs.YtinindjjapblcaaGreatDoor
namespace Go.Proofs.YtinindjjapblcaaGreatDoor
open Go.RowKit
def nomB (xs:List Contract) (x:Nomination):Bool:=match xs[x.contract.toNat]? with
 | some p=>inB x.contract 0 ((xs.length:Int)-1)&&inB x.hour p.start p.stop&&inB x.sent (-48) (x.hour-2)&&inB x.amount 0 p.amount
 | none=>false
theorem nom_no {xs:List Contract} {x:Nomination} {n:Nat} (hn:n=xs.length) (h:inB x.contract 0 ((n:Int)-1)=false):nomB xs x=false:=by
 subst hn
 unfold nomB
 split
 ·simp [h]
 ·rfl
theorem nom_at {xs:List Contract} {k:Nat} {hr st am:Int} {p:Contract} {n:Nat} (hn:n=xs.length) (hk:k<n) (h:xs[k]? =some p):nomB xs ⟨k,hr,st,am⟩=(inB hr p.start p.stop&&inB st (-48) (hr-2)&&inB am 0 p.amount):=by
 unfold nomB
 simp only [Int.toNat_natCast]
 rw [h]
 simp only
 rw [inB_true.2 ⟨by omega,by omega⟩,Bool.true_and]
def HoursOk (xs:List Contract):Prop:=∀p∈xs,0≤p.start∧p.stop<48
theorem book_hours {nn:Int} {xs:List Contract} (h:bookB nn xs=true):HoursOk xs:=by
 intro p hp
 simp only [bookB,Bool.and_eq_true,List.all_eq_true] at h
 have:=h.2 p hp
 simp only [conB,Bool.and_eq_true,decide_eq_true_eq] at this
 omega
set_option maxHeartbeats 2000000 in
theorem c_isNomination (A:Option Addr) (n c:Nat) (xs:List Contract) (x:Nomination) (w:World) (hs:SliceOf w 8 Contract.cells A n c xs) (hok:HoursOk xs):
  Calls Tryz.prog 139 #[.slice A n c,.agg #[.int .i64 x.contract,.int .i64 x.hour,.int .i64 x.sent,.int .i64 x.amount]] w (Ret (.bool (nomB xs x)) w):=by
 have hm:=hs.max
 have hcap:=hs.cap
 have HL:=hide hs.len
 have HOK:=hide hok
 clear hok
 cases h1:inB x.contract 0 ((n:Int)-1)
 ·have HR:=hide (nom_no HL.out h1)
  go_enter Tryz.func139,Tryz.ntmps139
  go_wp2_with (go_at_call 84; refine (c_within _ _ _ _).mono ?_; rintro e w' ⟨rfl,rfl⟩)
  go_ret
  exact Ret.bool HR.out (Ext.alloc _ _)
 obtain ⟨ct,hr,st,am⟩:=x
 obtain ⟨h10,h11⟩:=inB_true.1 h1
 simp only at h10 h11 h1
 obtain ⟨k,rfl⟩:=Int.eq_ofNat_of_zero_le h10
 have hk:k<n:=by omega
 obtain ⟨bb,off,p,rfl,hbb,hxk,t⟩:=hs.get hk
 have t0:=(t 0 _ rfl)
 have t1:=(t 1 _ rfl)
 have t2:=(t 2 _ rfl)
 have t3:=(t 3 _ rfl)
 have t4:=(t 4 _ rfl)
 have t5:=(t 5 _ rfl)
 have t6:=(t 6 _ rfl)
 have t7:=(t 7 _ rfl)
 clear t
 simp only [Nat.add_zero] at t0
 have HR:=hide (nom_at (hr:=hr) (st:=st) (am:=am) HL.out hk hxk)
 obtain ⟨hp0,hp1⟩:=HOK.out p (List.mem_of_getElem? hxk)
 clear hxk
 go_enter Tryz.func139,Tryz.ntmps139
 go_wp2_with (go_at_call 84; refine (c_within _ _ _ _).mono ?_; rintro e w' ⟨rfl,rfl⟩)
 clear h1
 refine (c_holdsIn p hr _).mono ?_
 cases h2:inB hr p.start p.stop
 ·rw [h2] at HR
  rintro e w1 ⟨rfl,hx1⟩
  go_wp2_with fail
  go_ret
  exact Ret.bool HR.out (((Ext.alloc _ _).and_alloc _).trans hx1)
 obtain ⟨h20,h21⟩:=inB_true.1 h2
 rw [h2] at HR
 rintro e w1 ⟨rfl,hx1⟩
 have hRn:=((Row.new w 79 [.int .i64 k,.int .i64 hr,.int .i64 st,.int .i64 am]).alloc (.cells #[.int .i64 p.shipper,.int .i64 p.entry,.int .i64 p.exit,.int .i64 p.amount,.int .i64 p.cls,.int .i64 p.start,.int .i64 p.stop,.int .i64 p.price] 98)).ext hx1
 have hRc:=(Row.new (w.alloc (.cells #[.int .i64 k,.int .i64 hr,.int .i64 st,.int .i64 am] 79)) 98 [.int .i64 p.shipper,.int .i64 p.entry,.int .i64 p.exit,.int .i64 p.amount,.int .i64 p.cls,.int .i64 p.start,.int .i64 p.stop,.int .i64 p.price]).ext hx1
 rw [show (w.alloc (.cells #[.int .i64 k,.int .i64 hr,.int .i64 st,.int .i64 am] 79)).heap.size=w.heap.size+1 by simp] at hRc
 have q1:=hRn.cell 1
 have q2:=hRn.cell 2
 have q3:=hRn.cell 3
 have r3:=hRc.cell 3
 simp at q1 q2 q3 r3
 have hln:=hRn.lt
 have hlc:=hRc.lt
 clear hRn hRc
 go_wp2_with (go_at_call 84; refine (c_within _ _ _ _).mono ?_; rintro e w' ⟨rfl,rfl⟩)
 all_goals
  go_ret
  refine Ret.bool ?_ (((Ext.alloc _ _).and_alloc _).trans hx1)
  rw [HR.out]
  clear HR
  simp_all
set_option maxHeartbeats 2000000 in
theorem c_l21Is (A:Option Addr) (n c:Nat) (xs:List Contract) (x:Nomination) (w:World) (hs:SliceOf w 8 Contract.cells A n c xs) (hok:HoursOk xs):
  Calls Tryz.prog 143 #[.slice A n c,.agg #[.int .i64 x.contract,.int .i64 x.hour,.int .i64 x.sent,.int .i64 x.amount]] w (Ret (.bool (nomB xs x)) w):=by
 have hm:=hs.max
 have hcap:=hs.cap
 have HL:=hide hs.len
 have HOK:=hide hok
 clear hok
 cases h1:inB x.contract 0 ((n:Int)-1)
 ·have HR:=hide (nom_no HL.out h1)
  go_enter Tryz.func143,Tryz.ntmps143
  go_wp2_with fail
  refine wp_region_ph [([0,1,2,3,4],5),([6,7,8,9],10),([11,12,13,14,15,16,17,18,19,20],21)] [22,23] (by kernel_rfl) (by kernel_rfl) (by intro c a w d v h; cases d <;> exact h) ?_
  simp only [wpPh,pickL,nthO]
  repeat (go_big_quiet_step (fail))
  refine wpQuiet_nil ?_
  go_wp2_with fail
  refine (c_l01In _ _ _ _).mono ?_
  rw [h1]
  rintro e w' ⟨rfl,rfl⟩
  go_wp2_with fail
  refine ⟨Ext.refl _,?_⟩
  repeat (go_big_quiet_step (fail))
  refine wpQuiet_nil ?_
  go_wp2_with fail
  refine ⟨Ext.refl _,?_⟩
  repeat (go_big_quiet_step (fail))
  refine wpQuiet_nil ?_
  go_wp2_with fail
  refine ⟨Ext.refl _,?_⟩
  repeat (go_big_quiet_step (fail))
  refine wpQuiet_nil ?_
  go_wp2_with fail
  go_ret
  exact Ret.bool HR.out (Ext.alloc _ _).drew
 obtain ⟨ct,hr,st,am⟩:=x
 obtain ⟨h10,h11⟩:=inB_true.1 h1
 simp only at h10 h11 h1
 obtain ⟨k,rfl⟩:=Int.eq_ofNat_of_zero_le h10
 have hk:k<n:=by omega
 obtain ⟨bb,off,p,rfl,hbb,hxk,t⟩:=hs.get hk
 have t0:=(t 0 _ rfl)
 have t1:=(t 1 _ rfl)
 have t2:=(t 2 _ rfl)
 have t3:=(t 3 _ rfl)
 have t4:=(t 4 _ rfl)
 have t5:=(t 5 _ rfl)
 have t6:=(t 6 _ rfl)
 have t7:=(t 7 _ rfl)
 clear t
 simp only [Nat.add_zero] at t0
 have HR:=hide (nom_at (hr:=hr) (st:=st) (am:=am) HL.out hk hxk)
 obtain ⟨hp0,hp1⟩:=HOK.out p (List.mem_of_getElem? hxk)
 clear hxk
 have hRn:=(Row.new w 79 [.int .i64 k,.int .i64 hr,.int .i64 st,.int .i64 am])
 have q0:=hRn.cell 0
 have q1:=hRn.cell 1
 have q2:=hRn.cell 2
 have q3:=hRn.cell 3
 simp at q0 q1 q2 q3
 have hln:=hRn.lt
 go_enter Tryz.func143,Tryz.ntmps143
 go_wp2_with fail
 refine wp_region_ph [([0,1,2,3,4],5),([6,7,8,9],10),([11,12,13,14,15,16,17,18,19,20],21)] [22,23] (by kernel_rfl) (by kernel_rfl) (by intro c a w d v h; cases d <;> exact h) ?_
 simp only [wpPh,pickL,nthO]
 repeat (go_big_quiet_step (fail))
 refine wpQuiet_nil ?_
 go_wp2_with fail
 refine (c_l01In _ _ _ _).mono ?_
 rw [h1]
 rintro e w' ⟨rfl,rfl⟩
 clear h1
 go_wp2_with fail
 refine ⟨Ext.refl _,?_⟩
 repeat (go_big_quiet_step (fail))
 refine wpQuiet_nil ?_
 go_wp2_with fail
 refine (c_l20Hour _ _).mono ?_
 cases h47:inB hr 0 47
 ·have h2:inB hr p.start p.stop=false:=by
   have:=inB_false.1 h47
   exact inB_false.2 (by omega)
  rw [h2] at HR
  clear h2
  rintro e w' ⟨rfl,rfl⟩
  go_wp2_with fail
  refine ⟨Ext.refl _,?_⟩
  repeat (go_big_quiet_step (fail))
  refine wpQuiet_nil ?_
  go_wp2_with fail
  refine ⟨Ext.refl _,?_⟩
  repeat (go_big_quiet_step (fail))
  refine wpQuiet_nil ?_
  go_wp2_with fail
  go_ret
  exact Ret.bool HR.out (Ext.alloc _ _).drew
 obtain ⟨h470,h471⟩:=inB_true.1 h47
 rintro e w' ⟨rfl,rfl⟩
 clear h47
 go_wp2_with fail
 refine ⟨Ext.refl _,?_⟩
 repeat (go_big_quiet_step (fail))
 refine wpQuiet_nil ?_
 go_wp2_with fail
 refine (c_l20Holds p hr _).mono ?_
 cases h2:inB hr p.start p.stop
 ·rw [h2] at HR
  rintro e w1 ⟨rfl,hx1⟩
  go_wp2_with fail
  refine ⟨hx1,?_⟩
  repeat (go_big_quiet_step (fail))
  refine wpQuiet_nil ?_
  go_wp2_with fail
  go_ret
  exact Ret.bool HR.out ((Ext.alloc _ _).drew.trans hx1)
 rw [h2] at HR
 rintro e w1 ⟨rfl,hx1⟩
 clear h2
 go_wp2_with fail
 refine ⟨hx1,?_⟩
 repeat (go_big_quiet_step (fail))
 refine wpQuiet_nil ?_
 have hx1':=(Ext.refl _).drew.trans hx1
 have hR1:=hRn.ext hx1'
 have s0:=hR1.cell 0
 have s1:=hR1.cell 1
 have s2:=hR1.cell 2
 have s3:=hR1.cell 3
 simp at s0 s1 s2 s3
 have hl1:=hR1.lt
 have hb1:w1.cell? ⟨bb,off+k*8+3,none⟩=some (.int .i64 p.amount):=((hx1'.box).cell _ _ hbb).trans t3
 have hbl:bb<w1.heap.size:=Nat.lt_of_lt_of_le hbb hx1'.box.size
 clear q0 q1 q2 q3 t0 t1 t2 t3 t4 t5 t6 t7 hRn hR1 hln
 go_wp2_with fail
 refine wp_region_ph [([0,1,2,3,4],5),([6,7,8,9,10,11,12,13,14],15)] [16,17] (by kernel_rfl) (by kernel_rfl) (by intro c a w d v h; cases d <;> exact h) ?_
 simp only [wpPh,pickL,nthO]
 repeat (go_big_quiet_step (fail))
 refine wpQuiet_nil ?_
 go_wp2_with fail
 refine (c_l01In _ _ _ _).mono ?_
 cases h3:inB st (-48) (hr-2)
 ·rw [h3] at HR
  rintro e w' ⟨rfl,rfl⟩
  go_wp2_with fail
  refine ⟨Ext.refl _,?_⟩
  repeat (go_big_quiet_step (fail))
  refine wpQuiet_nil ?_
  go_wp2_with fail
  refine ⟨Ext.refl _,?_⟩
  repeat (go_big_quiet_step (fail))
  refine wpQuiet_nil ?_
  go_wp2_with fail
  go_ret
  exact Ret.bool (by rw [HR.out]; rfl) hx1'.box.drew
 rw [h3] at HR
 rintro e w' ⟨rfl,rfl⟩
 go_wp2_with fail
 refine ⟨Ext.refl _,?_⟩
 repeat (go_big_quiet_step (fail))
 refine wpQuiet_nil ?_
 go_wp2_with fail
 refine (c_l01In _ _ _ _).mono ?_
 rintro e w' ⟨rfl,rfl⟩
 go_wp2_with fail
 refine ⟨Ext.refl _,?_⟩
 repeat (go_big_quiet_step (fail))
 refine wpQuiet_nil ?_
 go_wp2_with fail
 go_ret
 exact Ret.bool (by rw [HR.out]; rfl) hx1'.box.drew
end Go.Proofs.YtinindjjapblcaaGreatDoor
namespace Go.Proofs.YtinindjjapblcaaGreatDoor
open Go.RowKit
def prevOk (L:List Nomination) (i:Nat) (s:Int):Bool:=if i=0 then true else match L[i-1]? with
 | some y=>decide (y.sent≤s)
 | none=>true
def nomOkB (xs:List Contract) (L:List Nomination) (i:Nat):Bool:=match L[i]? with
 | some x=>nomB xs x&&prevOk L i x.sent
 | none=>true
def nomsB (xs:List Contract) (L:List Nomination):Bool:=decide (L.length≤200)&&(List.range L.length).all (nomOkB xs L)
theorem nomOk_at {xs:List Contract} {L:List Nomination} {k:Nat} {x:Nomination} (h:L[k]? =some x):nomOkB xs L k=(nomB xs x&&prevOk L k x.sent):=by unfold nomOkB; rw [h]
theorem noms_no {xs:List Contract} {L:List Nomination} {n k:Nat} (hn:n=L.length) (hk:k<n) (h:nomOkB xs L k=false):nomsB xs L=false:=by
 unfold nomsB
 rw [all_range_false (by omega) h]; simp
theorem noms_yes {xs:List Contract} {L:List Nomination} {n:Nat} (hn:n=L.length) (h200:n≤200) (h:∀j,j<n→nomOkB xs L j=true):nomsB xs L=true:=by
 subst hn
 unfold nomsB
 rw [all_range_true h]; simp [h200]
theorem noms_long {xs:List Contract} {L:List Nomination} {n:Nat} (hn:n=L.length) (h:¬n≤200):nomsB xs L=false:=by
 subst hn
 unfold nomsB; simp [h]
theorem prev_zero (L:List Nomination) (s:Int):prevOk L 0 s=true:=rfl
theorem prev_at {L:List Nomination} {k:Nat} {s:Int} {y:Nomination} (h:L[k]? =some y):prevOk L (k+1) s=decide (y.sent≤s):=by
 unfold prevOk; rw [if_neg (by omega),Nat.add_sub_cancel,h]
def nomC (n1:Int) (ns:List Node) (ps:List Pipe) (xs:List Contract) (L:List Nomination):Int:=if bookC n1 ns ps xs=0 then (if nomsB xs L=false then 5 else 0) else bookC n1 ns ps xs
theorem book_zero {n1:Int} {ns:List Node} {ps:List Pipe} {xs:List Contract} (h:bookC n1 ns ps xs=0):netB ns ps=true∧bookB n1 xs=true:=by
 unfold bookC at h
 split at h
 ·cases h
 ·split at h
  ·cases h
  ·simp_all
set_option maxHeartbeats 4000000 in
theorem c_checkNominations (A1 A2:Option Addr) (n1 c1 n2 c2:Nat) (ns:List Node) (ps:List Pipe) (A:Option Addr) (n c:Nat) (xs:List Contract) (B:Option Addr) (m d:Nat) (L:List Nomination) (w:World) (hs1:SliceOf w 3 Node.cells A1 n1 c1 ns) (hs2:SliceOf w 5 Pipe.cells A2 n2 c2 ps) (hs:SliceOf w 8 Contract.cells A n c xs) (hL:SliceOf w 4 Nomination.cells B m d L):
  Calls Tryz.prog 130 #[.agg #[.slice A1 n1 c1,.slice A2 n2 c2],.slice A n c,.slice B m d] w (Ret (.int .i64 (nomC n1 ns ps xs L)) w):=by
 have hm:=hL.max
 have hcap:=hL.cap
 have HL:=hide hL.len
 by_cases hb0:bookC n1 ns ps xs=0
 case neg=>
  have hb1:(bookC n1 ns ps xs != 0)=true:=by simpa using hb0
  have HR:=hide (show nomC n1 ns ps xs L=bookC n1 ns ps xs by simp [nomC,hb0])
  clear hb0
  go_enter Tryz.func130,Tryz.ntmps130
  go_wp2_with fail
  refine (c_checkBook A1 A2 n1 c1 n2 c2 ns ps A n c xs _ (hs1.ext (Ext.alloc _ _)) (hs2.ext (Ext.alloc _ _)) (hs.ext (Ext.alloc _ _))).mono ?_
  generalize bookC n1 ns ps xs=B0 at *
  rintro e w1 ⟨rfl,hx1⟩
  go_wp2_with fail
  go_ret
  exact Ret.int HR.out hx1.box
 have hok:=book_hours (book_zero hb0).2
 have HOK:=hide hok
 have HB:=hide hb0
 have HRn:=hide (show nomsB xs L=false→nomC n1 ns ps xs L=5 by intro h; simp [nomC,hb0,h])
 have HRy:=hide (show nomsB xs L=true→nomC n1 ns ps xs L=0 by intro h; simp [nomC,hb0,h])
 clear hok hb0
 by_cases h200:m≤200
 case neg=>
  have HR:=hide (HRn.out (noms_long HL.out h200))
  have h2':(200:Int)<m:=by omega
  go_enter Tryz.func130,Tryz.ntmps130
  go_wp2_with fail
  refine (c_checkBook A1 A2 n1 c1 n2 c2 ns ps A n c xs _ (hs1.ext (Ext.alloc _ _)) (hs2.ext (Ext.alloc _ _)) (hs.ext (Ext.alloc _ _))).mono ?_
  rw [HB.out]
  rintro e w1 ⟨rfl,hx1⟩
  go_wp2_with fail
  go_ret
  exact Ret.int HR.out hx1.box
 go_enter Tryz.func130,Tryz.ntmps130
 go_wp2_with fail
 refine (c_checkBook A1 A2 n1 c1 n2 c2 ns ps A n c xs _ (hs1.ext (Ext.alloc _ _)) (hs2.ext (Ext.alloc _ _)) (hs.ext (Ext.alloc _ _))).mono ?_
 rw [HB.out]
 rintro e w1 ⟨rfl,hx1⟩
 have hx0:=hx1.box
 clear hx1
 go_wp2_with fail
 go_loopw [21] (fun i wr=>∃k:Nat,k≤m∧i= .int .i64 k∧Hid (∀j,j<k→nomOkB xs L j=true)∧Ext w wr) (fun i _=>m-(intOf i).toNat)
 case atStart=>exact ⟨0,Nat.zero_le _,rfl,hide (fun j hj=>absurd hj (by omega)),hx0⟩
 case round=>
  obtain ⟨k,hk,rfl,HK,hx⟩:=hrel
  clear hx0
  by_cases hlt:k<m
  ·obtain ⟨bb,off,x,rfl,hbb,hxk,t⟩:=(hL.ext hx).get hlt
   have t0:=(t 0 _ rfl)
   have t1:=(t 1 _ rfl)
   have t2:=(t 2 _ rfl)
   have t3:=(t 3 _ rfl)
   simp only [Nat.add_zero] at t0
   clear t
   have HX:=hide (nomOk_at (xs:=xs) hxk)
   have hR:=Row.new wr 79 [.int .i64 x.contract,.int .i64 x.hour,.int .i64 x.sent,.int .i64 x.amount]
   have q0:=hR.cell 0
   have q1:=hR.cell 1
   have q2:=hR.cell 2
   have q3:=hR.cell 3
   simp at q0 q1 q2 q3
   have hl:=hR.lt
   have hL':=hL.ext hx
   clear hxk
   rcases Nat.eq_zero_or_pos k with hk0 | hk0
   ·have HP:=hide (show prevOk L k x.sent=true by rw [hk0]; exact prev_zero L x.sent)
    have hk0':decide (0<k)=false:=by simp; omega
    clear hk0
    rw [HP.out,Bool.and_true] at HX
    go_wp2_with fail
    refine wp_region_ph [([0,1],2)] [3,4,5,6,7,8,9,10,11,12,13,14,15,16,17,18] (by kernel_rfl) (by kernel_rfl) (by intro c a w d v h; cases d <;> exact h) ?_
    simp only [wpPh,pickL,nthO]
    repeat (go_big_quiet_step (fail))
    refine wpQuiet_nil ?_
    go_wp2_with fail
    refine (c_isNomination A n c xs x _ (hs.ext ((hx.and_alloc _).drew)) HOK.out).mono ?_
    cases hp:nomB xs x
    ·rw [hp] at HX
     have HR:=hide (HRn.out (noms_no HL.out hlt HX.out))
     rintro e w2 ⟨rfl,hx2⟩
     go_wp2_with fail
     refine ⟨hx2,?_⟩
     repeat (go_big_quiet_step (fail))
     refine wpQuiet_nil ?_
     go_wp2_with fail
     go_ret
     exact Ret.int HR.out ((hx.and_alloc _).drew.trans hx2)
    ·rw [hp] at HX
     have HO:=hide (all_upto HK.out HX.out)
     rintro e w2 ⟨rfl,hx2⟩
     go_wp2_with fail
     refine ⟨hx2,?_⟩
     repeat (go_big_quiet_step (fail))
     refine wpQuiet_nil ?_
     go_wp2_with fail
     go_roundw
     case rel=>exact ⟨k+1,by omega,by go_num,HO,(hx.and_alloc _).drew.trans hx2⟩
     case measure=>simp [intOf]; omega
   ·obtain ⟨k',hkk⟩:∃k',k=k'+1:=⟨k-1,by omega⟩
    have hk1:k'<m:=by omega
    obtain ⟨y,hyk,u⟩:=hL'.at_ hk1
    have u2:=u 2 _ rfl
    have HP:=hide (show prevOk L k x.sent=decide (y.sent≤x.sent) by rw [hkk]; exact prev_at (s:=x.sent) hyk)
    have hidx:(k:Int)-1=(k':Int):=by omega
    have hk0':decide (0<k)=true:=by simp; omega
    clear u hyk hkk
    go_wp2_with fail
    refine wp_region_ph [([0,1],2)] [3,4,5,6,7,8,9,10,11,12,13,14,15,16,17,18] (by kernel_rfl) (by kernel_rfl) (by intro c a w d v h; cases d <;> exact h) ?_
    simp only [wpPh,pickL,nthO]
    repeat (go_big_quiet_step (fail))
    refine wpQuiet_nil ?_
    go_wp2_with fail
    refine (c_isNomination A n c xs x _ (hs.ext ((hx.and_alloc _).drew)) HOK.out).mono ?_
    cases hp:nomB xs x
    ·rw [hp] at HX
     have HR:=hide (HRn.out (noms_no HL.out hlt HX.out))
     rintro e w2 ⟨rfl,hx2⟩
     go_wp2_with fail
     refine ⟨hx2,?_⟩
     repeat (go_big_quiet_step (fail))
     refine wpQuiet_nil ?_
     go_wp2_with fail
     go_ret
     exact Ret.int HR.out ((hx.and_alloc _).drew.trans hx2)
    rw [hp] at HX
    rintro e w2 ⟨rfl,hx2⟩
    have hxa:=(Ext.refl (wr.alloc (.cells #[.int .i64 x.contract,.int .i64 x.hour,.int .i64 x.sent,.int .i64 x.amount] 79))).drew.trans hx2
    have hR2:=hR.ext hxa
    have v2:=hR2.cell 2
    simp at v2
    have hl2:=hR2.lt
    have u2':w2.cell? ⟨bb,off+k'*4+2,none⟩=some (.int .i64 y.sent):=((hxa.box).cell _ _ hbb).trans u2
    have hbb2:bb<w2.heap.size:=Nat.lt_of_lt_of_le hbb hxa.box.size
    by_cases hq:y.sent≤x.sent
    ·rw [HP.out,decide_eq_true hq] at HX
     have HO:=hide (all_upto HK.out HX.out)
     have hq':decide (x.sent<y.sent)=false:=by simp; omega
     go_wp2_with fail
     refine ⟨hx2,?_⟩
     repeat (go_big_quiet_step (fail))
     refine wpQuiet_nil ?_
     go_wp2_with fail
     go_roundw
     case rel=>exact ⟨k+1,by omega,by go_num,HO,hx.trans hxa.box⟩
     case measure=>simp [intOf]; omega
    ·rw [HP.out,decide_eq_false hq] at HX
     have HR:=hide (HRn.out (noms_no HL.out hlt HX.out))
     have hq':decide (x.sent<y.sent)=true:=by simp; omega
     go_wp2_with fail
     refine ⟨hx2,?_⟩
     repeat (go_big_quiet_step (fail))
     refine wpQuiet_nil ?_
     go_wp2_with fail
     go_ret
     exact Ret.int HR.out (hx.trans hxa.box)
  ·have HR:=hide (HRy.out (noms_yes HL.out h200 (fun j hj=>HK.out j (by omega))))
   go_wp2_with fail
   go_ret
   exact Ret.int HR.out hx
set_option maxHeartbeats 4000000 in
theorem c_l21List (A:Option Addr) (n c:Nat) (xs:List Contract) (B:Option Addr) (m d:Nat) (L:List Nomination) (w:World) (hs:SliceOf w 8 Contract.cells A n c xs) (hL:SliceOf w 4 Nomination.cells B m d L) (hok:HoursOk xs):
  Calls Tryz.prog 133 #[.slice A n c,.slice B m d] w (Ret (.bool (nomsB xs L)) w):=by
 have hm:=hL.max
 have hcap:=hL.cap
 have HL:=hide hL.len
 have HOK:=hide hok
 clear hok
 by_cases h200:m≤200
 case neg=>
  have HR:=hide (noms_long (xs:=xs) HL.out h200)
  have h2':(200:Int)<m:=by omega
  go_enter Tryz.func133,Tryz.ntmps133
  go_wp2_with fail
  go_ret
  exact Ret.bool HR.out (Ext.refl _)
 go_enter Tryz.func133,Tryz.ntmps133
 go_wp2_with fail
 go_loopw [5] (fun i wr=>∃k:Nat,k≤m∧i= .int .i64 k∧Hid (∀j,j<k→nomOkB xs L j=true)∧Ext w wr) (fun i _=>m-(intOf i).toNat)
 case atStart=>exact ⟨0,Nat.zero_le _,rfl,hide (fun j hj=>absurd hj (by omega)),Ext.refl _⟩
 case round=>
  obtain ⟨k,hk,rfl,HK,hx⟩:=hrel
  by_cases hlt:k<m
  ·obtain ⟨bb,off,x,rfl,hbb,hxk,t⟩:=(hL.ext hx).get hlt
   have t0:=(t 0 _ rfl)
   have t1:=(t 1 _ rfl)
   have t2:=(t 2 _ rfl)
   have t3:=(t 3 _ rfl)
   simp only [Nat.add_zero] at t0
   clear t
   have HX:=hide (nomOk_at (xs:=xs) hxk)
   have hL':=hL.ext hx
   clear hxk
   rcases Nat.eq_zero_or_pos k with hk0 | hk0
   ·have HP:=hide (show prevOk L k x.sent=true by rw [hk0]; exact prev_zero L x.sent)
    have hk0':decide (0<k)=false:=by simp; omega
    clear hk0
    rw [HP.out,Bool.and_true] at HX
    go_wp2_with fail
    refine wp_region_ph [([0,1,2,3,4],5)] [6,7,8,9,10,11,12,13,14,15,16,17,18,19,20,21,22,23,24] (by kernel_rfl) (by kernel_rfl) (by intro c a w d v h; cases d <;> exact h) ?_
    simp only [wpPh,pickL,nthO]
    repeat (go_big_quiet_step (fail))
    refine wpQuiet_nil ?_
    go_wp2_with fail
    refine (c_l21Is A n c xs x _ (hs.ext hx.drew) HOK.out).mono ?_
    cases hp:nomB xs x
    ·rw [hp] at HX
     have HR:=hide (noms_no HL.out hlt HX.out)
     rintro e w2 ⟨rfl,hx2⟩
     go_wp2_with fail
     refine ⟨hx2,?_⟩
     repeat (go_big_quiet_step (fail))
     refine wpQuiet_nil ?_
     go_wp2_with fail
     go_ret
     exact Ret.bool HR.out (hx.drew.trans hx2)
    ·rw [hp] at HX
     have HO:=hide (all_upto HK.out HX.out)
     rintro e w2 ⟨rfl,hx2⟩
     go_wp2_with fail
     refine ⟨hx2,?_⟩
     repeat (go_big_quiet_step (fail))
     refine wpQuiet_nil ?_
     go_wp2_with fail
     go_roundw
     case rel=>exact ⟨k+1,by omega,by go_num,HO,hx.drew.trans hx2⟩
     case measure=>simp [intOf]; omega
   ·obtain ⟨k',hkk⟩:∃k',k=k'+1:=⟨k-1,by omega⟩
    have hk1:k'<m:=by omega
    obtain ⟨y,hyk,u⟩:=hL'.at_ hk1
    have u2:=u 2 _ rfl
    have HP:=hide (show prevOk L k x.sent=decide (y.sent≤x.sent) by rw [hkk]; exact prev_at (s:=x.sent) hyk)
    have hidx:(k:Int)-1=(k':Int):=by omega
    have hk0':decide (0<k)=true:=by simp; omega
    clear u hyk hkk
    go_wp2_with fail
    refine wp_region_ph [([0,1,2,3,4],5)] [6,7,8,9,10,11,12,13,14,15,16,17,18,19,20,21,22,23,24] (by kernel_rfl) (by kernel_rfl) (by intro c a w d v h; cases d <;> exact h) ?_
    simp only [wpPh,pickL,nthO]
    repeat (go_big_quiet_step (fail))
    refine wpQuiet_nil ?_
    go_wp2_with fail
    refine (c_l21Is A n c xs x _ (hs.ext hx.drew) HOK.out).mono ?_
    cases hp:nomB xs x
    ·rw [hp] at HX
     have HR:=hide (noms_no HL.out hlt HX.out)
     rintro e w2 ⟨rfl,hx2⟩
     go_wp2_with fail
     refine ⟨hx2,?_⟩
     repeat (go_big_quiet_step (fail))
     refine wpQuiet_nil ?_
     go_wp2_with fail
     go_ret
     exact Ret.bool HR.out (hx.drew.trans hx2)
    rw [hp] at HX
    rintro e w2 ⟨rfl,hx2⟩
    have hxa:=(Ext.refl wr).drew.trans hx2
    have u2':w2.cell? ⟨bb,off+k'*4+2,none⟩=some (.int .i64 y.sent):=(hxa.cell _ _ hbb).trans u2
    have t2':w2.cell? ⟨bb,off+k*4+2,none⟩=some (.int .i64 x.sent):=(hxa.cell _ _ hbb).trans t2
    have hbb2:bb<w2.heap.size:=Nat.lt_of_lt_of_le hbb hxa.size
    by_cases hq:y.sent≤x.sent
    ·rw [HP.out,decide_eq_true hq] at HX
     have HO:=hide (all_upto HK.out HX.out)
     have hq':decide (x.sent<y.sent)=false:=by simp; omega
     go_wp2_with fail
     refine ⟨hx2,?_⟩
     repeat (go_big_quiet_step (fail))
     refine wpQuiet_nil ?_
     go_wp2_with fail
     go_roundw
     case rel=>exact ⟨k+1,by omega,by go_num,HO,hx.trans hxa⟩
     case measure=>simp [intOf]; omega
    ·rw [HP.out,decide_eq_false hq] at HX
     have HR:=hide (noms_no HL.out hlt HX.out)
     have hq':decide (x.sent<y.sent)=true:=by simp; omega
     go_wp2_with fail
     refine ⟨hx2,?_⟩
     repeat (go_big_quiet_step (fail))
     refine wpQuiet_nil ?_
     go_wp2_with fail
     go_ret
     exact Ret.bool HR.out (hx.trans hxa)
  ·have HR:=hide (noms_yes HL.out h200 (fun j hj=>HK.out j (by omega)))
   go_wp2_with fail
   go_ret
   exact Ret.bool HR.out hx
def nomsOk (n1:Int) (ns:List Node) (ps:List Pipe) (xs:List Contract) (L:List Nomination):Bool:=netB ns ps&&bookB n1 xs&&nomsB xs L
theorem nomC_ok (n1:Int) (ns:List Node) (ps:List Pipe) (xs:List Contract) (L:List Nomination):(nomC n1 ns ps xs L==0)=nomsOk n1 ns ps xs L:=by
 unfold nomC bookC nomsOk
 cases netB ns ps <;> cases bookB n1 xs <;> cases nomsB xs L <;> simp
theorem c_AreNominations (A1 A2:Option Addr) (n1 c1 n2 c2:Nat) (ns:List Node) (ps:List Pipe) (A:Option Addr) (n c:Nat) (xs:List Contract) (B:Option Addr) (m d:Nat) (L:List Nomination) (w:World) (hs1:SliceOf w 3 Node.cells A1 n1 c1 ns) (hs2:SliceOf w 5 Pipe.cells A2 n2 c2 ps) (hs:SliceOf w 8 Contract.cells A n c xs) (hL:SliceOf w 4 Nomination.cells B m d L):
  Calls Tryz.prog 83 #[.agg #[.slice A1 n1 c1,.slice A2 n2 c2],.slice A n c,.slice B m d] w (Ret (.bool (nomsOk n1 ns ps xs L)) w):=by
 have HR:=hide (nomC_ok n1 ns ps xs L)
 go_enter Tryz.func83,Tryz.ntmps83
 go_wp2_with fail
 refine (c_checkNominations A1 A2 n1 c1 n2 c2 ns ps A n c xs B m d L _ (hs1.ext (Ext.alloc _ _)) (hs2.ext (Ext.alloc _ _)) (hs.ext (Ext.alloc _ _)) (hL.ext (Ext.alloc _ _))).mono ?_
 generalize nomC n1 ns ps xs L=z at *
 rintro e w1 ⟨rfl,hx1⟩
 go_wp2_with fail
 go_ret
 exact Ret.bool HR.out.symm hx1.box
theorem c_specAreNominations (A1 A2:Option Addr) (n1 c1 n2 c2:Nat) (ns:List Node) (ps:List Pipe) (A:Option Addr) (n c:Nat) (xs:List Contract) (B:Option Addr) (m d:Nat) (L:List Nomination) (w:World) (hs1:SliceOf w 3 Node.cells A1 n1 c1 ns) (hs2:SliceOf w 5 Pipe.cells A2 n2 c2 ps) (hs:SliceOf w 8 Contract.cells A n c xs) (hL:SliceOf w 4 Nomination.cells B m d L) (hnm:∀x∈ns,x.name.size≤1048576):
  Calls Tryz.prog 88 #[.agg #[.slice A1 n1 c1,.slice A2 n2 c2],.slice A n c,.slice B m d] w (Ret (.bool (nomsOk n1 ns ps xs L)) w):=by
 cases hb:(netB ns ps&&bookB n1 xs)
 ·have HR:=hide (show nomsOk n1 ns ps xs L=false by unfold nomsOk; rw [hb]; rfl)
  go_enter Tryz.func88,Tryz.ntmps88
  go_wp2_with fail
  refine (c_specIsBook A1 A2 n1 c1 n2 c2 ns ps A n c xs _ (hs1.ext (Ext.alloc _ _)) (hs2.ext (Ext.alloc _ _)) (hs.ext (Ext.alloc _ _)) hnm).mono ?_
  rw [hb]
  rintro e w1 ⟨rfl,hx1⟩
  go_wp2_with fail
  go_ret
  exact Ret.bool HR.out hx1.box
 ·have HR:=hide (show nomsOk n1 ns ps xs L=nomsB xs L by unfold nomsOk; rw [hb]; rfl)
  have hok:HoursOk xs:=book_hours (nn:=n1) (by rw [Bool.and_eq_true] at hb; exact hb.2)
  go_enter Tryz.func88,Tryz.ntmps88
  go_wp2_with fail
  refine (c_specIsBook A1 A2 n1 c1 n2 c2 ns ps A n c xs _ (hs1.ext (Ext.alloc _ _)) (hs2.ext (Ext.alloc _ _)) (hs.ext (Ext.alloc _ _)) hnm).mono ?_
  rw [hb]
  rintro e w1 ⟨rfl,hx1⟩
  go_wp2_with fail
  refine (c_l21List A n c xs B m d L _ (hs.ext hx1.box) (hL.ext hx1.box) hok).mono ?_
  rintro e w2 ⟨rfl,hx2⟩
  go_wp2_with fail
  go_ret
  exact Ret.bool HR.out (hx1.box.trans hx2)
end Go.Proofs.YtinindjjapblcaaGreatDoor
namespace Go.Proofs.YtinindjjapblcaaGreatDoor
open Go.RowKit
structure Reading where
 node:Int
 amount:Int
def Reading.cells (x:Reading):List Value:=[.int .i64 x.node,.int .i64 x.amount]
theorem reading_len (x:Reading):x.cells.length=2:=rfl
theorem reading_info:(Tryz.prog.info? 84).map (fun i=>(i.zero,i.size,i.bytes))=some (some (.agg #[.int .i64 0,.int .i64 0]),2,16):=by kernel_rfl
theorem c_eqReading (x:Reading) (w:World):
  Calls Tryz.prog 167 #[.agg #[.int .i64 x.node,.int .i64 x.amount],.agg #[.int .i64 x.node,.int .i64 x.amount]] w (Ret (.bool true) w):=by
 go_enter Tryz.func167,Tryz.ntmps167
 go_wp2
 go_ret
 exact Ret.bool rfl (((Ext.refl _).and_alloc _).and_alloc _)
set_option maxHeartbeats 1000000 in
theorem c_eqReadingS (A A':Option Addr) (n c n' c':Nat) (ts:List Reading) (w:World) (hs:SliceOf w 2 Reading.cells A n c ts) (hs':SliceOf w 2 Reading.cells A' n' c' ts):
  Calls Tryz.prog 122 #[.slice A n c,.slice A' n' c'] w (Ret (.bool true) w):=by
 have hl:=hs.len
 obtain rfl:n=n':=by rw [hs.len,hs'.len]
 have hm:=hs.max
 have hcp:=hs.cap
 clear hl
 go_enter Tryz.func122,Tryz.ntmps122
 go_wp2_with fail
 go_loopw [5] (fun i wr=>∃(k:Nat),k≤n∧i= .int .i64 k∧Ext w wr) (fun i _=>n-(intOf i).toNat)
 case atStart=>exact ⟨0,Nat.zero_le _,rfl,Ext.refl _⟩
 case round=>
  obtain ⟨k,hk,rfl,hx⟩:=hrel
  by_cases hlt:k<n
  ·obtain ⟨b,off,x,rfl,hb,hxk,hc⟩:=(hs.ext hx).get hlt
   obtain ⟨b',off',x',rfl,hb',hxk',hc'⟩:=(hs'.ext hx).get hlt
   obtain rfl:x=x':=by rw [hxk] at hxk'; injection hxk'
   have hc0:=hc 0 _ rfl
   have hc1:=hc 1 _ rfl
   have hd0:=hc' 0 _ rfl
   have hd1:=hc' 1 _ rfl
   clear hc hc' hxk hxk'
   simp only [Nat.add_zero] at hc0 hd0
   go_wp2_with fail
   refine wp_region_later (by kernel_rfl) (by kernel_rfl) ?_
   repeat (go_big_quiet_step ((go_at_call 167; exact quiet_later (c_eqReading x _))))
   refine wpQuiet_nil ?_
   intro w1 hx1
   go_wp2
   go_roundw
   case rel=>exact ⟨k+1,by omega,by go_num,hx.trans hx1⟩
   case measure=>simp [intOf]; omega
  ·go_wp2
   go_ret
   exact Ret.bool rfl hx
def markReading (a:Int) (n:Nat):List Reading:=(List.range n).map fun (i:Nat)=>⟨a+2*(i:Int),a+2*(i:Int)+1⟩
theorem markReading_at (a:Int) (n i:Nat) (h:i<n):(markReading a n)[i]? =some ⟨a+2*(i:Int),a+2*(i:Int)+1⟩:=by
 unfold markReading; rw [List.getElem?_map,List.getElem?_range h]; rfl
def MarkedReading (g:Nat) (A:Option Addr) (n:Nat) (a:Int) (w:World) (e:Ending) (w':World):Prop:=
 e= .returned (.int .i64 (a+2*n))∧OwnS w' g 84 Reading.cells A n (markReading a n)∧Only g w w'
set_option maxHeartbeats 1000000 in
theorem c_markReadingS (g:Nat) (A:Option Addr) (n c:Nat) (ts:List Reading) (a:Int) (w:World) (hown0:OwnS w g 84 Reading.cells A n ts) (hn:n≤1000000000) (hcap:n≤c) (hmax:c≤9223372036854775807) (ha0:0≤a) (ha1:a≤1000000000000):
  Calls Tryz.prog 126 #[.slice A n c,.int .i64 a] w (MarkedReading g A n a w):=by
 go_enter Tryz.func126,Tryz.ntmps126
 go_wp2_with fail
 go_loopw [1,5] (fun q i wr=>∃(k:Nat) (K:Int) (L:List Reading),k≤n∧q= .int .i64 K∧i= .int .i64 k∧a+2*(k:Int)≤K∧K≤a+2*(k:Int)∧OwnS wr g 84 Reading.cells A n L∧Hid (∀j,j<k→L[j]? =(markReading a n)[j]?)∧Only g w wr) (fun _ i _=>n-(intOf i).toNat)
 case atStart=>exact ⟨0,a,ts,Nat.zero_le _,rfl,rfl,by omega,by omega,hown0,hide (fun j hj=>absurd hj (by omega)),Only.refl _ _⟩
 case round=>
  obtain ⟨k,K,L,hk,rfl,rfl,hK0,hK1,hown,HK,hx⟩:=hrel
  by_cases hlt:k<n
  ·have hn0:0<n:=by omega
   obtain ⟨rfl,_⟩:=hown.2 hn0
   obtain ⟨v0,hv0⟩:=hown.there reading_len (i:=k) hlt (j:=0) (by omega)
   have hf0:=hown.frozen hn0 (k*2)
   obtain ⟨v1,hv1⟩:=hown.there reading_len (i:=k) hlt (j:=1) (by omega)
   have hf1:=hown.frozen hn0 (k*2+1)
   rw [Nat.add_zero] at hv0
   have HL:=hide hown.1
   go_wp2_with fail
   go_roundw
   case rel=>
    refine ⟨k+1,_,L.set k ⟨K,K+1⟩,by omega,rfl,by go_num,by omega,by omega,hown.put reading_len hlt ⟨K,K+1⟩,hide ?_,hx.put (k*2) (Reading.cells ⟨K,K+1⟩)⟩
    intro j hj
    rw [List.getElem?_set]
    by_cases e:k=j
    ·subst e
     rw [if_pos rfl,if_pos (by rw [←HL.out]; exact hlt),markReading_at _ _ _ hlt]
     congr 2 <;> omega
    ·rw [if_neg e]; exact HK.out j (by omega)
   case measure=>simp [intOf]; omega
  ·go_wp2_with fail
   go_ret
   have hLts:L=markReading a n:=by
    apply List.ext_getElem?
    intro j
    by_cases hj:j<n
    ·exact HK.out j (by omega)
    ·rw [List.getElem?_eq_none (by have:=hown.1; omega),List.getElem?_eq_none (by simp [markReading]; omega)]
   subst hLts
   refine ⟨?_,hown,hx⟩
   obtain rfl:k=n:=by omega
   have:K=a+2*(k:Int):=by omega
   rw [←this]; rfl
set_option maxRecDepth 8000 in
set_option maxHeartbeats 1000000 in
theorem c_heldReadingS (A:Option Addr) (n c:Nat) (a:Int) (w:World) (hs:SliceOf w 2 Reading.cells A n c (markReading a n)) (hn:n≤1000000000) (ha0:0≤a) (ha1:a≤1000000000000):
  Calls Tryz.prog 129 #[.slice A n c,.int .i64 a] w fun e w'=>e= .returned (.int .i64 (a+2*n))∧w=w':=by
 have hcap:=hs.cap
 have hmax:=hs.max
 go_enter Tryz.func129,Tryz.ntmps129
 go_wp2_with fail
 go_loop [1,5] (fun q i=>∃(k:Nat) (K:Int),k≤n∧q= .int .i64 K∧i= .int .i64 k∧a+2*(k:Int)≤K∧K≤a+2*(k:Int)) (fun _ i=>n-(intOf i).toNat)
 case atStart=>exact ⟨0,a,Nat.zero_le _,rfl,rfl,by omega,by omega⟩
 case round=>
  obtain ⟨k,K,hk,rfl,rfl,hK0,hK1⟩:=hrel
  by_cases hlt:k<n
  ·obtain ⟨b,off,x,rfl,hb,hxk,hc⟩:=hs.get hlt
   rw [markReading_at _ _ _ hlt] at hxk
   obtain rfl:(⟨K,K+1⟩:Reading)=x:=by
    injection hxk with hxk
    rw [←hxk]
    congr 1 <;> omega
   clear hxk
   have hc0:=hc 0 _ rfl
   have hc1:=hc 1 _ rfl
   clear hc
   simp only [Nat.add_zero] at hc0
   go_wp2_with fail
   go_round
   case rel=>exact ⟨k+1,_,by omega,rfl,by go_num,by omega,by omega⟩
   case measure=>simp [intOf]; omega
  ·go_wp2_with fail
   go_ret
   obtain rfl:k=n:=by omega
   have:K=a+2*(k:Int):=by omega
   exact ⟨by rw [←this]; rfl,rfl⟩
end Go.Proofs.YtinindjjapblcaaGreatDoor
