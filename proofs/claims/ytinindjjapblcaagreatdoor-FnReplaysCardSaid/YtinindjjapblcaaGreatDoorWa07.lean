/-
  Numbers in decimal, of the reference.
-/
import Derived.Test.YtinindjjapblcaaGreatDoorWa06
import Derived.Test.YtinindjjapblcaaGreatDoorWa02
import Derived.Laws.IdiomStrings
import Derived.Laws.BytesString
namespace Go.Proofs.YtinindjjapblcaaGreatDoor
open Go.RowKit Go.Lib
theorem decDigits_len:∀(k u:Nat),u<k→(decDigits u).length≤u+1:=by
 intro k
 induction k with
 | zero=>intro u h; omega
 | succ k ih=>
  intro u hk
  rw [decDigits]
  split
  ·simp
  ·have:=ih (u/10) (by omega)
   rw [List.length_append]
   simp
   omega
def dig (r:Nat):UInt8:=UInt8.ofNat (48+r)
theorem dig_conv (W:World) (g m:Nat) (hm:m<10) (h:W.cell? ⟨g,0,none⟩=some (.int .u8 (48+(m:Int)))):(convert 22 9 (.slice (some ⟨g,0,none⟩) 1 1)).run Tryz.prog W= .ok (.string (mkB [dig m])) W:=by
 have h:=run_convert_bytes_back (P:=Tryz.prog) W 22 9 5 ⟨g,0,none⟩ 1 [UInt8.ofNat (48+m)] Tryz.underlying22 Tryz.underlying5 Tryz.underlying9 (fun j hj=>by
  obtain rfl:j=0:=by simp at hj; omega
  have:(Addr.add ⟨g,0,none⟩ 0)=⟨g,0,none⟩:=rfl
  rw [this,h]
  simp
  omega)
 exact h
def KB (c:Int):Value→World→Prop:=fun v w=>∃g,v= .slice (some ⟨g,0,none⟩) 1 1∧Row w g 5 [.int .u8 c]
theorem stKB (c:Int):stK (KB c):=fun _ _ _ ⟨g,h1,h2⟩ hx=>⟨g,h1,h2.ext hx⟩
set_option maxHeartbeats 2000000 in
set_option maxRecDepth 8000 in
theorem c_l01Dec (n:Nat) (hn:n≤4611686018427387904) (w:World):
  Calls Tryz.prog 166 #[.int .i64 n] w (Ret (.string (mkB (decDigits n))) w):=by
 induction n using Nat.strongRecOn generalizing w with
 | _ n ih=>
 by_cases h:n<10
 ·have e3:IntKind.i64.wrap (48+(n:Int))=48+(n:Int):=IntWalk.i64_in _ (by omega)
  have e4:IntKind.u8.wrap (48+(n:Int))=48+(n:Int):=by simp [IntKind.wrap,IntKind.signed,IntKind.bits]; omega
  have hcv:=dig_conv (w.alloc (.cells #[.int .u8 (48+(n:Int))] 5)) w.heap.size n h (by simp [World.cell?_alloc_mark])
  have HD:=hide (show decDigits n=[dig n] from decDigits_one h)
  go_enter Tryz.func166,Tryz.ntmps166
  go_wp2_with fail
  go_ret
  exact Ret.of (by rw [HD.out]; rfl) (Ext.alloc _ _)
 ·have HD:=hide (show decDigits n=decDigits (n/10)++[dig (n % 10)] by rw [decDigits,dif_neg h]; rfl)
  have hl:=decDigits_len (n/10+1) (n/10) (Nat.lt_succ_self _)
  have hsz:¬9223372036854775807<(mkB (decDigits (n/10))).size+(mkB [dig (n % 10)]).size:=by rw [mkB_size,mkB_size]; simp; omega
  have e1:(n:Int).tmod 10=((n % 10:Nat):Int):=by rw [Int.tmod_eq_emod_of_nonneg (by omega)]; omega
  have e2:(n:Int).tdiv 10=((n/10:Nat):Int):=by rw [Int.tdiv_eq_ediv_of_nonneg (by omega)]; omega
  have e3:IntKind.i64.wrap (48+((n % 10:Nat):Int))=48+((n % 10:Nat):Int):=IntWalk.i64_in _ (by omega)
  have e4:IntKind.u8.wrap (48+((n % 10:Nat):Int))=48+((n % 10:Nat):Int):=by simp [IntKind.wrap,IntKind.signed,IntKind.bits]; omega
  generalize hq:n/10=q at *
  generalize hr:n % 10=r at *
  have hr10:r<10:=by omega
  go_enter Tryz.func166,Tryz.ntmps166
  go_wp2_with fail
  refine wp_region_K [KC (.int .i64 n),KC (.int .i64 q),KC (.string (mkB (decDigits q))),KC (.int .i64 n),KC (.int .i64 r),KC (.int .i64 (48+(r:Int))),KC (.int .u8 (48+(r:Int))),KB (48+(r:Int)),KC (.string (mkB [dig r])),KC (.string (mkB (decDigits n)))]
   [0,1,2,3,4,5,6,7,8,9] [[],[0],[0,1],[],[3],[3,4],[3,4,5],[3,4,5,6],[3,4,5,6,7],[0,1,2,3,4,5,6,7,8],[0,1,2,3,4,5,6,7,8,9]] [] (.last [10]) (by kernel_rfl) (by kernel_rfl) (by intro c a w d v h; cases d <;> exact h) (by simp) ⟨stKC _,stKC _,stKC _,stKC _,stKC _,stKC _,stKC _,stKB _,stKC _,stKC _,trivial⟩ ?_ ?_
  ·refine ⟨?_,?_,?_,?_,?_,?_,?_,?_,?_,?_,trivial⟩
   ·intro ts wx hts hX hd
    obtain ⟨t0,ts0,rfl,hts0⟩:=vcons hts
    obtain ⟨t1,ts1,rfl,hts1⟩:=vcons hts0
    obtain ⟨t2,ts2,rfl,hts2⟩:=vcons hts1
    obtain ⟨t3,ts3,rfl,hts3⟩:=vcons hts2
    obtain ⟨t4,ts4,rfl,hts4⟩:=vcons hts3
    obtain ⟨t5,ts5,rfl,hts5⟩:=vcons hts4
    obtain ⟨t6,ts6,rfl,hts6⟩:=vcons hts5
    obtain ⟨t7,ts7,rfl,hts7⟩:=vcons hts6
    obtain ⟨t8,ts8,rfl,hts8⟩:=vcons hts7
    obtain ⟨t9,ts9,rfl,hts9⟩:=vcons hts8
    obtain ⟨t10,ts10,rfl,hts10⟩:=vcons hts9
    obtain rfl:=vnil hts10
    clear hts hts0 hts1 hts2 hts3 hts4 hts5 hts6 hts7 hts8 hts9 hts10
    simp only [putAll,nthO,Act.put,List.setIfInBounds_toArray,List.set_cons_succ,List.set_cons_zero]
    go_wp2_with fail
    exact ⟨Ext.refl _,_,rfl,rfl⟩
   ·intro ts wx hts hX hd
    obtain ⟨t0,ts0,rfl,hts0⟩:=vcons hts
    obtain ⟨t1,ts1,rfl,hts1⟩:=vcons hts0
    obtain ⟨t2,ts2,rfl,hts2⟩:=vcons hts1
    obtain ⟨t3,ts3,rfl,hts3⟩:=vcons hts2
    obtain ⟨t4,ts4,rfl,hts4⟩:=vcons hts3
    obtain ⟨t5,ts5,rfl,hts5⟩:=vcons hts4
    obtain ⟨t6,ts6,rfl,hts6⟩:=vcons hts5
    obtain ⟨t7,ts7,rfl,hts7⟩:=vcons hts6
    obtain ⟨t8,ts8,rfl,hts8⟩:=vcons hts7
    obtain ⟨t9,ts9,rfl,hts9⟩:=vcons hts8
    obtain ⟨t10,ts10,rfl,hts10⟩:=vcons hts9
    obtain rfl:=vnil hts10
    clear hts hts0 hts1 hts2 hts3 hts4 hts5 hts6 hts7 hts8 hts9 hts10
    simp only [putAll,nthO,Act.put,List.setIfInBounds_toArray,List.set_cons_succ,List.set_cons_zero]
    obtain ⟨rfl,_⟩:=hd
    go_wp2_with fail
    exact ⟨Ext.refl _,_,rfl,rfl⟩
   ·intro ts wx hts hX hd
    obtain ⟨t0,ts0,rfl,hts0⟩:=vcons hts
    obtain ⟨t1,ts1,rfl,hts1⟩:=vcons hts0
    obtain ⟨t2,ts2,rfl,hts2⟩:=vcons hts1
    obtain ⟨t3,ts3,rfl,hts3⟩:=vcons hts2
    obtain ⟨t4,ts4,rfl,hts4⟩:=vcons hts3
    obtain ⟨t5,ts5,rfl,hts5⟩:=vcons hts4
    obtain ⟨t6,ts6,rfl,hts6⟩:=vcons hts5
    obtain ⟨t7,ts7,rfl,hts7⟩:=vcons hts6
    obtain ⟨t8,ts8,rfl,hts8⟩:=vcons hts7
    obtain ⟨t9,ts9,rfl,hts9⟩:=vcons hts8
    obtain ⟨t10,ts10,rfl,hts10⟩:=vcons hts9
    obtain rfl:=vnil hts10
    clear hts hts0 hts1 hts2 hts3 hts4 hts5 hts6 hts7 hts8 hts9 hts10
    simp only [putAll,nthO,Act.put,List.setIfInBounds_toArray,List.set_cons_succ,List.set_cons_zero]
    obtain ⟨_,rfl,_⟩:=hd
    go_wp2_with fail
    refine (ih q (by omega) (by omega) _).mono ?_
    rintro e w2 ⟨rfl,hx2⟩
    go_wp2_with fail
    exact ⟨hx2,_,rfl,rfl⟩
   ·intro ts wx hts hX hd
    obtain ⟨t0,ts0,rfl,hts0⟩:=vcons hts
    obtain ⟨t1,ts1,rfl,hts1⟩:=vcons hts0
    obtain ⟨t2,ts2,rfl,hts2⟩:=vcons hts1
    obtain ⟨t3,ts3,rfl,hts3⟩:=vcons hts2
    obtain ⟨t4,ts4,rfl,hts4⟩:=vcons hts3
    obtain ⟨t5,ts5,rfl,hts5⟩:=vcons hts4
    obtain ⟨t6,ts6,rfl,hts6⟩:=vcons hts5
    obtain ⟨t7,ts7,rfl,hts7⟩:=vcons hts6
    obtain ⟨t8,ts8,rfl,hts8⟩:=vcons hts7
    obtain ⟨t9,ts9,rfl,hts9⟩:=vcons hts8
    obtain ⟨t10,ts10,rfl,hts10⟩:=vcons hts9
    obtain rfl:=vnil hts10
    clear hts hts0 hts1 hts2 hts3 hts4 hts5 hts6 hts7 hts8 hts9 hts10
    simp only [putAll,nthO,Act.put,List.setIfInBounds_toArray,List.set_cons_succ,List.set_cons_zero]
    go_wp2_with fail
    exact ⟨Ext.refl _,_,rfl,rfl⟩
   ·intro ts wx hts hX hd
    obtain ⟨t0,ts0,rfl,hts0⟩:=vcons hts
    obtain ⟨t1,ts1,rfl,hts1⟩:=vcons hts0
    obtain ⟨t2,ts2,rfl,hts2⟩:=vcons hts1
    obtain ⟨t3,ts3,rfl,hts3⟩:=vcons hts2
    obtain ⟨t4,ts4,rfl,hts4⟩:=vcons hts3
    obtain ⟨t5,ts5,rfl,hts5⟩:=vcons hts4
    obtain ⟨t6,ts6,rfl,hts6⟩:=vcons hts5
    obtain ⟨t7,ts7,rfl,hts7⟩:=vcons hts6
    obtain ⟨t8,ts8,rfl,hts8⟩:=vcons hts7
    obtain ⟨t9,ts9,rfl,hts9⟩:=vcons hts8
    obtain ⟨t10,ts10,rfl,hts10⟩:=vcons hts9
    obtain rfl:=vnil hts10
    clear hts hts0 hts1 hts2 hts3 hts4 hts5 hts6 hts7 hts8 hts9 hts10
    simp only [putAll,nthO,Act.put,List.setIfInBounds_toArray,List.set_cons_succ,List.set_cons_zero]
    obtain ⟨rfl,_⟩:=hd
    go_wp2_with fail
    exact ⟨Ext.refl _,_,rfl,rfl⟩
   ·intro ts wx hts hX hd
    obtain ⟨t0,ts0,rfl,hts0⟩:=vcons hts
    obtain ⟨t1,ts1,rfl,hts1⟩:=vcons hts0
    obtain ⟨t2,ts2,rfl,hts2⟩:=vcons hts1
    obtain ⟨t3,ts3,rfl,hts3⟩:=vcons hts2
    obtain ⟨t4,ts4,rfl,hts4⟩:=vcons hts3
    obtain ⟨t5,ts5,rfl,hts5⟩:=vcons hts4
    obtain ⟨t6,ts6,rfl,hts6⟩:=vcons hts5
    obtain ⟨t7,ts7,rfl,hts7⟩:=vcons hts6
    obtain ⟨t8,ts8,rfl,hts8⟩:=vcons hts7
    obtain ⟨t9,ts9,rfl,hts9⟩:=vcons hts8
    obtain ⟨t10,ts10,rfl,hts10⟩:=vcons hts9
    obtain rfl:=vnil hts10
    clear hts hts0 hts1 hts2 hts3 hts4 hts5 hts6 hts7 hts8 hts9 hts10
    simp only [putAll,nthO,Act.put,List.setIfInBounds_toArray,List.set_cons_succ,List.set_cons_zero]
    obtain ⟨_,rfl,_⟩:=hd
    go_wp2_with fail
    exact ⟨Ext.refl _,_,rfl,rfl⟩
   ·intro ts wx hts hX hd
    obtain ⟨t0,ts0,rfl,hts0⟩:=vcons hts
    obtain ⟨t1,ts1,rfl,hts1⟩:=vcons hts0
    obtain ⟨t2,ts2,rfl,hts2⟩:=vcons hts1
    obtain ⟨t3,ts3,rfl,hts3⟩:=vcons hts2
    obtain ⟨t4,ts4,rfl,hts4⟩:=vcons hts3
    obtain ⟨t5,ts5,rfl,hts5⟩:=vcons hts4
    obtain ⟨t6,ts6,rfl,hts6⟩:=vcons hts5
    obtain ⟨t7,ts7,rfl,hts7⟩:=vcons hts6
    obtain ⟨t8,ts8,rfl,hts8⟩:=vcons hts7
    obtain ⟨t9,ts9,rfl,hts9⟩:=vcons hts8
    obtain ⟨t10,ts10,rfl,hts10⟩:=vcons hts9
    obtain rfl:=vnil hts10
    clear hts hts0 hts1 hts2 hts3 hts4 hts5 hts6 hts7 hts8 hts9 hts10
    simp only [putAll,nthO,Act.put,List.setIfInBounds_toArray,List.set_cons_succ,List.set_cons_zero]
    obtain ⟨_,_,rfl,_⟩:=hd
    go_wp2_with fail
    exact ⟨Ext.refl _,_,rfl,rfl⟩
   ·intro ts wx hts hX hd
    obtain ⟨t0,ts0,rfl,hts0⟩:=vcons hts
    obtain ⟨t1,ts1,rfl,hts1⟩:=vcons hts0
    obtain ⟨t2,ts2,rfl,hts2⟩:=vcons hts1
    obtain ⟨t3,ts3,rfl,hts3⟩:=vcons hts2
    obtain ⟨t4,ts4,rfl,hts4⟩:=vcons hts3
    obtain ⟨t5,ts5,rfl,hts5⟩:=vcons hts4
    obtain ⟨t6,ts6,rfl,hts6⟩:=vcons hts5
    obtain ⟨t7,ts7,rfl,hts7⟩:=vcons hts6
    obtain ⟨t8,ts8,rfl,hts8⟩:=vcons hts7
    obtain ⟨t9,ts9,rfl,hts9⟩:=vcons hts8
    obtain ⟨t10,ts10,rfl,hts10⟩:=vcons hts9
    obtain rfl:=vnil hts10
    clear hts hts0 hts1 hts2 hts3 hts4 hts5 hts6 hts7 hts8 hts9 hts10
    simp only [putAll,nthO,Act.put,List.setIfInBounds_toArray,List.set_cons_succ,List.set_cons_zero]
    obtain ⟨_,_,_,rfl,_⟩:=hd
    go_wp2_with fail
    exact ⟨Ext.alloc _ _,_,rfl,⟨_,rfl,Row.new _ _ _⟩⟩
   ·intro ts wx hts hX hd
    obtain ⟨t0,ts0,rfl,hts0⟩:=vcons hts
    obtain ⟨t1,ts1,rfl,hts1⟩:=vcons hts0
    obtain ⟨t2,ts2,rfl,hts2⟩:=vcons hts1
    obtain ⟨t3,ts3,rfl,hts3⟩:=vcons hts2
    obtain ⟨t4,ts4,rfl,hts4⟩:=vcons hts3
    obtain ⟨t5,ts5,rfl,hts5⟩:=vcons hts4
    obtain ⟨t6,ts6,rfl,hts6⟩:=vcons hts5
    obtain ⟨t7,ts7,rfl,hts7⟩:=vcons hts6
    obtain ⟨t8,ts8,rfl,hts8⟩:=vcons hts7
    obtain ⟨t9,ts9,rfl,hts9⟩:=vcons hts8
    obtain ⟨t10,ts10,rfl,hts10⟩:=vcons hts9
    obtain rfl:=vnil hts10
    clear hts hts0 hts1 hts2 hts3 hts4 hts5 hts6 hts7 hts8 hts9 hts10
    simp only [putAll,nthO,Act.put,List.setIfInBounds_toArray,List.set_cons_succ,List.set_cons_zero]
    obtain ⟨_,_,_,_,⟨g,rfl,hg⟩,_⟩:=hd
    have hcv:=dig_conv wx g r hr10 (by have:=hg.cell 0; simpa using this)
    go_wp2_with fail
    exact ⟨Ext.refl _,_,rfl,rfl⟩
   ·intro ts wx hts hX hd
    obtain ⟨t0,ts0,rfl,hts0⟩:=vcons hts
    obtain ⟨t1,ts1,rfl,hts1⟩:=vcons hts0
    obtain ⟨t2,ts2,rfl,hts2⟩:=vcons hts1
    obtain ⟨t3,ts3,rfl,hts3⟩:=vcons hts2
    obtain ⟨t4,ts4,rfl,hts4⟩:=vcons hts3
    obtain ⟨t5,ts5,rfl,hts5⟩:=vcons hts4
    obtain ⟨t6,ts6,rfl,hts6⟩:=vcons hts5
    obtain ⟨t7,ts7,rfl,hts7⟩:=vcons hts6
    obtain ⟨t8,ts8,rfl,hts8⟩:=vcons hts7
    obtain ⟨t9,ts9,rfl,hts9⟩:=vcons hts8
    obtain ⟨t10,ts10,rfl,hts10⟩:=vcons hts9
    obtain rfl:=vnil hts10
    clear hts hts0 hts1 hts2 hts3 hts4 hts5 hts6 hts7 hts8 hts9 hts10
    simp only [putAll,nthO,Act.put,List.setIfInBounds_toArray,List.set_cons_succ,List.set_cons_zero]
    obtain ⟨_,_,rfl,_,_,_,_,_,rfl,_⟩:=hd
    go_wp2_with fail
    exact ⟨Ext.refl _,_,rfl,by rw [mkB_append,HD.out]; rfl⟩
  ·intro ts wx hts hX hd
   obtain ⟨t0,ts0,rfl,hts0⟩:=vcons hts
   obtain ⟨t1,ts1,rfl,hts1⟩:=vcons hts0
   obtain ⟨t2,ts2,rfl,hts2⟩:=vcons hts1
   obtain ⟨t3,ts3,rfl,hts3⟩:=vcons hts2
   obtain ⟨t4,ts4,rfl,hts4⟩:=vcons hts3
   obtain ⟨t5,ts5,rfl,hts5⟩:=vcons hts4
   obtain ⟨t6,ts6,rfl,hts6⟩:=vcons hts5
   obtain ⟨t7,ts7,rfl,hts7⟩:=vcons hts6
   obtain ⟨t8,ts8,rfl,hts8⟩:=vcons hts7
   obtain ⟨t9,ts9,rfl,hts9⟩:=vcons hts8
   obtain ⟨t10,ts10,rfl,hts10⟩:=vcons hts9
   obtain rfl:=vnil hts10
   clear hts hts0 hts1 hts2 hts3 hts4 hts5 hts6 hts7 hts8 hts9 hts10
   simp only [putAll,Act.put,List.setIfInBounds_toArray,List.set_cons_succ,List.set_cons_zero]
   obtain ⟨-,-,-,-,-,-,-,-,-,rfl,-⟩:=hd
   simp only [wpPhT,pickL,nthO]
   repeat (go_big_quiet_step (fail))
   refine wpQuiet_nil ?_
   go_wp2_with fail
   go_ret
   exact Ret.of rfl hX
theorem c_l12Number (n:Int) (h0: -4611686018427387904≤n) (h1:n≤4611686018427387904) (w:World):
  Calls Tryz.prog 165 #[.int .i64 n] w (Ret (.string (mkB (itoa n))) w):=by
 by_cases h:n<0
 ·have HI:=hide (show itoa n=45::decDigits n.natAbs by unfold itoa; rw [if_pos h])
  have hl:=decDigits_len (n.natAbs+1) n.natAbs (Nat.lt_succ_self _)
  have hsz:¬9223372036854775807<(mkB [45]).size+(mkB (decDigits n.natAbs)).size:=by rw [mkB_size,mkB_size]; simp; omega
  have e1:IntKind.i64.wrap (-n)=(n.natAbs:Int):=by rw [IntWalk.i64_in _ (by omega)]; omega
  go_enter Tryz.func165,Tryz.ntmps165
  go_wp2_with fail
  refine (c_l01Dec n.natAbs (by omega) _).mono ?_
  rintro e w2 ⟨rfl,hx2⟩
  go_wp2_with fail
  go_ret
  exact Ret.of (by rw [HI.out]; rfl) hx2
 ·have HI:=hide (show itoa n=decDigits n.toNat by unfold itoa; rw [if_neg h])
  obtain ⟨m,rfl⟩:∃m:Nat,n=m:=⟨n.toNat,by omega⟩
  go_enter Tryz.func165,Tryz.ntmps165
  go_wp2_with fail
  refine (c_l01Dec m (by omega) _).mono ?_
  rintro e w2 ⟨rfl,hx2⟩
  go_wp2_with fail
  go_ret
  exact Ret.of (by rw [HI.out]; rfl) hx2
end Go.Proofs.YtinindjjapblcaaGreatDoor
