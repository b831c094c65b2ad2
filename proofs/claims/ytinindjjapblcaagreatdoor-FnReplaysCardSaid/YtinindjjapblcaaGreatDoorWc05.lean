/-
  The laws' comparisons of networks, readings, rooms that are equal.
-/
import Derived.Test.YtinindjjapblcaaGreatDoorWa18
import Derived.Test.YtinindjjapblcaaGreatDoorWa09
namespace Go.Proofs.YtinindjjapblcaaGreatDoor
open Go.RowKit
set_option maxHeartbeats 1000000 in
theorem c_likeReadings (A A':Option Addr) (n c n' c':Nat) (ts:List Reading) (w:World) (hs:SliceOf w 2 Reading.cells A n c ts) (hs':SliceOf w 2 Reading.cells A' n' c' ts):
  Calls Tryz.prog 56 #[.slice A n c,.slice A' n' c'] w (Ret (.bool true) w):=by
 obtain rfl:n=n':=by rw [hs.len,hs'.len]
 have hm:=hs.max
 have hcp:=hs.cap
 go_enter Tryz.func56,Tryz.ntmps56
 go_wp2_with fail
 go_loopw [5] (fun i wr=>∃(k:Nat),k≤n∧i= .int .i64 k∧Ext w wr) (fun i _=>n-(intOf i).toNat)
 case atStart=>exact ⟨0,Nat.zero_le _,rfl,Ext.refl _⟩
 case round=>
  obtain ⟨k,hk,rfl,hx⟩:=hrel
  by_cases hlt:k<n
  ·obtain ⟨b,off,x,rfl,hb,hxk,hc⟩:=(hs.ext hx).get hlt
   obtain ⟨b',off',x',rfl,hb',hxk',hd⟩:=(hs'.ext hx).get hlt
   obtain rfl:x=x':=by rw [hxk] at hxk'; injection hxk'
   clear hxk hxk'
   have hc0:=hc 0 _ rfl
   have hc1:=hc 1 _ rfl
   have hd0:=hd 0 _ rfl
   have hd1:=hd 1 _ rfl
   simp only [Nat.add_zero] at hc0 hd0
   clear hc hd
   go_wp2_with fail
   refine wp_region_later (by kernel_rfl) (by kernel_rfl) ?_
   repeat (go_big_quiet_step (fail))
   refine wpQuiet_nil ?_
   intro w1 hx1
   go_wp2_with fail
   go_roundw
   case rel=>exact ⟨k+1,by omega,by go_num,hx.trans hx1⟩
   case measure=>simp [intOf]; omega
  ·go_wp2_with fail
   go_ret
   exact Ret.bool rfl hx
set_option maxHeartbeats 2000000 in
theorem c_likeNet (A1 A2 B1 B2:Option Addr) (n1 c1 n2 c2 m1 d1 m2 d2:Nat) (ns:List Node) (ps:List Pipe) (w:World) (h1:SliceOf w 3 Node.cells A1 n1 c1 ns) (h2:SliceOf w 5 Pipe.cells A2 n2 c2 ps) (k1:SliceOf w 3 Node.cells B1 m1 d1 ns) (k2:SliceOf w 5 Pipe.cells B2 m2 d2 ps):
  Calls Tryz.prog 55 #[.agg #[.slice A1 n1 c1,.slice A2 n2 c2],.agg #[.slice B1 m1 d1,.slice B2 m2 d2]] w (Ret (.bool true) w):=by
 obtain rfl:n1=m1:=by rw [h1.len,k1.len]
 obtain rfl:n2=m2:=by rw [h2.len,k2.len]
 have hm1:=h1.max
 have hcp1:=h1.cap
 have hm2:=h2.max
 have hcp2:=h2.cap
 obtain ⟨W,HW⟩:∃W,Hid (((w.alloc (.cells #[.slice A1 n1 c1,.slice A2 n2 c2] 27)).alloc (.cells #[.slice B1 n1 d1,.slice B2 n2 d2] 27))=W):=⟨_,hide rfl⟩
 have hx0:Ext w W:=by rw [←HW.out]; exact (Ext.alloc _ _).and_alloc _
 have ha:Row W w.heap.size 27 [.slice A1 n1 c1,.slice A2 n2 c2]:=by rw [←HW.out]; exact (Row.new w 27 _).ext (Ext.alloc _ _)
 have hb:Row W (w.heap.size+1) 27 [.slice B1 n1 d1,.slice B2 n2 d2]:=by rw [←HW.out]; exact Row.newG _ _ (by simp)
 go_enter Tryz.func55,Tryz.ntmps55
 go_wp2_with fail
 rw [HW.out]
 go_loopw [5] (fun i wr=>∃(k:Nat),k≤n1∧i= .int .i64 k∧Ext W wr) (fun i _=>n1-(intOf i).toNat)
 case atStart=>exact ⟨0,Nat.zero_le _,rfl,Ext.refl _⟩
 case round=>
  obtain ⟨k,hk,rfl,hx⟩:=hrel
  have hX:=hx0.trans hx
  have a0:=(ha.ext hx).cell 0
  have a1:=(ha.ext hx).cell 1
  have e0:=(hb.ext hx).cell 0
  have e1:=(hb.ext hx).cell 1
  simp at a0 a1 e0 e1
  have al:=(ha.ext hx).lt
  have el:=(hb.ext hx).lt
  by_cases hlt:k<n1
  ·obtain ⟨b,off,x,rfl,hb,hxk,hc⟩:=(h1.ext hX).get hlt
   obtain ⟨b',off',x',rfl,hb',hxk',hd⟩:=(k1.ext hX).get hlt
   obtain rfl:x=x':=by rw [hxk] at hxk'; injection hxk'
   clear hxk hxk'
   have hc0:=hc 0 _ rfl
   have hc1:=hc 1 _ rfl
   have hd0:=hd 0 _ rfl
   have hd1:=hd 1 _ rfl
   simp only [Nat.add_zero] at hc0 hd0
   have hc2:=hc 2 _ rfl
   have hd2:=hd 2 _ rfl
   clear hc hd
   go_wp2_with fail
   refine wp_region_later (by kernel_rfl) (by kernel_rfl) ?_
   repeat (go_big_quiet_step (fail))
   refine wpQuiet_nil ?_
   intro w1 hx1
   go_wp2_with fail
   go_roundw
   case rel=>exact ⟨k+1,by omega,by go_num,hx.trans hx1⟩
   case measure=>simp [intOf]; omega
  ·go_wp2_with fail
   go_loopw [6] (fun i wr=>∃(k:Nat),k≤n2∧i= .int .i64 k∧Ext W wr) (fun i _=>n2-(intOf i).toNat)
   case atStart=>exact ⟨0,Nat.zero_le _,rfl,hx⟩
   case round=>
    clear hX hx a0 a1 e0 e1 al el hlt hk
    obtain ⟨k,hk,rfl,hx⟩:=hrel
    have hX:=hx0.trans hx
    have a0:=(ha.ext hx).cell 0
    have a1:=(ha.ext hx).cell 1
    have e0:=(hb.ext hx).cell 0
    have e1:=(hb.ext hx).cell 1
    simp at a0 a1 e0 e1
    have al:=(ha.ext hx).lt
    have el:=(hb.ext hx).lt
    by_cases hlt:k<n2
    ·obtain ⟨b,off,x,rfl,hb,hxk,hc⟩:=(h2.ext hX).get hlt
     obtain ⟨b',off',x',rfl,hb',hxk',hd⟩:=(k2.ext hX).get hlt
     obtain rfl:x=x':=by rw [hxk] at hxk'; injection hxk'
     clear hxk hxk'
     have hc0:=hc 0 _ rfl
     have hc1:=hc 1 _ rfl
     have hd0:=hd 0 _ rfl
     have hd1:=hd 1 _ rfl
     simp only [Nat.add_zero] at hc0 hd0
     have hc2:=hc 2 _ rfl
     have hd2:=hd 2 _ rfl
     have hc3:=hc 3 _ rfl
     have hd3:=hd 3 _ rfl
     have hc4:=hc 4 _ rfl
     have hd4:=hd 4 _ rfl
     clear hc hd
     go_wp2_with fail
     refine wp_region_later (by kernel_rfl) (by kernel_rfl) ?_
     repeat (go_big_quiet_step (fail))
     refine wpQuiet_nil ?_
     intro w1 hx1
     go_wp2_with fail
     go_roundw
     case rel=>exact ⟨k+1,by omega,by go_num,hx.trans hx1⟩
     case measure=>simp [intOf]; omega
    ·go_wp2_with fail
     go_ret
     exact Ret.bool rfl hX
set_option maxHeartbeats 4000000 in
theorem c_likeRooms (A1 A2 A3 A4 A5:Option Addr) (n1 c1 n2 c2 n3 c3 n4 c4 n5 c5:Nat) (B1 B2 B3 B4 B5:Option Addr) (m1 d1 m2 d2 m3 d3 m4 d4 m5 d5:Nat) (r r':Room) (w:World) (hr:RoomAt w A1 A2 A3 A4 A5 n1 c1 n2 c2 n3 c3 n4 c4 n5 c5 r) (hr':RoomAt w B1 B2 B3 B4 B5 m1 d1 m2 d2 m3 d3 m4 d4 m5 d5 r') (hl:r.Like r'):
  Calls Tryz.prog 14 #[.agg #[.slice A1 n1 c1,.slice A2 n2 c2,.slice A3 n3 c3,.slice A4 n4 c4,.slice A5 n5 c5],.agg #[.slice B1 m1 d1,.slice B2 m2 d2,.slice B3 m3 d3,.slice B4 m4 d4,.slice B5 m5 d5]] w (Ret (.bool true) w):=by
 obtain ⟨ns,ps,xs,L,rs⟩:=r
 obtain ⟨ns',ps',xs',L',rs'⟩:=r'
 obtain ⟨q1,q2,q3,q4,q5⟩:=hl
 simp only at q1 q2 q3 q4 q5
 subst q1 q2 q3 q4
 obtain ⟨h1,h2,h3,h4,h5,h6⟩:=hr
 obtain ⟨k1,k2,k3,k4,k5,k6⟩:=hr'
 simp only at h1 h2 h3 h4 h5 h6 k1 k2 k3 k4 k5 k6
 have hlr:rs.length=rs'.length:=by have h:=congrArg List.length q5; simpa using h
 obtain rfl:n1=m1:=by rw [h1.len,k1.len]
 obtain rfl:n2=m2:=by rw [h2.len,k2.len]
 obtain rfl:n3=m3:=by rw [h3.len,k3.len]
 obtain rfl:n4=m4:=by rw [h4.len,k4.len]
 obtain rfl:n5=m5:=by rw [h5.len,k5.len,hlr]
 have HQ5:=hide q5
 have H6:=hide h6
 have K6:=hide k6
 clear q5 h6 k6 hlr
 have hm1:=h1.max
 have hm2:=h2.max
 have hm3:=h3.max
 have hm4:=h4.max
 have hm5:=h5.max
 have hp1:=h1.cap
 have hp2:=h2.cap
 have hp3:=h3.cap
 have hp4:=h4.cap
 have hp5:=h5.cap
 obtain ⟨W,HW⟩:∃W,Hid (((w.alloc (.cells #[.slice A1 n1 c1,.slice A2 n2 c2,.slice A3 n3 c3,.slice A4 n4 c4,.slice A5 n5 c5] 32)).alloc (.cells #[.slice B1 n1 d1,.slice B2 n2 d2,.slice B3 n3 d3,.slice B4 n4 d4,.slice B5 n5 d5] 32))=W):=⟨_,hide rfl⟩
 have hx0:Ext w W:=by rw [←HW.out]; exact (Ext.alloc _ _).and_alloc _
 have ha:RoomIn W w.heap.size A1 A2 A3 A4 A5 n1 c1 n2 c2 n3 c3 n4 c4 n5 c5:=by rw [←HW.out]; exact (RoomIn.new w A1 A2 A3 A4 A5 n1 c1 n2 c2 n3 c3 n4 c4 n5 c5 32).ext (Ext.alloc _ _)
 have hb:RoomIn W (w.heap.size+1) B1 B2 B3 B4 B5 n1 d1 n2 d2 n3 d3 n4 d4 n5 d5:=by
  rw [←HW.out]
  have h:=RoomIn.new (w.alloc (.cells #[.slice A1 n1 c1,.slice A2 n2 c2,.slice A3 n3 c3,.slice A4 n4 c4,.slice A5 n5 c5] 32)) B1 B2 B3 B4 B5 n1 d1 n2 d2 n3 d3 n4 d4 n5 d5 32
  rw [World.size_alloc] at h
  exact h
 go_enter Tryz.func14,Tryz.ntmps14
 go_wp2_with fail
 rw [HW.out]
 refine (c_likeNet A1 A2 B1 B2 n1 c1 n2 c2 n1 d1 n2 d2 ns ps _ (h1.ext hx0) (h2.ext hx0) (k1.ext hx0) (k2.ext hx0)).mono ?_
 rintro e w1 ⟨rfl,hx1⟩
 obtain ⟨al,a0,a1,a2,a3,a4⟩:=ha.ext hx1
 obtain ⟨el,e0,e1,e2,e3,e4⟩:=hb.ext hx1
 go_wp2_with fail
 go_loopw [5] (fun i wr=>∃(k:Nat),k≤n3∧i= .int .i64 k∧Ext W wr) (fun i _=>n3-(intOf i).toNat)
 case atStart=>exact ⟨0,Nat.zero_le _,rfl,hx1⟩
 case round=>
  clear al a0 a1 a2 a3 a4 el e0 e1 e2 e3 e4
  obtain ⟨k,hk,rfl,hx⟩:=hrel
  have hX:=hx0.trans hx
  obtain ⟨al,a0,a1,a2,a3,a4⟩:=ha.ext hx
  obtain ⟨el,e0,e1,e2,e3,e4⟩:=hb.ext hx
  by_cases hlt:k<n3
  ·obtain ⟨b,off,x,rfl,hb,hxk,hc⟩:=(h3.ext hX).get hlt
   obtain ⟨b',off',x',rfl,hb',hxk',hd⟩:=(k3.ext hX).get hlt
   obtain rfl:x=x':=by rw [hxk] at hxk'; injection hxk'
   clear hxk hxk'
   have hc0:=hc 0 _ rfl
   have hc1:=hc 1 _ rfl
   have hd0:=hd 0 _ rfl
   have hd1:=hd 1 _ rfl
   simp only [Nat.add_zero] at hc0 hd0
   have hc2:=hc 2 _ rfl
   have hd2:=hd 2 _ rfl
   have hc3:=hc 3 _ rfl
   have hd3:=hd 3 _ rfl
   have hc4:=hc 4 _ rfl
   have hd4:=hd 4 _ rfl
   have hc5:=hc 5 _ rfl
   have hd5:=hd 5 _ rfl
   have hc6:=hc 6 _ rfl
   have hd6:=hd 6 _ rfl
   have hc7:=hc 7 _ rfl
   have hd7:=hd 7 _ rfl
   clear hc hd
   go_wp2_with fail
   refine wp_region_later (by kernel_rfl) (by kernel_rfl) ?_
   repeat (go_big_quiet_step (fail))
   refine wpQuiet_nil ?_
   intro w1 hx1
   go_wp2_with fail
   go_roundw
   case rel=>exact ⟨k+1,by omega,by go_num,hx.trans hx1⟩
   case measure=>simp [intOf]; omega
  ·go_wp2_with fail
   go_loopw [6] (fun i wr=>∃(k:Nat),k≤n4∧i= .int .i64 k∧Ext W wr) (fun i _=>n4-(intOf i).toNat)
   case atStart=>exact ⟨0,Nat.zero_le _,rfl,hx⟩
   case round=>
    clear hX hx al a0 a1 a2 a3 a4 el e0 e1 e2 e3 e4 hlt hk
    obtain ⟨k,hk,rfl,hx⟩:=hrel
    have hX:=hx0.trans hx
    obtain ⟨al,a0,a1,a2,a3,a4⟩:=ha.ext hx
    obtain ⟨el,e0,e1,e2,e3,e4⟩:=hb.ext hx
    by_cases hlt:k<n4
    ·obtain ⟨b,off,x,rfl,hb,hxk,hc⟩:=(h4.ext hX).get hlt
     obtain ⟨b',off',x',rfl,hb',hxk',hd⟩:=(k4.ext hX).get hlt
     obtain rfl:x=x':=by rw [hxk] at hxk'; injection hxk'
     clear hxk hxk'
     have hc0:=hc 0 _ rfl
     have hc1:=hc 1 _ rfl
     have hd0:=hd 0 _ rfl
     have hd1:=hd 1 _ rfl
     simp only [Nat.add_zero] at hc0 hd0
     have hc2:=hc 2 _ rfl
     have hd2:=hd 2 _ rfl
     have hc3:=hc 3 _ rfl
     have hd3:=hd 3 _ rfl
     clear hc hd
     go_wp2_with fail
     refine wp_region_later (by kernel_rfl) (by kernel_rfl) ?_
     repeat (go_big_quiet_step (fail))
     refine wpQuiet_nil ?_
     intro w1 hx1
     go_wp2_with fail
     go_roundw
     case rel=>exact ⟨k+1,by omega,by go_num,hx.trans hx1⟩
     case measure=>simp [intOf]; omega
    ·go_wp2_with fail
     go_loopw [7] (fun i wr=>∃(k:Nat),k≤n5∧i= .int .i64 k∧Ext W wr) (fun i _=>n5-(intOf i).toNat)
     case atStart=>exact ⟨0,Nat.zero_le _,rfl,hx⟩
     case round=>
      clear hX hx al a0 a1 a2 a3 a4 el e0 e1 e2 e3 e4 hlt hk
      obtain ⟨k,hk,rfl,hx⟩:=hrel
      have hX:=hx0.trans hx
      obtain ⟨al,a0,a1,a2,a3,a4⟩:=ha.ext hx
      obtain ⟨el,e0,e1,e2,e3,e4⟩:=hb.ext hx
      by_cases hlt:k<n5
      ·obtain ⟨b,off,q,rfl,hb1,hqk,hc⟩:=(h5.ext hX).get hlt
       obtain ⟨b',off',q',rfl,hb',hqk',hd⟩:=(k5.ext hX).get hlt
       have hqq:q.xs=q'.xs:=by
        have h:=congrArg (fun l=>l[k]?) HQ5.out
        simpa [hqk,hqk'] using h
       have hS:=(H6.out q (List.mem_of_getElem? hqk)).ext hX
       have hS':=(K6.out q' (List.mem_of_getElem? hqk')).ext hX
       rw [←hqq] at hS'
       have hc0:=hc 0 _ rfl
       have hd0:=hd 0 _ rfl
       simp only [Nat.add_zero,Nat.mul_one] at hc0 hd0
       obtain ⟨qA,qn,qc,qx⟩:=q
       obtain ⟨qA',qn',qc',qx'⟩:=q'
       simp only at hc0 hd0 hS hS'
       clear hc hd hqk hqk' hqq
       go_wp2_with fail
       refine wp_region_ph [([0,1,2,3,4,5,6,7,8,9],10)] [11] (by kernel_rfl) (by kernel_rfl) (by intro c a w d v h; cases d <;> exact h) ?_
       simp only [wpPh,pickL,nthO]
       repeat (go_big_quiet_step (fail))
       refine wpQuiet_nil ?_
       go_wp2_with fail
       refine (c_likeReadings qA qA' qn qc qn' qc' qx _ (hS.ext (Ext.refl _).drew) (hS'.ext (Ext.refl _).drew)).mono ?_
       rintro e w2 ⟨rfl,hx2⟩
       go_wp2_with fail
       refine ⟨hx2,?_⟩
       repeat (go_big_quiet_step (fail))
       refine wpQuiet_nil ?_
       go_wp2_with fail
       go_roundw
       case rel=>exact ⟨k+1,by omega,by go_num,hx.trans ((Ext.refl _).drew.trans hx2)⟩
       case measure=>simp [intOf]; omega
      ·go_wp2_with fail
       go_ret
       exact Ret.bool rfl hX
end Go.Proofs.YtinindjjapblcaaGreatDoor
