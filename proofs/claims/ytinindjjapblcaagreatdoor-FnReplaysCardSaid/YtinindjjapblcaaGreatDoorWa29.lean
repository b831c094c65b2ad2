/-
  slices.Equal and slices.EqualFunc as IsReachable uses them, on equal lists.
-/
import Derived.Test.YtinindjjapblcaaGreatDoorWa27
namespace Go.Proofs.YtinindjjapblcaaGreatDoor
open Go.RowKit
set_option maxHeartbeats 2000000 in
theorem c_EqualNom (A A':Option Addr) (n c n' c':Nat) (L:List Nomination) (w:World) (hs:SliceOf w 4 Nomination.cells A n c L) (hs':SliceOf w 4 Nomination.cells A' n' c' L):
  Calls Tryz.prog 41 #[.slice A n c,.slice A' n' c'] w (Ret (.bool true) w):=by
 have hm:=hs.max
 have hcap:=hs.cap
 have hm':=hs'.max
 have hcap':=hs'.cap
 obtain rfl:n'=n:=hs'.len.trans hs.len.symm
 go_enter Tryz.func41,Tryz.ntmps41
 go_wp2_with fail
 go_loopw [13] (fun i wr=>∃k:Nat,k≤n'∧i= .int .i64 k∧Ext w wr) (fun i _=>n'-(intOf i).toNat)
 case atStart=>exact ⟨0,Nat.zero_le _,rfl,Ext.refl _⟩
 case round=>
  obtain ⟨k,hk,rfl,hx⟩:=hrel
  by_cases hlt:k<n'
  ·obtain ⟨b,off,p,rfl,hb,hxk,hc⟩:=(hs.ext hx).get hlt
   obtain ⟨b',off',p',rfl,hb',hxk',hc'⟩:=(hs'.ext hx).get hlt
   obtain rfl:p=p':=by have h:=hxk.symm.trans hxk'; injection h
   clear hxk hxk'
   have d0:=hc 0 _ rfl
   have d1:=hc 1 _ rfl
   have d2:=hc 2 _ rfl
   have d3:=hc 3 _ rfl
   have d0':=hc' 0 _ rfl
   have d1':=hc' 1 _ rfl
   have d2':=hc' 2 _ rfl
   have d3':=hc' 3 _ rfl
   simp only [Nat.add_zero] at d0 d0'
   clear hc hc'
   go_wp2_with fail
   refine wp_region_ph [] [0,1,2,3,4,5,6,7,8] (by kernel_rfl) (by kernel_rfl) (by intro c a w d v h; cases d <;> exact h) ?_
   simp only [wpPh,pickL,nthO]
   repeat (go_big_quiet_step (fail))
   refine wpQuiet_nil ?_
   go_wp2_with fail
   go_roundw
   case rel=>exact ⟨k+1,by omega,by go_num,hx.drew⟩
   case measure=>simp [intOf]; omega
  ·go_wp2_with fail
   go_ret
   exact Ret.bool rfl hx
set_option maxHeartbeats 2000000 in
theorem c_EqualRead (A A':Option Addr) (n c n' c':Nat) (L:List Reading) (w:World) (hs:SliceOf w 2 Reading.cells A n c L) (hs':SliceOf w 2 Reading.cells A' n' c' L):
  Calls Tryz.prog 44 #[.slice A n c,.slice A' n' c'] w (Ret (.bool true) w):=by
 have hm:=hs.max
 have hcap:=hs.cap
 have hm':=hs'.max
 have hcap':=hs'.cap
 obtain rfl:n'=n:=hs'.len.trans hs.len.symm
 go_enter Tryz.func44,Tryz.ntmps44
 go_wp2_with fail
 go_loopw [13] (fun i wr=>∃k:Nat,k≤n'∧i= .int .i64 k∧Ext w wr) (fun i _=>n'-(intOf i).toNat)
 case atStart=>exact ⟨0,Nat.zero_le _,rfl,Ext.refl _⟩
 case round=>
  obtain ⟨k,hk,rfl,hx⟩:=hrel
  by_cases hlt:k<n'
  ·obtain ⟨b,off,p,rfl,hb,hxk,hc⟩:=(hs.ext hx).get hlt
   obtain ⟨b',off',p',rfl,hb',hxk',hc'⟩:=(hs'.ext hx).get hlt
   obtain rfl:p=p':=by have h:=hxk.symm.trans hxk'; injection h
   clear hxk hxk'
   have d0:=hc 0 _ rfl
   have d1:=hc 1 _ rfl
   have d0':=hc' 0 _ rfl
   have d1':=hc' 1 _ rfl
   simp only [Nat.add_zero] at d0 d0'
   clear hc hc'
   go_wp2_with fail
   refine wp_region_ph [] [0,1,2,3,4,5,6,7,8] (by kernel_rfl) (by kernel_rfl) (by intro c a w d v h; cases d <;> exact h) ?_
   simp only [wpPh,pickL,nthO]
   repeat (go_big_quiet_step (fail))
   refine wpQuiet_nil ?_
   go_wp2_with fail
   go_roundw
   case rel=>exact ⟨k+1,by omega,by go_num,hx.drew⟩
   case measure=>simp [intOf]; omega
  ·go_wp2_with fail
   go_ret
   exact Ret.bool rfl hx
theorem c_ReadsEq (A A':Option Addr) (n c n' c':Nat) (L:List Reading) (w:World) (hs:SliceOf w 2 Reading.cells A n c L) (hs':SliceOf w 2 Reading.cells A' n' c' L):
  Calls Tryz.prog 43 #[.slice A n c,.slice A' n' c'] w (Ret (.bool true) w):=by
 go_enter Tryz.func43,Tryz.ntmps43
 go_wp2_with fail
 refine (c_EqualRead A A' n c n' c' L _ hs hs').mono ?_
 rintro e w1 ⟨rfl,hx1⟩
 go_wp2_with fail
 go_ret
 exact Ret.bool rfl hx1
set_option maxHeartbeats 2000000 in
theorem c_EqualReads (A A':Option Addr) (n c n' c':Nat) (rs rs':List RS) (w:World) (hs:SliceOf w 1 RS.cells A n c rs) (hs':SliceOf w 1 RS.cells A' n' c' rs') (h6:∀q∈rs,SliceOf w 2 Reading.cells q.A q.n q.c q.xs) (h6':∀q∈rs',SliceOf w 2 Reading.cells q.A q.n q.c q.xs) (hm:rs.map RS.xs=rs'.map RS.xs):
  Calls Tryz.prog 42 #[.slice A n c,.slice A' n' c',.func (.func 43) #[] #[]] w (Ret (.bool true) w):=by
 have hmx:=hs.max
 have hcap:=hs.cap
 have hmx':=hs'.max
 have hcap':=hs'.cap
 have hlen:rs.length=rs'.length:=by have h:=congrArg List.length hm; simpa using h
 obtain rfl:n'=n:=by rw [hs.len,hs'.len,hlen]
 have HM:=hide hm
 clear hm hlen
 go_enter Tryz.func42,Tryz.ntmps42
 go_wp2_with fail
 go_loopw [17] (fun i wr=>∃k:Nat,k≤n'∧i= .int .i64 k∧Ext w wr) (fun i _=>n'-(intOf i).toNat)
 case atStart=>exact ⟨0,Nat.zero_le _,rfl,Ext.refl _⟩
 case round=>
  obtain ⟨k,hk,rfl,hx⟩:=hrel
  by_cases hlt:k<n'
  ·obtain ⟨b,off,p,rfl,hb,hxk,hc⟩:=(hs.ext hx).get hlt
   obtain ⟨b',off',p',rfl,hb',hxk',hc'⟩:=(hs'.ext hx).get hlt
   have hpp:p.xs=p'.xs:=by
    have h1:(rs.map RS.xs)[k]? =some p.xs:=by rw [List.getElem?_map,hxk]; rfl
    rw [HM.out,List.getElem?_map,hxk'] at h1
    injection h1 with h1
    exact h1.symm
   have hp:=(h6 p (List.mem_of_getElem? hxk)).ext hx
   have hp':=(h6' p' (List.mem_of_getElem? hxk')).ext hx
   rw [←hpp] at hp'
   have d0:=hc 0 _ rfl
   have d0':=hc' 0 _ rfl
   simp only [Nat.add_zero,Nat.mul_one] at d0 d0'
   clear hxk hxk' hc hc' hpp
   go_wp2_with (go_at_call 43; refine (c_ReadsEq p.A p'.A p.n p.c p'.n p'.c p.xs _ hp hp').mono ?_; rintro e w1 ⟨rfl,hx1⟩)
   go_roundw
   case rel=>exact ⟨k+1,by omega,by go_num,hx.trans hx1⟩
   case measure=>simp [intOf]; omega
  ·go_wp2_with fail
   go_ret
   exact Ret.bool rfl hx
end Go.Proofs.YtinindjjapblcaaGreatDoor
