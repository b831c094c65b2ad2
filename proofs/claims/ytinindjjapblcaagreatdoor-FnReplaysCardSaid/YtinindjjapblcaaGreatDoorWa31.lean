/-
  IsReachable of the program.
-/
import Derived.Test.YtinindjjapblcaaGreatDoorWa29
import Derived.Test.YtinindjjapblcaaGreatDoorWa27
import Derived.Test.YtinindjjapblcaaGreatDoorWa30
import Derived.Test.YtinindjjapblcaaGreatDoorWa19
import Derived.Test.YtinindjjapblcaaGreatDoorWa01
namespace Go.Proofs.YtinindjjapblcaaGreatDoor
open Go.RowKit
theorem appR_ns (R:Room) (e:Event):(appR R e).ns=R.ns:=by unfold appR; split <;> (try split) <;> rfl
theorem runEv_ns {n:Int}:∀ {l:List Event} {R R':Room},runEv n R l=some R'→R'.ns=R.ns
 | [],R,R',hr=>by simp only [runEv,Option.some.injEq] at hr; subst hr; rfl
 | x::l,R,R',hr=>by
  simp only [runEv] at hr
  split at hr
  ·rw [runEv_ns (l:=l) hr,appR_ns]
  ·cases hr
def AtEv (n:Int) (r:Room) (k:Nat) (R:Room):Prop:=∃Rk,runEv n (newR r.ns r.ps r.xs) ((roomEv r).take k)=some Rk∧R.Like Rk
theorem AtEv.start {n:Int} {r R:Room} (h:R.Like (newR r.ns r.ps r.xs)):AtEv n r 0 R:=⟨_,rfl,h⟩
theorem AtEv.ns {n:Int} {r R:Room} {k:Nat} (h:AtEv n r k R):R.ns=r.ns:=by
 obtain ⟨Rk,h1,h2⟩:=h
 rw [h2.1,runEv_ns h1]; rfl
theorem AtEv.ok {n:Int} {r R:Room} {k:Nat} (h:AtEv n r k R) (hr:roomB n r=true):roomB n R=true:=by
 obtain ⟨Rk,h1,h2⟩:=h
 rw [roomB_like h2]
 exact runEv_ok (newR_ok hr) h1
theorem AtEv.step {n:Int} {r R R':Room} {k:Nat} {e:Event} (h:AtEv n r k R) (he:(roomEv r)[k]? =some e) (hb:appB n R e=true) (hl:R'.Like (appR R e)):AtEv n r (k+1) R':=by
 obtain ⟨Rk,h1,h2⟩:=h
 refine ⟨appR Rk e,?_,hl.trans (appR_like h2 e)⟩
 rw [take_one he,runEv_snoc,h1,Option.bind_some, ←appB_like h2,if_pos hb]
theorem AtEv.stop {n:Int} {r R:Room} {k:Nat} {e:Event} (h:AtEv n r k R) (he:(roomEv r)[k]? =some e) (hb:appB n R e=false):reachB n r=false:=by
 obtain ⟨Rk,h1,h2⟩:=h
 have h3:runEv n (newR r.ns r.ps r.xs) ((roomEv r).take (k+1))=none:=by
  rw [take_one he,runEv_snoc,h1,Option.bind_some, ←appB_like h2,if_neg (by simp [hb])]
 have h4:=runEv_none h3 ((roomEv r).drop (k+1))
 rw [List.take_append_drop] at h4
 unfold reachB
 rw [h4]; simp
theorem AtEv.done {n:Int} {r R:Room} {k:Nat} (h:AtEv n r k R) (hk:k=(roomEv r).length) (hr:roomB n r=true) (hlen:(roomEv r).length≤300):reachB n r=true∧R.Like r:=by
 obtain ⟨Rk,h1,h2⟩:=h
 subst hk
 rw [List.take_length] at h1
 refine ⟨by unfold reachB; rw [hr,h1,decide_eq_true hlen]; rfl,h2.trans ?_⟩
 rw [runEv_fold h1]
 refine fold_room (fun he=> ?_)
 simp only [roomB,Bool.and_eq_true,inB_true] at hr
 rw [he] at hr
 simp at hr
theorem RBlk.lt {w:World} {A1 A2 A3 A4 A5:Option Addr} {n1 c1 n2 c2 n3 c3 n4 c4 n5 c5:Nat} {r:Room} (h:RoomAt w A1 A2 A3 A4 A5 n1 c1 n2 c2 n3 c3 n4 c4 n5 c5 r) {b:Nat} (hb:RBlk A1 A2 A3 A4 A5 n1 n2 n3 n4 n5 r b):b<w.heap.size:=by
 rcases hb with hb | ⟨q,hq,hb⟩
 ·simp only [List.mem_cons,List.not_mem_nil,or_false] at hb
  rcases hb with hb | hb | hb | hb | hb
  ·exact h.s1.blk hb.symm
  ·exact h.s2.blk hb.symm
  ·exact h.s3.blk hb.symm
  ·exact h.s4.blk hb.symm
  ·exact h.s5.blk hb.symm
 ·exact (h.s6 q hq).blk hb
theorem ROwn.rblk {w:World} {lo hi:Nat} {A1 A2 A3 A4 A5:Option Addr} {n1 c1 n2 c2 n3 c3 n4 c4 n5 c5:Nat} {r:Room} (h:ROwn w lo hi A1 A2 A3 A4 A5 n1 c1 n2 c2 n3 c3 n4 c4 n5 c5 r) {b:Nat} (hb:RBlk A1 A2 A3 A4 A5 n1 n2 n3 n4 n5 r b):lo≤b∧b<hi:=by
 rcases hb with hb | hb
 ·exact h.rf b hb
 ·exact h.rq b hb
theorem five_row {w:World} {g:Nat} {t:TypeId} {u0 u1 u2 u3 u4 v0 v1 v2 v3 v4:Value} (h:Row w g t [v0,v1,v2,v3,v4]):Row (((((w.setCell ⟨g,0,none⟩ u0).setCell ⟨g,1,none⟩ u1).setCell ⟨g,2,none⟩ u2).setCell ⟨g,3,none⟩ u3).setCell ⟨g,4,none⟩ u4) g t [u0,u1,u2,u3,u4]:=
 ((((h.set_ 0 u0).set_ 1 u1).set_ 2 u2).set_ 3 u3).set_ 4 u4
theorem row_in {w:World} {g:Nat} {t:TypeId} {A1 A2 A3 A4 A5:Option Addr} {n1 c1 n2 c2 n3 c3 n4 c4 n5 c5:Nat} (h:Row w g t [.slice A1 n1 c1,.slice A2 n2 c2,.slice A3 n3 c3,.slice A4 n4 c4,.slice A5 n5 c5]):RoomIn w g A1 A2 A3 A4 A5 n1 c1 n2 c2 n3 c3 n4 c4 n5 c5:=⟨h.lt,h.cell 0,h.cell 1,h.cell 2,h.cell 3,h.cell 4⟩
theorem reach_no {n:Int} {r:Room} (h:roomB n r=false):reachB n r=false:=by unfold reachB; rw [h]; rfl
theorem reach_long {n:Int} {r:Room} (h:300<(roomEv r).length):reachB n r=false:=by unfold reachB; rw [decide_eq_false (by omega)]; simp
structure LoopR (n:Int) (r:Room) (Wg wr:World) (gO k:Nat):Prop where
 turn:Turn (fun b=>b=gO) Wg wr
 ex:∃(O1 O2 O3 O4 O5:Option Addr) (o1 e1 o2 e2 o3 e3 o4 e4 o5 e5:Nat) (R:Room),Row wr gO 32 [.slice O1 o1 e1,.slice O2 o2 e2,.slice O3 o3 e3,.slice O4 o4 e4,.slice O5 o5 e5]∧RoomAt wr O1 O2 O3 O4 O5 o1 e1 o2 e2 o3 e3 o4 e4 o5 e5 R∧(∀b,RBlk O1 O2 O3 O4 O5 o1 o2 o3 o4 o5 R b→b≠gO)∧AtEv n r k R
set_option maxHeartbeats 8000000 in
theorem c_IsReachable (A1 A2 A3 A4 A5:Option Addr) (n1 c1 n2 c2 n3 c3 n4 c4 n5 c5:Nat) (r:Room) (w:World) (hat:RoomAt w A1 A2 A3 A4 A5 n1 c1 n2 c2 n3 c3 n4 c4 n5 c5 r):
  Calls Tryz.prog 10 #[.agg #[.slice A1 n1 c1,.slice A2 n2 c2,.slice A3 n3 c3,.slice A4 n4 c4,.slice A5 n5 c5]] w (Ret (.bool (reachB n1 r)) w):=by
 have hin:=RoomIn.new w A1 A2 A3 A4 A5 n1 c1 n2 c2 n3 c3 n4 c4 n5 c5 32
 obtain ⟨hlt,y0,y1,y2,y3,y4⟩:=id hin
 go_enter Tryz.func10,Tryz.ntmps10
 go_wp2_with fail
 refine (c_IsRoom A1 A2 A3 A4 A5 n1 c1 n2 c2 n3 c3 n4 c4 n5 c5 r _ (hat.ext (Ext.alloc _ _))).mono ?_
 cases hb:roomB (n1:Int) r
 ·have HR:=hide (reach_no hb)
  rintro e w1 ⟨rfl,hx1⟩
  go_wp2_with fail
  go_ret
  exact Ret.bool (by rw [HR.out]) hx1.box
 obtain ⟨m1,m2,m3,m4,a5,m5,hnm,hnet⟩:=roomGood A1 A2 A3 A4 A5 n1 c1 n2 c2 n3 c3 n4 c4 n5 c5 hat hb
 have hf:=roomFits hb
 have HB:=hide hb
 have HEV:=hide (roomEv_ok hb (by omega))
 have hn1:=hat.s1.len
 have HN1:=hide hn1
 clear hnm hnet hb hn1
 rintro e w1 ⟨rfl,hx1⟩
 clear hlt y0 y1 y2 y3 y4
 obtain ⟨hlt,y0,y1,y2,y3,y4⟩:=hin.ext hx1
 go_wp2_with fail
 refine (c_roomEvents A1 A2 A3 A4 A5 n1 c1 n2 c2 n3 c3 n4 c4 n5 c5 r _ (hat.ext hx1.box) hf).mono ?_
 rintro e w2 ⟨EA,en,ec,eg,rfl,hec,hem,heg,heo,hx2⟩
 have hx12:=hx1.trans hx2
 clear hlt y0 y1 y2 y3 y4
 obtain ⟨hlt,y0,y1,y2,y3,y4⟩:=hin.ext hx12
 by_cases hlong:300<(roomEv r).length
 ·have HR:=hide (reach_long (n:=n1) hlong)
  have hE:evR r=([],3):=by unfold evR; rw [if_pos hlong]
  rw [hE]
  go_wp2_with fail
  go_ret
  exact Ret.bool (by rw [HR.out]) hx12.box
 have hE:evR r=(roomEv r,0):=by unfold evR; rw [if_neg hlong]
 rw [hE] at heo ⊢
 clear hE
 have hes:=heo.slice event_len hec hem
 have HEN:=hide heo.1
 have hblkE:=fun b hb=>hes.blk (b:=b) hb
 go_wp2_with fail
 refine (c_newRoom A1 A2 n1 c1 n2 c2 r.ns r.ps A3 n3 c3 r.xs _ (hat.s1.ext hx12.box) (hat.s2.ext hx12.box) (hat.s3.ext hx12.box) (by omega) (by omega) (by omega)).mono ?_
 rintro e w3 ⟨B1,B2,B3,B4,B5,k1,d1,k2,d2,k3,d3,k4,d4,k5,d5,r',rfl,hO,hOl,hx3⟩
 have hx13:=hx12.trans hx3
 have HAT:=hide (AtEv.start (n:=n1) hOl)
 clear hlt y0 y1 y2 y3 y4
 go_wp2_with fail
 have rB:=Row.new w3 32 [.slice B1 k1 d1,.slice B2 k2 d2,.slice B3 k3 d3,.slice B4 k4 d4,.slice B5 k5 d5]
 have hxg:Ext w3 (w3.alloc (.cells #[.slice B1 k1 d1,.slice B2 k2 d2,.slice B3 k3 d3,.slice B4 k4 d4,.slice B5 k5 d5] 32)):=Ext.alloc _ _
 generalize w3.alloc (.cells #[.slice B1 k1 d1,.slice B2 k2 d2,.slice B3 k3 d3,.slice B4 k4 d4,.slice B5 k5 d5] 32)=Wg at *
 have XG:=hx13.box.trans hxg
 have hing:=hin.ext (hx13.trans hxg)
 have hesg:=(hes.ext hx3).ext hxg
 have hatg:=hat.ext XG
 have hgE:∀b,blkOf EA en=some b→b≠w3.heap.size:=fun b hb=>by have:=hblkE b hb; have:=hx3.size; omega
 have hgR:∀b,RBlk A1 A2 A3 A4 A5 n1 n2 n3 n4 n5 r b→b≠w3.heap.size:=fun b hb=>by have:=RBlk.lt hat hb; have:=hx13.size; simp at this; omega
 have hgw:w.heap.size≠w3.heap.size:=by have:=hx13.size; simp at this; omega
 have hgl:=rB.lt
 have hsz3:w.heap.size≤w3.heap.size:=by have:=hx13.size; simp at this; omega
 have hemx:=hem
 go_loopw [27] (fun i wr=>∃k:Nat,k≤en∧i= .int .i64 k∧LoopR n1 r Wg wr w3.heap.size k) (fun i _=>en-(intOf i).toNat)
 case atStart=>exact ⟨0,Nat.zero_le _,rfl,⟨Turn.refl _,⟨B1,B2,B3,B4,B5,k1,d1,k2,d2,k3,d3,k4,d4,k5,d5,r',rB,hO.at_.ext hxg,fun b hb=>by have:=RBlk.lt hO.at_ hb; omega,HAT.out⟩⟩⟩
 case round=>
  obtain ⟨k,hk,rfl,⟨htn,O1,O2,O3,O4,O5,o1,q1,o2,q2,o3,q3,o4,q4,o5,q5,R,hrow,hatR,hne,hAt⟩⟩:=hrel
  have XR:=XG.turn htn (fun b hb=>by omega)
  have rx:=fun (j:Nat) (v:Value) (h:Wg.cell? ⟨w.heap.size,j,none⟩=some v)=>(htn.cell hing.lt hgw).trans h
  have p0:=hrow.cell 0
  have p1:=hrow.cell 1
  have p2:=hrow.cell 2
  have p3:=hrow.cell 3
  have p4:=hrow.cell 4
  have pf:=hrow.frozen
  have pl:=hrow.lt
  simp only [List.getElem?_cons_zero,List.getElem?_cons_succ] at p0 p1 p2 p3 p4
  by_cases hklt:k<en
  ·obtain ⟨b,off,x,rfl,hbb,hxk,hc⟩:=(hesg.turn htn (fun b hb hS=>hgE b hb hS)).get hklt
   have t0:=hc 0 _ rfl
   have t1:=hc 1 _ rfl
   have t2:=hc 2 _ rfl
   have t3:=hc 3 _ rfl
   have t4:=hc 4 _ rfl
   simp only [Nat.add_zero] at t0
   have hev:=HEV.out x (List.mem_of_getElem? hxk)
   have HX:=hide hxk
   have hokR:=hAt.ok HB.out
   obtain rfl:o1=n1:=by rw [hatR.s1.len,hAt.ns]; exact HN1.out.symm
   have HAt:=hide hAt
   clear hxk hc hAt rx
   go_wp2_with fail
   refine (c_applied O1 O2 O3 O4 O5 o1 q1 o2 q2 o3 q3 o4 q4 o5 q5 R x _ (hatR.ext (Ext.alloc _ _)) hokR hev).mono ?_
   rintro e w5 ⟨C1,C2,C3,C4,C5,j1,f1,j2,f2,j3,f3,j4,f4,j5,f5,r'',rfl,himp,hx5⟩
   have hx45:=(Ext.alloc wr (.cells #[.int .i64 x.kind,.int .i64 x.a,.int .i64 x.b,.int .i64 x.c,.int .i64 x.d] 54)).trans hx5
   have hrow5:=hrow.ext hx45
   cases hab:appB (o1:Int) R x
   ·have HR:=hide (HAt.out.stop HX.out hab)
    clear himp
    go_wp2_with fail
    go_ret
    exact Ret.bool (by rw [HR.out]) ((XR.trans hx45).and_alloc _)
   ·obtain ⟨hO5,hl5⟩:=himp hab
    have HST:=hide (HAt.out.step HX.out hab hl5)
    have HO5:=hide hO5
    clear himp hO5 hl5 p0 p1 p2 p3 p4 pf pl
    have p0:=hrow5.cell 0
    have p1:=hrow5.cell 1
    have p2:=hrow5.cell 2
    have p3:=hrow5.cell 3
    have p4:=hrow5.cell 4
    have pf:=hrow5.frozen
    have pl:=hrow5.lt
    have hz45:=hx45.size
    simp only [List.getElem?_cons_zero,List.getElem?_cons_succ] at p0 p1 p2 p3 p4
    go_wp2_with fail
    go_roundw
    case rel=>
     have t5:=(Turn.refl (S:=fun b=>b=w3.heap.size) w5).five (g:=w3.heap.size) rfl (.slice C1 j1 f1) (.slice C2 j2 f2) (.slice C3 j3 f3) (.slice C4 j4 f4) (.slice C5 j5 f5)
     refine ⟨k+1,by omega,by go_num,⟨(htn.trans (Turn.of_ext hx45)).trans (t5.allocT _),⟨C1,C2,C3,C4,C5,j1,f1,j2,f2,j3,f3,j4,f4,j5,f5,r'',(five_row hrow5).ext (Ext.alloc _ _),((HO5.out.turnR t5 (fun b hb=>by subst hb; exact ⟨_,hrow5⟩)).at_).ext (Ext.alloc _ _),fun b hb=> ?_,HST.out⟩⟩⟩
     have hq1:=HO5.out.rblk hb
     have hq2:=hrow.lt
     simp at hq1
     omega
    case measure=>simp [intOf]; omega
  ·obtain rfl:en=k:=by omega
   obtain ⟨hre,hLk⟩:=hAt.done HEN.out HB.out (by omega)
   have HRE:=hide hre
   have y2:=rx 3 _ hing.x3
   have y3:=rx 4 _ hing.x4
   have y0:=Nat.lt_of_lt_of_le hing.lt htn.size
   have hatN:=hatg.turnB htn (fun b hb hS=>hgR b hb hS)
   have hs4:=hatR.s4
   rw [hLk.2.2.2.1] at hs4
   clear hre rx
   go_wp2_with fail
   refine (c_EqualNom O4 A4 o4 q4 n4 c4 r.L _ hs4 hatN.s4).mono ?_
   rintro e w5 ⟨rfl,hx5⟩
   have hrow5:=hrow.ext hx5
   have hlt5:=Nat.lt_of_lt_of_le y0 hx5.size
   have y35:=(hx5.cell _ 4 y0).trans y3
   clear p0 p1 p2 p3 p4 pf pl y3
   have p4:=hrow5.cell 4
   have pl:=hrow5.lt
   simp only [List.getElem?_cons_zero,List.getElem?_cons_succ] at p4
   go_wp2_with fail
   refine (c_EqualReads O5 A5 o5 q5 n5 c5 R.rs r.rs _ (hatR.s5.ext hx5) (hatN.s5.ext hx5) (fun q hq=>(hatR.s6 q hq).ext hx5) (fun q hq=>(hatN.s6 q hq).ext hx5) hLk.2.2.2.2).mono ?_
   rintro e w6 ⟨rfl,hx6⟩
   go_wp2_with fail
   go_ret
   exact Ret.bool (by rw [HRE.out]) ((XR.trans hx5).trans hx6)
end Go.Proofs.YtinindjjapblcaaGreatDoor
namespace Go.Proofs.YtinindjjapblcaaGreatDoor
open Go.RowKit
def RetOwn {α:Type} (t:TypeId) (f:α→List Value) (L:List α) (w:World) (e:Ending) (w':World):Prop:=
 ∃A n c g,e= .returned (.slice A n c)∧n≤c∧c≤9223372036854775807∧w.heap.size≤g∧OwnS w' g t f A n L∧Ext w w'
theorem SameC.of_exts {cs:List (Nat×Nat)} {W0 w w':World} (h:Ext W0 w) (h':Ext W0 w') (hb:∀q∈cs,q.1<W0.heap.size):SameC cs w w':=fun q hq=>(h'.cell q.1 q.2 (hb q hq)).trans (h.cell q.1 q.2 (hb q hq)).symm
theorem s5_lt {α:Type} {w:World} {size:Nat} {f:α→List Value} {b off:Nat} {n c:Nat} {xs:List α} (h:SliceOf w size f (some ⟨b,off,none⟩) n c xs) (hn:0<n):b<w.heap.size:=by
 obtain ⟨b',off',hA,hb,_⟩:=h.2.2.2 hn
 simp only [Option.some.injEq,Addr.mk.injEq] at hA
 obtain ⟨rfl,rfl,-⟩:=hA
 exact hb
set_option maxHeartbeats 4000000 in
theorem c_l33Events (A1 A2 A3 A4 A5:Option Addr) (n1 c1 n2 c2 n3 c3 n4 c4 n5 c5:Nat) (r:Room) (w:World) (hat:RoomAt w A1 A2 A3 A4 A5 n1 c1 n2 c2 n3 c3 n4 c4 n5 c5 r) (hf:RoomFits r):
  Calls Tryz.prog 38 #[.agg #[.slice A1 n1 c1,.slice A2 n2 c2,.slice A3 n3 c3,.slice A4 n4 c4,.slice A5 n5 c5]] w (RetOwn 54 Event.cells (roomEv r) w):=by
 obtain ⟨W0,HW⟩:∃W0,Hid (W0=w.alloc (.cells #[.slice A1 n1 c1,.slice A2 n2 c2,.slice A3 n3 c3,.slice A4 n4 c4,.slice A5 n5 c5] 32)):=⟨_,hide rfl⟩
 have hin:RoomIn W0 w.heap.size A1 A2 A3 A4 A5 n1 c1 n2 c2 n3 c3 n4 c4 n5 c5:=by rw [HW.out]; exact RoomIn.new w A1 A2 A3 A4 A5 n1 c1 n2 c2 n3 c3 n4 c4 n5 c5 32
 have hw0:Ext w W0:=by rw [HW.out]; exact Ext.alloc _ _
 have hm4:=hat.s4.max
 have hc4:=hat.s4.cap
 have hm5:=hat.s5.max
 have hc5:=hat.s5.cap
 have h200:n4≤200:=by rw [hat.s4.len]; exact hf.L
 have h48:n5≤48:=by rw [hat.s5.len]; exact hf.rs
 have HL5:=hide hat.s5.len
 have HL4:=hide hat.s4.len
 have hsz0:W0.heap.size=w.heap.size+1:=by rw [HW.out]; simp
 have HSZ:=hide hsz0
 clear hsz0
 go_enter Tryz.func38,Tryz.ntmps38
 go_wp2_with fail
 go_loopw [3,4] (fun v i wr=>∃(k:Nat) (E:List Event),k≤n4∧i= .int .i64 k∧E.length≤k∧Hid (E=(r.L.take k).map nomEv)∧OwnL wr (w.heap.size+1) 54 5 Event.cells v E∧Ext W0 wr) (fun _ i _=>n4-(intOf i).toNat)
 case atStart=>exact ⟨0,[],Nat.zero_le _,rfl,by simp,hide rfl,(by have h:=OwnL.empty (w.alloc (.cells #[.slice A1 n1 c1,.slice A2 n2 c2,.slice A3 n3 c3,.slice A4 n4 c4,.slice A5 n5 c5] 32)) (w.heap.size+1) 54 5 Event.cells (by simp); rw [World.size_alloc] at h; exact h),by rw [HW.out]; exact Ext.alloc _ _⟩
 case round=>
  obtain ⟨k,E,hk,rfl,hE,HE,hown,hx⟩:=hrel
  have hxz:=hx.size
  rw [HSZ.out] at hxz
  obtain ⟨hlt0,x0,x1,x2,x3,x4⟩:=hin.ext hx
  by_cases hlt:k<n4
  ·obtain ⟨b,off,p,rfl,hb,hxk,hc⟩:=(hat.s4.ext (hw0.trans hx)).get hlt
   have HX:=hide hxk
   clear hxk
   have hc0:=hc 0 _ rfl
   have hc1:=hc 1 _ rfl
   have hc2:=hc 2 _ rfl
   have hc3:=hc 3 _ rfl
   clear hc
   simp only [Nat.add_zero] at hc0
   go_wp2_with (at_builtin; go_must (refine wpList_append_one rfl _ _ 34 rfl (w.heap.size+1) 54 _ 5 40 Tryz.underlying34 event_info rfl (by decide) Event.cells event_len event_one _ _ rfl (hown.ext ((Ext.alloc _ _).and_alloc _)) _ (nomEv p) rfl _ rfl (by first | rfl | simp) (by omega) (by omega) (by first | omega | (simp; omega)) ?_))
   intro v1 w4 hown4 hext4
   have hx4:=hext4 _ (by rw [HSZ.out]; exact Nat.le_refl _) ((hx.and_alloc _).and_alloc _)
   go_wp2_with fail
   go_roundw
   case rel=>exact ⟨k+1,_,by omega,by go_num,by simp; omega,hide (by rw [take_one HX.out,List.map_append,HE.out]; rfl),hown4,hx4⟩
   case measure=>simp [intOf]; omega
  ·obtain rfl:n4=k:=by omega
   have HE0:=hide (show E=r.L.map nomEv by rw [HE.out,HL4.out,List.take_length])
   clear HE
   go_wp2_with fail
   clear hlt0 x0 x1 x2 x3 x4
   go_loopw [3,6] (fun v i wr=>∃(k:Nat) (E:List Event),k≤n5∧i= .int .i64 k∧E.length≤200+49*k∧Hid (E=r.L.map nomEv++hoursEv r.rs.length 0 ((r.rs.take k).map RS.xs))∧OwnL wr (w.heap.size+1) 54 5 Event.cells v E∧Ext W0 wr) (fun _ i _=>n5-(intOf i).toNat)
   case atStart=>exact ⟨0,E,Nat.zero_le _,rfl,by omega,hide (by rw [HE0.out]; simp [hoursEv]),hown,hx⟩
   case round=>
    clear hown hx hxz HE0 hE
    obtain ⟨k,E,hk,rfl,hE,HE,hown,hx⟩:=hrel
    have hxz:=hx.size
    rw [HSZ.out] at hxz
    obtain ⟨hlt0,x0,x1,x2,x3,x4⟩:=hin.ext hx
    by_cases hlt:k<n5
    ·obtain ⟨b,off,q,rfl,hb,hxk,hc⟩:=(hat.s5.ext (hw0.trans hx)).get hlt
     have t0:=hc 0 _ rfl
     simp only [Nat.add_zero,Nat.mul_one] at t0
     obtain ⟨qA,qn,qc,qx⟩:=q
     simp only at t0
     have hq:SliceOf w 2 Reading.cells qA qn qc qx:=hat.s6 _ (List.mem_of_getElem? hxk)
     have hq48:qn≤48:=by rw [hq.len]; exact hf.xs _ (List.mem_of_getElem? hxk)
     have HQL:=hide hq.len
     have hqm:=hq.max
     have hqc:=hq.cap
     have HX:=hide hxk
     clear hxk hc
     go_wp2_with fail
     clear hlt0 x0 x1 x2 x3 x4 t0 hb
     go_loopw [3,7] (fun v i wr=>∃(j:Nat) (E':List Event),j≤qn∧i= .int .i64 j∧E'.length≤200+49*k+j∧Hid (E'=E++(qx.take j).map readEv)∧OwnL wr (w.heap.size+1) 54 5 Event.cells v E'∧Ext W0 wr) (fun _ i _=>qn-(intOf i).toNat)
     case atStart=>exact ⟨0,E,Nat.zero_le _,rfl,by omega,hide (by simp),hown,hx⟩
     case round=>
      clear hown hx hxz hE
      obtain ⟨j,E',hj,rfl,hE',HE',hown,hx⟩:=hrel
      have hxz:=hx.size
      rw [HSZ.out] at hxz
      obtain ⟨hlt0,x0,x1,x2,x3,x4⟩:=hin.ext hx
      have t0:=(SliceOf.at_ (hat.s5.ext (hw0.trans hx)) hlt)
      obtain ⟨q',hq',hc'⟩:=t0
      obtain rfl:(⟨qA,qn,qc,qx⟩:RS)=q':=by have:=HX.out.symm.trans hq'; injection this
      have t0:=hc' 0 _ rfl
      simp only [Nat.add_zero,Nat.mul_one] at t0
      have hb:=s5_lt (hat.s5.ext (hw0.trans hx)) (Nat.lt_of_le_of_lt (Nat.zero_le _) hlt)
      clear hq' hc'
      by_cases hjlt:j<qn
      ·obtain ⟨b2,off2,x,rfl,hb2,hxj,hc⟩:=(hq.ext (hw0.trans hx)).get hjlt
       have HXJ:=hide hxj
       clear hxj
       have hc0:=hc 0 _ rfl
       have hc1:=hc 1 _ rfl
       clear hc
       simp only [Nat.add_zero] at hc0
       have hcs:∀q∈[(w.heap.size,4),(b,off+k),(b2,off2+j*2),(b2,off2+j*2+1)],q.1<W0.heap.size:=by
        have e1:=s5_lt hat.s5 (Nat.lt_of_le_of_lt (Nat.zero_le _) hlt)
        have e2:=s5_lt hq (Nat.lt_of_le_of_lt (Nat.zero_le _) hjlt)
        intro q hq
        simp only [List.mem_cons,List.not_mem_nil,or_false] at hq
        rw [HSZ.out]
        rcases hq with rfl | rfl | rfl | rfl <;> simp only <;> omega
       have HCS:=hide hcs
       clear hcs
       go_wp2_with fail
       refine wp_region_phC [(w.heap.size,4),(b,off+k),(b2,off2+j*2),(b2,off2+j*2+1)] [([0,1,2,3,4,5,6,7,8,9,10,11,12,13,14,15,16,17,18,19],20),([],21)] [22] (by kernel_rfl) (by kernel_rfl) (by intro c a w d v h; cases d <;> exact h) ?_
       simp only [wpPhC,pickL,nthO]
       repeat (go_big_quiet_step (fail))
       refine wpQuiet_nil ?_
       go_wp2_with fail
       refine ⟨SameC.of_exts hx (hx.and_alloc _).drew HCS.out,wpQuiet_nil ?_⟩
       go_wp2_with (at_builtin; go_must (refine wpList_append_one rfl _ _ 34 rfl (w.heap.size+1) 54 _ 5 40 Tryz.underlying34 event_info rfl (by decide) Event.cells event_len event_one _ _ rfl (hown.ext (Ext.alloc _ _).drew) wr.drew (readEv x) rfl _ rfl (by first | rfl | simp) (by omega) (by omega) (by first | omega | (simp; omega)) ?_))
       intro v1 w4 hown4 hext4
       have hx4:=hext4 _ (by rw [HSZ.out]; exact Nat.le_refl _) ((hx.and_alloc _).drew)
       go_wp2_with fail
       refine ⟨SameC.of_exts hx hx4 HCS.out,?_⟩
       repeat (go_big_quiet_step (fail))
       refine wpQuiet_nil ?_
       go_wp2_with fail
       go_roundw
       case rel=>exact ⟨j+1,_,by omega,by go_num,by simp; omega,hide (by rw [take_one HXJ.out,List.map_append,HE'.out]; simp),hown4,hx4⟩
       case measure=>simp [intOf]; omega
      ·obtain rfl:qn=j:=by omega
       have HE2:=hide (show E'=E++qx.map readEv by rw [HE'.out,HQL.out,List.take_length])
       clear HE'
       by_cases hlast:k+1<n5
       ·have hd:((k:Int)+1<(n5:Int)):=by omega
        go_wp2_with (at_builtin; go_must (refine wpList_append_one rfl _ _ 34 rfl (w.heap.size+1) 54 _ 5 40 Tryz.underlying34 event_info rfl (by decide) Event.cells event_len event_one _ _ rfl (hown.ext (Ext.alloc _ _)) _ (closeEv k) rfl _ rfl (by first | rfl | simp) (by omega) (by omega) (by first | omega | (simp; omega)) ?_))
        intro v1 w4 hown4 hext4
        have hx4:=hext4 _ (by rw [HSZ.out]; exact Nat.le_refl _) (hx.and_alloc _)
        go_wp2_with fail
        go_roundw
        case rel=>exact ⟨k+1,_,by omega,by go_num,by simp; omega,hide (by rw [ev_step HX.out, ←List.append_assoc, ←HE.out,HE2.out,hourEv,if_pos (by have:=HL5.out; omega)]; simp),hown4,hx4⟩
        case measure=>simp [intOf]; omega
       ·have hd:¬((k:Int)+1<(n5:Int)):=by omega
        go_wp2_with fail
        go_roundw
        case rel=>exact ⟨k+1,_,by omega,by go_num,by omega,hide (by rw [ev_step HX.out, ←List.append_assoc, ←HE.out,HE2.out,hourEv,if_neg (by have:=HL5.out; omega)]; simp),hown,hx⟩
        case measure=>simp [intOf]; omega
    ·obtain rfl:n5=k:=by omega
     have HE2:=hide (show E=roomEv r by rw [HE.out,HL5.out,List.take_length]; rfl)
     clear HE
     obtain ⟨A',c',g,hv,hg,hnc,hcm,ho⟩:=hown.own event_len (by omega)
     subst hv
     go_wp2_with fail
     go_ret
     exact ⟨A',_,c',g,rfl,hnc,hcm,by omega,by rw [←HE2.out]; exact ho,(hw0.trans hx)⟩
end Go.Proofs.YtinindjjapblcaaGreatDoor
namespace Go.Proofs.YtinindjjapblcaaGreatDoor
open Go.RowKit
def evsR (n1:Int) (r:Room):List Event×Int:=if roomB n1 r=true then evR r else ([],1)
theorem RetS.ext {α:Type} {t:TypeId} {f:α→List Value} {R:List α×Int} {w0 w w':World} {e:Ending} (hx:Ext w0 w) (h:RetS t f R w e w'):RetS t f R w0 e w':=by
 obtain ⟨A,n,c,g,h1,h2,h3,h4,h5,h6⟩:=h
 exact ⟨A,n,c,g,h1,h2,h3,Nat.le_trans hx.size h4,h5,hx.trans h6⟩
set_option maxHeartbeats 1000000 in
theorem c_RoomEvents (A1 A2 A3 A4 A5:Option Addr) (n1 c1 n2 c2 n3 c3 n4 c4 n5 c5:Nat) (r:Room) (w:World) (hat:RoomAt w A1 A2 A3 A4 A5 n1 c1 n2 c2 n3 c3 n4 c4 n5 c5 r):
  Calls Tryz.prog 8 #[.agg #[.slice A1 n1 c1,.slice A2 n2 c2,.slice A3 n3 c3,.slice A4 n4 c4,.slice A5 n5 c5]] w (RetS 54 Event.cells (evsR n1 r) w):=by
 have hin:=RoomIn.new w A1 A2 A3 A4 A5 n1 c1 n2 c2 n3 c3 n4 c4 n5 c5 32
 cases hb:roomB n1 r
 ·have HR:=hide (show evsR n1 r=([],1) by unfold evsR; rw [hb]; rfl)
  go_enter Tryz.func8,Tryz.ntmps8
  go_wp2_with fail
  refine (c_IsRoom A1 A2 A3 A4 A5 n1 c1 n2 c2 n3 c3 n4 c4 n5 c5 r _ (hat.ext (Ext.alloc _ _))).mono ?_
  rw [hb]
  rintro e w1 ⟨rfl,hx1⟩
  go_wp2_with fail
  go_ret2
  exact RetS.nil_ HR.out hx1.box
 ·have HR:=hide (show evsR n1 r=evR r by unfold evsR; rw [hb]; rfl)
  have hf:=roomFits hb
  go_enter Tryz.func8,Tryz.ntmps8
  go_wp2_with fail
  refine (c_IsRoom A1 A2 A3 A4 A5 n1 c1 n2 c2 n3 c3 n4 c4 n5 c5 r _ (hat.ext (Ext.alloc _ _))).mono ?_
  rw [hb]
  rintro e w1 ⟨rfl,hx1⟩
  obtain ⟨hlt,x0,x1,x2,x3,x4⟩:=hin.ext hx1
  go_wp2_with fail
  refine (c_roomEvents A1 A2 A3 A4 A5 n1 c1 n2 c2 n3 c3 n4 c4 n5 c5 r _ (hat.ext hx1.box) hf).mono ?_
  rintro e w2 ⟨A,n,c,g,rfl,hn,hc,hg,ho,hx2⟩
  go_wp2_with fail
  go_ret2
  rw [HR.out]
  exact RetS.ext hx1.box ⟨A,n,c,g,rfl,hn,hc,hg,ho,hx2⟩
set_option maxHeartbeats 1000000 in
theorem c_specRoomEvents (A1 A2 A3 A4 A5:Option Addr) (n1 c1 n2 c2 n3 c3 n4 c4 n5 c5:Nat) (r:Room) (w:World) (hat:RoomAt w A1 A2 A3 A4 A5 n1 c1 n2 c2 n3 c3 n4 c4 n5 c5 r) (hnm:∀x∈r.ns,x.name.size≤1048576):
  Calls Tryz.prog 9 #[.agg #[.slice A1 n1 c1,.slice A2 n2 c2,.slice A3 n3 c3,.slice A4 n4 c4,.slice A5 n5 c5]] w (RetS 54 Event.cells (evsR n1 r) w):=by
 have hin:=RoomIn.new w A1 A2 A3 A4 A5 n1 c1 n2 c2 n3 c3 n4 c4 n5 c5 32
 have HNM:=hide hnm
 clear hnm
 cases hb:roomB n1 r
 ·have HR:=hide (show evsR n1 r=([],1) by unfold evsR; rw [hb]; rfl)
  go_enter Tryz.func9,Tryz.ntmps9
  go_wp2_with fail
  refine (c_specIsRoom A1 A2 A3 A4 A5 n1 c1 n2 c2 n3 c3 n4 c4 n5 c5 r _ (hat.ext (Ext.alloc _ _)) HNM.out).mono ?_
  rw [hb]
  rintro e w1 ⟨rfl,hx1⟩
  go_wp2_with fail
  go_ret2
  exact RetS.nil_ HR.out hx1.box
 ·have hf:=roomFits hb
  have HR:=hide (show evsR n1 r=evR r by unfold evsR; rw [hb]; rfl)
  go_enter Tryz.func9,Tryz.ntmps9
  go_wp2_with fail
  refine (c_specIsRoom A1 A2 A3 A4 A5 n1 c1 n2 c2 n3 c3 n4 c4 n5 c5 r _ (hat.ext (Ext.alloc _ _)) HNM.out).mono ?_
  rw [hb]
  rintro e w1 ⟨rfl,hx1⟩
  obtain ⟨hlt,x0,x1,x2,x3,x4⟩:=hin.ext hx1
  go_wp2_with fail
  refine (c_l33Events A1 A2 A3 A4 A5 n1 c1 n2 c2 n3 c3 n4 c4 n5 c5 r _ (hat.ext hx1.box) hf).mono ?_
  rintro e w2 ⟨A,n,c,g,rfl,hn,hc,hg,ho,hx2⟩
  have HL:=hide ho.1
  by_cases h300:300<n
  ·have hd:(300:Int)<(n:Int):=by omega
   have HR2:=hide (show evsR n1 r=([],3) by rw [HR.out]; unfold evR; rw [←HL.out,if_pos h300])
   go_wp2_with fail
   go_ret2
   exact RetS.nil_ HR2.out (hx1.box.trans hx2)
  ·have hd:¬(300:Int)<(n:Int):=by omega
   have HR2:=hide (show evsR n1 r=(roomEv r,0) by rw [HR.out]; unfold evR; rw [←HL.out,if_neg h300])
   go_wp2_with fail
   go_ret2
   rw [HR2.out]
   exact RetS.ext hx1.box ⟨A,n,c,g,rfl,hn,hc,hg,ho,hx2⟩
end Go.Proofs.YtinindjjapblcaaGreatDoor
