/-
  The law's argument: a code of bytes.
-/
import Derived.Test.YtinindjjapblcaaGreatDoorWa17
import Derived.Test.YtinindjjapblcaaGreatDoorWa18
import Derived.Test.YtinindjjapblcaaGreatDoorWa00
import Derived.Test.YtinindjjapblcaaGreatDoorWb00
import Derived.Test.YtinindjjapblcaaGreatDoorWa32
import Derived.Test.YtinindjjapblcaaGreatDoorWb01
import Derived.Test.YtinindjjapblcaaGreatDoorWa01
import Derived.Test.YtinindjjapblcaaGreatDoorWb02
import Derived.Test.YtinindjjapblcaaGreatDoorWb03
import Derived.Test.YtinindjjapblcaaGreatDoorWa31
namespace Go.Proofs.YtinindjjapblcaaGreatDoor
open Go.RowKit Go.ChangeShapes Go.WideShapes Go.ChangeAt Go.Deep Go.Joins
set_option maxRecDepth 100000 in
theorem open_bytes {H:Type} {enc:TypeId×Value→H} {w:World} {base b0:Nat} {spare:Nat→Bool} {held:Bool} {r:Reach} {v:Value} {d:DataW H} {p:List MemPlace}
  (hv:Value.okWide Tryz.prog w r b0 22 v) (h:DataW.Trod enc Tryz.prog w base spare held 22 v d p):
  ∃(A:Option Addr) (n c:Nat) (bs:List Int),v= .slice A n c∧SliceOf w 1 byteC A n c bs∧∀z∈bs,0≤z∧z≤255:=by
 obtain ⟨a0,len,cap,rfl⟩:=okWide_slice Tryz.underlying22 hv
 obtain ⟨fuel,hf⟩:=h
 obtain ⟨A,n,c,zs,e,hl,hs⟩:=open_nums Tryz.underlying22 Tryz.underlying5 (by kernel_rfl) hf
 refine ⟨A,n,c,zs,e,hs,fun z hz=> ?_⟩
 have:=hl z hz
 simp [Lit.wf,IntKind.min,IntKind.max,IntKind.signed,IntKind.bits] at this
 omega
set_option maxRecDepth 100000 in
theorem c_big (A:Option Addr) (n c:Nat) (w:World):Calls Tryz.prog 6 #[.slice A n c] w fun e w'=>e= .returned (.bool (decide ((4096:Int)<n)))∧w=w':=by
 go_enter Tryz.func6,Tryz.ntmps6
 go_wp2_with fail
 go_ret
 exact ⟨rfl,rfl⟩
end Go.Proofs.YtinindjjapblcaaGreatDoor
namespace Go.Proofs.YtinindjjapblcaaGreatDoor
open Go.RowKit
open Go.Lib hiding intOf
def DrawnRm (w:World) (e:Ending) (w':World):Prop:=
 ∃(A1 A2 A3 A4 A5:Option Addr) (n1 c1 n2 c2 n3 c3 n4 c4 n5 c5:Nat) (r:Room),e= .returned (.agg #[.slice A1 n1 c1,.slice A2 n2 c2,.slice A3 n3 c3,.slice A4 n4 c4,.slice A5 n5 c5])∧RoomAt w' A1 A2 A3 A4 A5 n1 c1 n2 c2 n3 c3 n4 c4 n5 c5 r∧SizR r∧Ext w w'
set_option maxHeartbeats 2000000 in
theorem c_DrawRoomEvents (A:Option Addr) (n c:Nat) (bs:List Int) (w:World) (hbs:SliceOf w 1 byteC A n c bs) (hbd:∀z∈bs,0≤z∧z≤255) (hn:n≤1048576):
  Calls Tryz.prog 7 #[.slice A n c] w (DrawnRm w):=by
 have HD:=hide hbd
 clear hbd
 have hR:=Row.new w 32 [.slice none 0 0,.slice none 0 0,.slice none 0 0,.slice none 0 0,.slice none 0 0]
 have hx0:Ext w (w.alloc (.cells #[.slice none 0 0,.slice none 0 0,.slice none 0 0,.slice none 0 0,.slice none 0 0] 32)):=Ext.alloc _ _
 go_enter Tryz.func7,Tryz.ntmps7
 go_wp2_with fail
 refine (c_l01From A n c bs _ (hbs.ext hx0) HD.out).mono ?_
 rintro e w1 ⟨a,rfl,ha,ha1,hs1,hx1⟩
 have hX1:=hx0.trans hx1
 have hz:w.heap.size+1≤a:=by simp at ha; omega
 have hS:Src w w1 a A n c:=⟨⟨bs,hbs,HD.out⟩,hn,by omega,hX1,hs1⟩
 have hR1:=hR.ext hx1
 clear hR hbs hs1
 go_wp2_with fail
 refine (c_l33Draw hS).mono ?_
 rintro e w2 ⟨C1,C2,C3,C4,C5,l1,f1,l2,f2,l3,f3,l4,f4,l5,f5,r,rfl,hs2,ho2,hat,hfar,hsz,hL,hrs,hq⟩
 have hR2:=hR1.only ho2 (by omega)
 have hzz:=hx1.size
 simp at hzz
 have p0:=hR2.cell 0
 have p1:=hR2.cell 1
 have p2:=hR2.cell 2
 have p3:=hR2.cell 3
 have p4:=hR2.cell 4
 simp at p0 p1 p2 p3 p4
 have pf:=hR2.frozen
 have pl:=hR2.lt
 have t1:=Turn.of_only (S:=fun b=>b=w.heap.size) ((Only.refl w.heap.size w2).put 0 [.slice C1 l1 f1,.slice C2 l2 f2,.slice C3 l3 f3,.slice C4 l4 f4,.slice C5 l5 f5]) (fun _=>rfl)
 have HF:=hide (show DrawnRm w (.returned (.agg #[.slice C1 l1 f1,.slice C2 l2 f2,.slice C3 l3 f3,.slice C4 l4 f4,.slice C5 l5 f5])) (putCells w2 w.heap.size 0 [.slice C1 l1 f1,.slice C2 l2 f2,.slice C3 l3 f3,.slice C4 l4 f4,.slice C5 l5 f5]) from
  ⟨C1,C2,C3,C4,C5,l1,f1,l2,f2,l3,f3,l4,f4,l5,f5,r,rfl,hat.turnB t1 (fun b hb e=>by have:=hfar b hb; omega),hsz,hs2.ext.put (Nat.le_refl _) _ _⟩)
 clear hR1 hR2 hfar hsz hq hs2 ho2 hat t1
 go_wp2_with fail
 refine bodyPost_ret (v:= .agg #[.slice C1 l1 f1,.slice C2 l2 f2,.slice C3 l3 f3,.slice C4 l4 f4,.slice C5 l5 f5]) (by simp [results,Tryz.results7,go_sem,p0,p1,p2,p3,p4]) rfl ?_
 exact HF.out
set_option maxHeartbeats 8000000 in
set_option maxRecDepth 8000 in
theorem law_RoomEvents (A:Option Addr) (n c:Nat) (bs:List Int) (w:World) (hbs:SliceOf w 1 byteC A n c bs) (hbd:∀z∈bs,0≤z∧z≤255) (hg:Glob w):
  Calls Tryz.prog 3 #[.slice A n c] w (Ret (.bool true) w):=by
 have HD:=hide hbd
 clear hbd
 by_cases hbig:(4096:Int)<n
 ·have hb:decide ((4096:Int)<n)=true:=by simpa using hbig
  go_enter Tryz.func3,Tryz.ntmps3
  go_wp2_with fail
  refine (c_big A n c _).mono ?_
  rw [hb]
  rintro e w' ⟨rfl,rfl⟩
  go_wp2_with fail
  go_ret
  exact Ret.bool rfl (Ext.refl _)
 have hb:decide ((4096:Int)<n)=false:=by simpa using hbig
 go_enter Tryz.func3,Tryz.ntmps3
 go_wp2_with fail
 refine (c_big A n c _).mono ?_
 rw [hb]
 rintro e w' ⟨rfl,rfl⟩
 clear hb
 go_wp2_with fail
 refine (c_DrawRoomEvents A n c bs _ hbs HD.out (by omega)).mono ?_
 rintro e w1 ⟨C1,C2,C3,C4,C5,l1,f1,l2,f2,l3,f3,l4,f4,l5,f5,r,rfl,hat,hsz,hx1⟩
 have hin:=RoomIn.new w1 C1 C2 C3 C4 C5 l1 f1 l2 f2 l3 f3 l4 f4 l5 f5 32
 have hNM:∀x∈r.ns,x.name.size≤1048576:=fun x hx=>Nat.le_trans (hsz.nm x hx) (by omega)
 have HNM:=hide hNM
 have hl1:l1≤7:=by rw [hat.s1.len]; exact hsz.ns
 have hl2:l2≤30:=by rw [hat.s2.len]; exact hsz.ps
 have hl3:l3≤40:=by rw [hat.s3.len]; exact hsz.xs
 obtain ⟨W1,HW1⟩:∃W1,Hid (w1.alloc (.cells #[.slice C1 l1 f1,.slice C2 l2 f2,.slice C3 l3 f3,.slice C4 l4 f4,.slice C5 l5 f5] 32)=W1):=⟨_,hide rfl⟩
 have hxb:Ext w1 W1:=by rw [←HW1.out]; exact Ext.alloc _ _
 have hin:RoomIn W1 w1.heap.size C1 C2 C3 C4 C5 l1 f1 l2 f2 l3 f3 l4 f4 l5 f5:=by rw [←HW1.out]; exact hin
 have hatb:=hat.ext hxb
 have X1:=hx1.trans hxb
 clear hNM hsz hat hbs
 obtain ⟨hlt,y0,y1,y2,y3,y4⟩:=id hin
 go_wp2_with fail
 rw [HW1.out]
 refine (c_RoomEvents C1 C2 C3 C4 C5 l1 f1 l2 f2 l3 f3 l4 f4 l5 f5 r _ hatb).mono ?_
 rintro e w2 ⟨EA,en,ec,eg,rfl,hec,hem,heg,heo,hx2⟩
 have HEN:=hide heo.1
 clear hlt y0 y1 y2 y3 y4
 obtain ⟨hlt,y0,y1,y2,y3,y4⟩:=hin.ext hx2
 go_wp2_with fail
 refine (c_specRoomEvents C1 C2 C3 C4 C5 l1 f1 l2 f2 l3 f3 l4 f4 l5 f5 r _ (hatb.ext hx2) HNM.out).mono ?_
 rintro e w3 ⟨FA,fn,fc,fg,rfl,hfc,hfm,hfg,hfo,hx3⟩
 have hen:fn=en:=by rw [HEN.out]; exact hfo.1
 subst hen
 have hx13:=hx2.trans hx3
 have heo3:=heo.ext hx3
 clear hlt y0 y1 y2 y3 y4 hfo hfg heo
 obtain ⟨hlt,y0,y1,y2,y3,y4⟩:=hin.ext hx13
 obtain ⟨cd,HCD⟩:∃cd,Hid ((evsR (l1:Int) r).2=cd):=⟨_,hide rfl⟩
 rw [HCD.out]
 go_wp2_with fail
 refine wp_region_ph [([0,1,2,3,4,5,6,7,8,9,10,11,13],12),([],14)] [15,16] (by kernel_rfl) (by kernel_rfl) (by intro c a w d v h; cases d <;> exact h) ?_
 simp only [wpPh,pickL,nthO]
 repeat (go_big_quiet_step (fail))
 refine wpQuiet_nil ?_
 go_wp2_with fail
 refine (c_IsReachable C1 C2 C3 C4 C5 l1 f1 l2 f2 l3 f3 l4 f4 l5 f5 r _ ((hatb.ext hx13).ext (Ext.refl _).drew)).mono ?_
 rintro e w4 ⟨rfl,hx4⟩
 have hx34:Ext w3 w4:=(Ext.refl _).drew.trans hx4
 clear hlt y0 y1 y2 y3 y4
 obtain ⟨hlt,y0,y1,y2,y3,y4⟩:=hin.ext (hx13.trans hx34)
 go_wp2_with fail
 refine ⟨hx4,?_⟩
 repeat (go_big_quiet_step (fail))
 refine wpQuiet_nil ?_
 go_wp2_with fail
 refine (c_specIsReachable C1 C2 C3 C4 C5 l1 f1 l2 f2 l3 f3 l4 f4 l5 f5 r _ ((hatb.ext (hx13.trans hx34))) HNM.out).mono ?_
 rintro e w5 ⟨rfl,hx5⟩
 have hx15:=(hx13.trans hx34).trans hx5
 clear hlt y0 y1 y2 y3 y4
 obtain ⟨hlt,y0,y1,y2,y3,y4⟩:=hin.ext hx15
 go_wp2_with fail
 refine ⟨hx5,?_⟩
 repeat (go_big_quiet_step (fail))
 refine wpQuiet_nil ?_
 by_cases hcd:cd=0
 ·subst hcd
  go_wp2_with fail
  refine (c_specIsReachable C1 C2 C3 C4 C5 l1 f1 l2 f2 l3 f3 l4 f4 l5 f5 r _ (hatb.ext hx15) HNM.out).mono ?_
  rintro e w6 ⟨rfl,hx6⟩
  have hx16:=hx15.trans hx6
  clear hlt y0 y1 y2 y3 y4
  obtain ⟨hlt,y0,y1,y2,y3,y4⟩:=hin.ext hx16
  cases hre:reachB (l1:Int) r
  ·go_wp2_with fail
   go_ret
   exact Ret.bool rfl (X1.trans hx16)
  have hrb:roomB (l1:Int) r=true:=by
   unfold reachB at hre; simp only [Bool.and_eq_true] at hre; exact hre.1.1
  have hrl:(roomEv r).length≤300:=by
   unfold reachB at hre; simp only [Bool.and_eq_true,decide_eq_true_eq] at hre; exact hre.1.2
  have hrs:r.rs≠[]:=fun h=>by
   have:=roomB_pos hrb
   rw [h] at this
   simp at this
  have hev:∀e∈roomEv r,evB e=true:=roomEv_ok hrb (by omega)
  have hE:=reach_ev hrb hrl
  rw [hE] at heo3 HEN
  obtain ⟨R',hrp,hlk⟩:=reach_repl hre hrs
  have HV:=hide (repV_whole (room_book hrb) hrl hev)
  rw [hrp] at HV
  have hsl:=((heo3.slice event_len hec hem).ext hx34).ext (hx5.trans hx6)
  have HJ:=hide (jourR_valid hrl hev)
  have htl:=text_shortR (roomEv r) hev hrl
  have HLK:=hide hlk
  obtain ⟨j,HT⟩:∃j,Hid (textL (roomEv r) 1=j):=⟨_,hide rfl⟩
  rw [HT.out] at HJ HV htl
  clear hre hrb hrs hev hE hrp heo3 hlk
  go_wp2_with fail
  refine (c_JournalOf EA fn ec _ _ hsl (hg.ext (X1.trans hx16)).toJ).mono ?_
  rw [HJ.out]
  rintro e w7 ⟨rfl,hx7⟩
  have hx17:=hx16.trans hx7
  clear hlt y0 y1 y2 y3 y4
  obtain ⟨hlt,y0,y1,y2,y3,y4⟩:=hin.ext hx17
  have hszj:(mkB j).size=j.length:=rfl
  have hat7:=hatb.ext hx17
  go_wp2_with fail
  refine (c_ReplayEvents C1 C2 l1 f1 l2 f2 r.ns r.ps C3 l3 f3 r.xs _ hat7.s1 hat7.s2 hat7.s3 (by omega) (by omega) (by omega) j (by omega) (hg.ext (X1.trans hx17))).mono ?_
  rw [HV.out]
  rintro e w8 ⟨D1,D2,D3,D4,D5,q1,g1,q2,g2,q3,g3,q4,g4,q5,g5,r8,rfl,hO8,hl8,hx8⟩
  have hin8:=RoomIn.new w8 D1 D2 D3 D4 D5 q1 g1 q2 g2 q3 g3 q4 g4 q5 g5 32
  have hx8b:=hx8.and_alloc (.cells #[.slice D1 q1 g1,.slice D2 q2 g2,.slice D3 q3 g3,.slice D4 q4 g4,.slice D5 q5 g5] 32)
  have hx18:=hx17.trans hx8b
  have HL8:=hide (hl8.trans HLK.out)
  clear hlt y0 y1 y2 y3 y4 hl8
  obtain ⟨hlt,y0,y1,y2,y3,y4⟩:=hin.ext hx18
  obtain ⟨hv,v0,v1,v2,v3,v4⟩:=hin8
  go_wp2_with fail
  refine (c_likeRooms D1 D2 D3 D4 D5 q1 g1 q2 g2 q3 g3 q4 g4 q5 g5 C1 C2 C3 C4 C5 l1 f1 l2 f2 l3 f3 l4 f4 l5 f5 r8 r _ (hO8.at_.ext (Ext.alloc _ _)) (hatb.ext hx18) HL8.out).mono ?_
  rintro e w9 ⟨rfl,hx9⟩
  go_wp2_with fail
  go_ret
  exact Ret.bool rfl ((X1.trans hx18).trans hx9)
 ·have hcb:(cd != 0)=true:=by rw [bne_iff_ne]; exact hcd
  go_wp2_with fail
  go_ret
  exact Ret.bool rfl (X1.trans hx15)
end Go.Proofs.YtinindjjapblcaaGreatDoor
