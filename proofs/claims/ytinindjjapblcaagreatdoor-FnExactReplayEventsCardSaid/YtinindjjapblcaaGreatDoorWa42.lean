/-
  FnExactReplayEvents: for every input the law returns true and its arguments read as before.
-/
import Derived.Test.YtinindjjapblcaaGreatDoorWa39
import Derived.Test.YtinindjjapblcaaGreatDoorWa40
import Derived.Test.YtinindjjapblcaaGreatDoorWa27
import Derived.Test.YtinindjjapblcaaGreatDoorWa28
import Derived.Test.YtinindjjapblcaaGreatDoorWa41
namespace Go.Proofs.YtinindjjapblcaaGreatDoor
open Go.RowKit Go.ChangeShapes Go.WideShapes Go.ChangeAt Go.Deep Go.Joins Go.WideMaps Go.WideElems Go.ChangeMaps
open Go.Lib hiding intOf
structure NetBx (w:World) (b:Nat) (A1 A2:Option Addr) (n1 c1 n2 c2:Nat):Prop where
 lt:b<w.heap.size
 x0:w.cell? ⟨b,0,none⟩=some (.slice A1 n1 c1)
 x1:w.cell? ⟨b,1,none⟩=some (.slice A2 n2 c2)
theorem NetBx.ext {w w':World} {b:Nat} {A1 A2:Option Addr} {n1 c1 n2 c2:Nat} (h:NetBx w b A1 A2 n1 c1 n2 c2) (hx:Ext w w'):NetBx w' b A1 A2 n1 c1 n2 c2:=
 ⟨Nat.lt_of_lt_of_le h.lt hx.size,(hx.cell _ _ h.lt).trans h.x0,(hx.cell _ _ h.lt).trans h.x1⟩
theorem NetBx.new (w:World) (A1 A2:Option Addr) (n1 c1 n2 c2:Nat) (t:TypeId):NetBx (w.alloc (.cells #[.slice A1 n1 c1,.slice A2 n2 c2] t)) w.heap.size A1 A2 n1 c1 n2 c2:=by
 have hR:=Row.new w t [.slice A1 n1 c1,.slice A2 n2 c2]
 exact ⟨by simp,hR.cell 0,hR.cell 1⟩
theorem ROwn.sm {w:World} {lo hi:Nat} {A1 A2 A3 A4 A5:Option Addr} {n1 c1 n2 c2 n3 c3 n4 c4 n5 c5:Nat} {r' R:Room} (h:ROwn w lo hi A1 A2 A3 A4 A5 n1 c1 n2 c2 n3 c3 n4 c4 n5 c5 r') (hl:r'.Like R) (hR:RoomLen R):RoomSm n1 n2 n3 n4 r'.rs:=by
 obtain ⟨k1,_,k2,k3,k4,k5,_,k8⟩:=hR.like hl
 refine ⟨by rw [h.o1.1]; exact k1,by rw [h.o2.1]; exact k2,by rw [h.o3.1]; exact k3,by rw [h.o4.1]; exact k4,?_⟩
 have:r'.rs.map RS.n=(r'.rs.map RS.xs).map List.length:=by rw [List.map_map]; exact List.map_congr_left (fun q hq=>(h.o6 q hq).1)
 rw [this]; exact k8
theorem zeroR_len:RoomLen zeroR:=by
 refine ⟨by simp [zeroR],?_,by simp [zeroR],by simp [zeroR],by simp [zeroR],by simp [zeroR],by simp [zeroR],by simp [zeroR]⟩
 intro x hx
 simp [zeroR] at hx
theorem sum_leR {L:List (List Reading)} {k:Nat} (h:∀q∈L,q.length≤k):(L.map List.length).sum≤k*L.length:=by
 induction L with
 | nil=>simp
 | cons x L ih=>
  have h1:=h x (by simp)
  have h2:=ih (fun q hq=>h q (by simp [hq]))
  simp only [List.map_cons,List.sum_cons,List.length_cons,Nat.mul_succ]
  omega
theorem replR_same {n:Int} {R:Room} (es:List Event):(replR n R es).1.ps=R.ps∧(replR n R es).1.xs=R.xs:=by
 unfold replR
 have:∀(es:List Event) (p:Room×Nat),(es.foldl (stepE n) p).1.ps=p.1.ps∧(es.foldl (stepE n) p).1.xs=p.1.xs:=by
  intro es
  induction es with
  | nil=>exact fun p=>⟨rfl,rfl⟩
  | cons e es ih=>
   intro p
   have h:=ih (stepE n p e)
   have h2:(stepE n p e).1.ps=p.1.ps∧(stepE n p e).1.xs=p.1.xs:=by
    unfold stepE
    split
    ·exact ⟨(appR_same p.1 e).2.1,(appR_same p.1 e).2.2⟩
    ·exact ⟨rfl,rfl⟩
   exact ⟨h.1.trans h2.1,h.2.trans h2.2⟩
 exact this es (R,0)
theorem repV_len {n1:Int} {ns:List Node} {ps:List Pipe} {xs:List Contract} {l:List UInt8} (h1:ns.length≤1048576) (hn:Named ns) (h2:ps.length≤1048576) (h3:xs.length≤1048576):RoomLen (repV n1 ns ps xs l).1:=by
 unfold repV
 split
 ·rename_i hb
  split
  ·exact zeroR_len
  ·have hf:=roomFits (replR_ok (newR_val (k:=n1) hb) (recS l))
   have e1:=replR_ns (n:=n1) (R:=newR ns ps xs) (recS l)
   obtain ⟨e2,e3⟩:=replR_same (n:=n1) (R:=newR ns ps xs) (recS l)
   have hL:=hf.L
   have hrs:=hf.rs
   refine ⟨by show (replR _ _ _).1.ns.length≤_; rw [e1]; exact h1,by show Named (replR _ _ _).1.ns; rw [e1]; exact hn,by show (replR _ _ _).1.ps.length≤_; rw [e2]; exact h2,by show (replR _ _ _).1.xs.length≤_; rw [e3]; exact h3,by show (replR _ _ _).1.L.length≤_; omega,by show (replR _ _ _).1.rs.length≤_; omega,fun q hq=>by have:=hf.xs q hq; omega,?_⟩
   have h4:=sum_leR (L:=(replR n1 (newR ns ps xs) (recS l)).1.rs.map RS.xs) (k:=48) (fun q hq=>by obtain ⟨q',hq',rfl⟩:=List.mem_map.1 hq; exact hf.xs q' hq')
   simp only [List.length_map] at h4
   have h5:48*(replR n1 (newR ns ps xs) (recS l)).1.rs.length≤48*48:=Nat.mul_le_mul_left _ hrs
   show ((((replR n1 (newR ns ps xs) (recS l)).1.rs.map RS.xs)).map List.length).sum≤1048576
   omega
 ·exact zeroR_len
theorem RoomAt.turnN {S:Nat→Prop} {w w' w0:World} {A1 A2 A3 A4 A5:Option Addr} {n1 c1 n2 c2 n3 c3 n4 c4 n5 c5:Nat} {r:Room} (h:RoomAt w A1 A2 A3 A4 A5 n1 c1 n2 c2 n3 c3 n4 c4 n5 c5 r) (h0:RoomAt w0 A1 A2 A3 A4 A5 n1 c1 n2 c2 n3 c3 n4 c4 n5 c5 r) (k:Turn S w w') (hs:∀b,S b→w0.heap.size≤b):RoomAt w' A1 A2 A3 A4 A5 n1 c1 n2 c2 n3 c3 n4 c4 n5 c5 r:=by
 refine h.turnB k (fun b hb hS=> ?_)
 have:=hs b hS
 rcases hb with hb | ⟨q,hq,hb⟩
 ·simp only [List.mem_cons,List.not_mem_nil,or_false] at hb
  rcases hb with hb | hb | hb | hb | hb
  ·have:=h0.s1.blk hb.symm; omega
  ·have:=h0.s2.blk hb.symm; omega
  ·have:=h0.s3.blk hb.symm; omega
  ·have:=h0.s4.blk hb.symm; omega
  ·have:=h0.s5.blk hb.symm; omega
 ·have:=(h0.s6 q hq).blk hb; omega
theorem RoomIn.turn {S:Nat→Prop} {w w':World} {b:Nat} {A1 A2 A3 A4 A5:Option Addr} {n1 c1 n2 c2 n3 c3 n4 c4 n5 c5:Nat} (h:RoomIn w b A1 A2 A3 A4 A5 n1 c1 n2 c2 n3 c3 n4 c4 n5 c5) (k:Turn S w w') (hs:¬S b):RoomIn w' b A1 A2 A3 A4 A5 n1 c1 n2 c2 n3 c3 n4 c4 n5 c5:=
 ⟨Nat.lt_of_lt_of_le h.lt k.size,(k.cell h.lt hs).trans h.x0,(k.cell h.lt hs).trans h.x1,(k.cell h.lt hs).trans h.x2,(k.cell h.lt hs).trans h.x3,(k.cell h.lt hs).trans h.x4⟩
set_option maxHeartbeats 8000000 in
theorem law_ReplayEvents (A1 A2:Option Addr) (n1 c1 n2 c2:Nat) (ns:List Node) (ps:List Pipe) (A:Option Addr) (n c:Nat) (xs:List Contract) (l:List UInt8) (w:World) (h1:SliceOf w 3 Node.cells A1 n1 c1 ns) (h2:SliceOf w 5 Pipe.cells A2 n2 c2 ps) (hs:SliceOf w 8 Contract.cells A n c xs) (hnm:Named0 ns) (hg:Glob w):
  Calls Tryz.prog 5 #[.agg #[.slice A1 n1 c1,.slice A2 n2 c2],.slice A n c,.string (mkB l)] w (Ret (.bool true) w):=by
 have hin:=NetBx.new w A1 A2 n1 c1 n2 c2 58
 have HNM:=hide hnm
 have hcap:=hs.cap
 have hmax:=hs.max
 have hsz:(mkB l).size=l.length:=rfl
 clear hnm
 by_cases hlong:1048576<l.length
 ·go_enter Tryz.func5,Tryz.ntmps5
  go_wp2_with fail
  go_ret
  exact Ret.bool rfl (Ext.alloc _ _)
 have hl:l.length≤1048576:=by omega
 go_enter Tryz.func5,Tryz.ntmps5
 go_wp2_with fail
 refine (c_szNetwork A1 A2 n1 c1 n2 c2 ns 1048576 _ (h1.ext (Ext.alloc _ _)) h2.cap h2.max HNM.out (by omega) (by omega)).mono ?_
 rintro e w1 ⟨z,rfl,hx1,rfl | ⟨hz0,hz1,⟨m1,hnm⟩,m2⟩⟩
 ·go_wp2_with fail
  go_ret
  exact Ret.bool rfl hx1.box
 have hz':¬z<0:=by omega
 obtain ⟨hlt,x0,x1⟩:=hin.ext hx1
 go_wp2_with fail
 refine (c_szContractS A n c z _ hcap hmax (by omega) (by omega)).mono ?_
 by_cases hzn:z<(n:Int)
 ·rw [if_pos hzn]
  rintro e w' ⟨rfl,rfl⟩
  go_wp2_with fail
  go_ret
  exact Ret.bool rfl hx1.box
 rw [if_neg hzn]
 rintro e w' ⟨rfl,rfl⟩
 have m3:n≤1048576:=by omega
 have hz'':¬z-(n:Int)<0:=by omega
 have HN:=hide hnm
 have HL1:=hide h1.len
 have HL2:=hide h2.len
 have HL3:=hide hs.len
 have l1:ns.length≤1048576:=by rw [←HL1.out]; exact m1
 have l2:ps.length≤1048576:=by rw [←HL2.out]; exact m2
 have l3:xs.length≤1048576:=by rw [←HL3.out]; exact m3
 have hRL:=repV_len (n1:=ns.length) (xs:=xs) (l:=l) l1 hnm l2 l3
 obtain ⟨R,HR⟩:∃R,Hid (repV ns.length ns ps xs l=R):=⟨_,hide rfl⟩
 rw [HR.out] at hRL
 have HRL:=hide hRL
 clear hnm hRL
 go_wp2_with fail
 refine (c_toNetwork A1 A2 n1 c1 n2 c2 ns ps _ (h1.ext hx1.box) (h2.ext hx1.box) m1 m2).mono ?_
 rintro e w2 ⟨g1,g2,rfl,hg1,hg12,r1,r2,hx2⟩
 go_wp2_with fail
 refine (c_toContractS A n c xs _ (hs.ext (hx1.box.trans hx2)) m3).mono ?_
 rintro e w3 ⟨g3,rfl,hg3,r3,hx3⟩
 go_wp2_with fail
 refine (c_specReplayEvents _ _ _ _ _ _ ns ps _ _ _ xs _ ((r1.ext hx3).slice node_len rfl (by omega)) ((r2.ext hx3).slice pipe_len rfl (by omega)) (r3.slice contract_len rfl (by omega)) l1 l2 l3 HN.out l hl).mono ?_
 rw [HR.out]
 rintro e w4 ⟨S1,S2,S3,S4,S5,s1,e1,s2,e2,s3,e3,s4,e4,s5,e5,rs,rfl,hspo,hsl,hx4⟩
 have hsp:=hspo.at_
 clear hspo
 have HSL:=hide hsl
 clear hlt x0 x1 hsl
 have hX4:=hx1.trans (hx2.trans (hx3.trans hx4))
 have hinS:=RoomIn.new w4 S1 S2 S3 S4 S5 s1 e1 s2 e2 s3 e3 s4 e4 s5 e5 32
 have hX4':=hX4.and_alloc (.cells #[.slice S1 s1 e1,.slice S2 s2 e2,.slice S3 s3 e3,.slice S4 s4 e4,.slice S5 s5 e5] 32)
 obtain ⟨hlt,x0,x1⟩:=hin.ext hX4'
 go_wp2_with fail
 refine (c_toNetwork A1 A2 n1 c1 n2 c2 ns ps _ (h1.ext hX4'.box) (h2.ext hX4'.box) m1 m2).mono ?_
 rintro e w5 ⟨p1,p2,rfl,hp1,hp12,u1,u2,hx5⟩
 have hX5:=hX4'.trans hx5
 have hinX:=NetBx.new w5 (some ⟨p1,0,none⟩) (some ⟨p2,0,none⟩) ns.length ns.length ps.length ps.length 27
 have hX5':=hX5.and_alloc (.cells #[.slice (some ⟨p1,0,none⟩) ns.length ns.length,.slice (some ⟨p2,0,none⟩) ps.length ps.length] 27)
 clear hlt x0 x1
 go_wp2_with fail
 refine (c_toContractS A n c xs _ (hs.ext hX5'.box) m3).mono ?_
 rintro e w6 ⟨p3,rfl,hp3,u3,hx6⟩
 have hX6:=hX5'.trans hx6
 obtain ⟨hy,y0,y1⟩:=hinX.ext hx6
 go_wp2_with fail
 refine (c_ReplayEvents _ _ _ _ _ _ ns ps _ _ _ xs _ ((u1.ext hx6.box).slice node_len rfl (by omega)) ((u2.ext hx6.box).slice pipe_len rfl (by omega)) (u3.slice contract_len rfl (by omega)) l1 l2 l3 l hl (hg.ext hX6.box)).mono ?_
 rw [HR.out]
 rintro e w7 ⟨I1,I2,I3,I4,I5,i1,f1,i2,f2,i3,f3,i4,f4,i5,f5,ri,rfl,hio,hil,hx7⟩
 have hsm:=hio.sm hil HRL.out
 have HIL:=hide hil
 clear hy y0 y1 hil
 have hinI:=RoomIn.new w7 I1 I2 I3 I4 I5 i1 f1 i2 f2 i3 f3 i4 f4 i5 f5 32
 have hX7:=hX6.trans hx7
 have hx47:=hx5.trans (hx6.box.trans hx7)
 have hX8:=hX7.and_alloc (.cells #[.slice I1 i1 f1,.slice I2 i2 f2,.slice I3 i3 f3,.slice I4 i4 f4,.slice I5 i5 f5] 32)
 have hx48:=hx47.and_alloc (.cells #[.slice I1 i1 f1,.slice I2 i2 f2,.slice I3 i3 f3,.slice I4 i4 f4,.slice I5 i5 f5] 32)
 have zz4:=hX4.size
 have zz5:=hx5.size
 have zz6:=hx6.size
 have zz7:=hx7.size
 have lp1:=u1.lt
 have lp2:=u2.lt
 have lp3:=u3.lt
 simp at zz4 zz5 zz6 hp1 hp3
 obtain ⟨hy,y0,y1,y2,y3,y4⟩:=hinI
 have hinI:=RoomIn.new w7 I1 I2 I3 I4 I5 i1 f1 i2 f2 i3 f3 i4 f4 i5 f5 32
 obtain ⟨hv,v0,v1,v2,v3,v4⟩:=hinS.ext hx48
 go_wp2_with fail
 refine (c_eqRoom I1 I2 I3 I4 I5 i1 f1 i2 f2 i3 f3 i4 f4 i5 f5 S1 S2 S3 S4 S5 s1 e1 s2 e2 s3 e3 s4 e4 s5 e5 ri rs _ (hio.at_.ext (Ext.alloc _ _)) (hsp.ext hx48.box) (HIL.out.trans HSL.out.symm)).mono ?_
 rintro e w8 ⟨rfl,hx8⟩
 clear hy y0 y1 y2 y3 y4 hv v0 v1 v2 v3 v4
 have hX9:=hX8.trans hx8
 obtain ⟨hlt,x0,x1⟩:=hin.ext hX9
 obtain ⟨hy,y0,y1⟩:=hinX.ext ((hx6.trans hx7).trans hx8.box)
 go_wp2_with fail
 refine wp_region_ph [([0,1],2),([],3)] [4] (by kernel_rfl) (by kernel_rfl) (by intro c a w d v h; cases d <;> exact h) ?_
 simp only [wpPh,pickL,nthO]
 repeat (go_big_quiet_step (fail))
 refine wpQuiet_nil ?_
 have xb9:=hX9.box.drew
 go_wp2_with fail
 refine (c_toNetwork A1 A2 n1 c1 n2 c2 ns ps _ (h1.ext xb9) (h2.ext xb9) m1 m2).mono ?_
 rintro e w9 ⟨j1,j2,rfl,_,_,t1,t2,hx9⟩
 have hx59:Ext w5 w9:=(hx6.box.trans (hx7.trans hx8.box)).drew.trans hx9
 go_wp2_with fail
 refine ⟨hx9,wpQuiet_nil ?_⟩
 go_wp2_with fail
 refine (c_eqNetwork _ _ _ _ _ _ _ _ _ _ _ _ ns ps _ ((u1.ext hx59).slice node_len rfl (by omega)) ((u2.ext hx59).slice pipe_len rfl (by omega)) (t1.slice node_len rfl (by omega)) (t2.slice pipe_len rfl (by omega))).mono ?_
 rintro e w10 ⟨rfl,hx10⟩
 have hx810:Ext w8 w10:=(Ext.refl _).drew.trans (hx9.trans hx10)
 clear hlt x0 x1 hy y0 y1
 go_wp2_with fail
 refine ⟨hx10,?_⟩
 repeat (go_big_quiet_step (fail))
 refine wpQuiet_nil ?_
 have hX10:=hX9.trans hx810
 go_wp2_with fail
 refine (c_toContractS A n c xs _ (hs.ext hX10.box) m3).mono ?_
 rintro e w11 ⟨j3,rfl,_,t3,hx11⟩
 have hx811:=hx810.trans hx11
 have hx611:Ext w6 w11:=hx7.trans (hx8.box.trans hx811)
 go_wp2_with fail
 refine (c_eqContractS _ _ _ _ _ _ xs _ ((u3.ext hx611).slice contract_len rfl (by omega)) (t3.slice contract_len rfl (by omega))).mono ?_
 rintro e w12 ⟨rfl,hx12⟩
 have hx812:=hx811.trans hx12
 have hX12:=hX9.trans hx812
 have hx612:=hx611.trans hx12
 obtain ⟨hy,y0,y1⟩:=hinX.ext (hx6.trans hx612)
 go_wp2_with fail
 refine (c_markNetwork _ _ _ _ _ _ ns ps 1 _ ((u1.ext (hx6.box.trans hx612)).toA rfl (Nat.le_refl _) (by omega)) ((u2.ext (hx6.box.trans hx612)).toA rfl (Nat.le_refl _) (by omega)) (fun b hb hb'=>by have:=blk_some hb; have:=blk_some hb'; omega) l1 l2 (by omega) (by omega)).mono ?_
 rintro e w13 ⟨rfl,_,_,tr13⟩
 clear hy y0 y1
 have sb13:∀b,(blkOf (some ⟨p1,0,none⟩) ns.length=some b∨blkOf (some ⟨p2,0,none⟩) ps.length=some b)→b=p1∨b=p2:=fun b hb=>by
  rcases hb with hb | hb
  ·exact .inl (blk_some hb)
  ·exact .inr (blk_some hb)
 go_wp2_with fail
 refine (m_markContractS _ _ _ xs _ _ (((u3.ext hx612).toA rfl (Nat.le_refl _) (by omega)).turn tr13 (fun b hb hS=>by have:=blk_some hb; have:=sb13 b hS; omega)) (by omega) (by omega) (by omega)).mono ?_
 rintro e w14 ⟨rfl,_,tr14⟩
 have sb14:∀b,blkOf (some ⟨p3,0,none⟩) xs.length=some b→b=p3:=fun b hb=>blk_some hb
 have hX14:=(hX12.turn tr13 (fun b hb=>by have:=sb13 b hb; simp; omega)).turn tr14 (fun b hb=>by have:=sb14 b hb; simp; omega)
 have hsp14:=((hsp.ext (hx48.box.trans (hx8.trans hx812))).turnN hsp tr13 (fun b hb=>by have:=sb13 b hb; omega)).turnN hsp tr14 (fun b hb=>by have:=sb14 b hb; omega)
 have hio14:=((hio.ext ((Ext.alloc _ _).trans (hx8.trans hx812))).turn tr13 (fun b hb=>by have:=sb13 b hb; omega)).turn tr14 (fun b hb=>by have:=sb14 b hb; omega)
 have hinS14:=((hinS.ext (hx48.trans (hx8.trans hx812))).turn tr13 (fun hb=>by have:=sb13 _ hb; omega)).turn tr14 (fun hb=>by have:=sb14 _ hb; omega)
 have hinI14:=((hinI.ext (hx8.trans hx812)).turn tr13 (fun hb=>by have:=sb13 _ hb; omega)).turn tr14 (fun hb=>by have:=sb14 _ hb; omega)
 obtain ⟨hy,y0,y1,y2,y3,y4⟩:=hinI14
 obtain ⟨hv,v0,v1,v2,v3,v4⟩:=hinS14
 have hk0:decide ((1:Int)+3*(ns.length:Int)+5*(ps.length:Int)+8*(xs.length:Int)<0)=false:=by rw [decide_eq_false_iff_not]; omega
 go_wp2_with fail
 refine (c_eqRoom I1 I2 I3 I4 I5 i1 f1 i2 f2 i3 f3 i4 f4 i5 f5 S1 S2 S3 S4 S5 s1 e1 s2 e2 s3 e3 s4 e4 s5 e5 ri rs _ hio14.at_ hsp14 (HIL.out.trans HSL.out.symm)).mono ?_
 rintro e w15 ⟨rfl,hx15⟩
 have hinI15:=RoomIn.ext ⟨hy,y0,y1,y2,y3,y4⟩ hx15
 have hinS15:=RoomIn.ext ⟨hv,v0,v1,v2,v3,v4⟩ hx15
 clear hy y0 y1 y2 y3 y4 hv v0 v1 v2 v3 v4 hk0
 obtain ⟨hy,y0,y1,y2,y3,y4⟩:=hinI15
 go_wp2_with fail
 refine (c_markRoom _ _ I1 I2 I3 I4 I5 i1 f1 i2 f2 i3 f3 i4 f4 i5 f5 ri 1 _ (hio14.ext hx15) hsm (by omega) (by omega)).mono ?_
 rintro e w16 ⟨rfl,hmk,tr16⟩
 have hinI16:=RoomIn.turn ⟨hy,y0,y1,y2,y3,y4⟩ tr16 (fun hb=>by omega)
 have hinS16:=hinS15.turn tr16 (fun hb=>by omega)
 have hX16:=(hX14.trans hx15).turn tr16 (fun b hb=>by simp; omega)
 have hsp16:=(hsp14.ext hx15).turnN hsp tr16 (fun b hb=>by omega)
 clear hy y0 y1 y2 y3 y4
 obtain ⟨hy,y0,y1,y2,y3,y4⟩:=hinI16
 have hm0:¬markN 1 i1 i2 i3 i4 ri.rs<0:=by unfold markN; omega
 go_wp2_with fail
 refine (c_heldRoom I1 I2 I3 I4 I5 i1 f1 i2 f2 i3 f3 i4 f4 i5 f5 ri.rs 1 _ hmk hsm (by omega) (by omega)).mono ?_
 rintro e w17 ⟨rfl,hx17⟩
 have hinI17:=RoomIn.ext ⟨hy,y0,y1,y2,y3,y4⟩ hx17
 clear hy y0 y1 y2 y3 y4
 have hX17:=hX16.trans hx17
 generalize hMK:markN 1 i1 i2 i3 i4 ri.rs=mk at *
 have HMK:=hide hMK
 clear hMK
 obtain ⟨hlt,x0,x1⟩:=hin.ext hX17
 go_wp2_with fail
 refine (c_toNetwork A1 A2 n1 c1 n2 c2 ns ps _ (h1.ext hX17.box) (h2.ext hX17.box) m1 m2).mono ?_
 rintro e w18 ⟨j1,j2,rfl,_,_,t1,t2,hx18⟩
 clear hlt x0 x1
 go_wp2_with fail
 refine (c_toContractS A n c xs _ (hs.ext (hX17.box.trans hx18)) m3).mono ?_
 rintro e w19 ⟨j3,rfl,_,t3,hx19⟩
 go_wp2_with fail
 refine (c_ReplayEvents _ _ _ _ _ _ ns ps _ _ _ xs _ ((t1.ext hx19).slice node_len rfl (by omega)) ((t2.ext hx19).slice pipe_len rfl (by omega)) (t3.slice contract_len rfl (by omega)) l1 l2 l3 l hl (hg.ext (hX17.box.trans (hx18.trans hx19)))).mono ?_
 rw [HR.out]
 rintro e w20 ⟨J1,J2,J3,J4,J5,k1,b1,k2,b2,k3,b3,k4,b4,k5,b5,rj,rfl,hjo,hjl,hx20⟩
 have HJL:=hide hjl
 have hx1720:=(hx18.trans (hx19.trans hx20)).and_alloc (.cells #[.slice J1 k1 b1,.slice J2 k2 b2,.slice J3 k3 b3,.slice J4 k4 b4,.slice J5 k5 b5] 32)
 have hinJ:=RoomIn.new w20 J1 J2 J3 J4 J5 k1 b1 k2 b2 k3 b3 k4 b4 k5 b5 32
 clear hjl
 obtain ⟨hy,y0,y1,y2,y3,y4⟩:=hinJ
 obtain ⟨hv,v0,v1,v2,v3,v4⟩:=hinS16.ext (hx17.trans hx1720)
 go_wp2_with fail
 refine (c_eqRoom J1 J2 J3 J4 J5 k1 b1 k2 b2 k3 b3 k4 b4 k5 b5 S1 S2 S3 S4 S5 s1 e1 s2 e2 s3 e3 s4 e4 s5 e5 rj rs _ (hjo.at_.ext (Ext.alloc _ _)) (hsp16.ext (hx17.trans hx1720)) (HJL.out.trans HSL.out.symm)).mono ?_
 rintro e w21 ⟨rfl,hx21⟩
 clear hy y0 y1 y2 y3 y4 hv v0 v1 v2 v3 v4
 have hx1721:=hx1720.trans hx21
 obtain ⟨hy,y0,y1,y2,y3,y4⟩:=hinI17.ext hx1721
 go_wp2_with fail
 refine (c_heldRoom I1 I2 I3 I4 I5 i1 f1 i2 f2 i3 f3 i4 f4 i5 f5 ri.rs 1 _ (hmk.ext (hx17.trans hx1721)) hsm (by omega) (by omega)).mono ?_
 rw [HMK.out]
 rintro e w22 ⟨rfl,hx22⟩
 go_wp2_with fail
 go_ret
 exact Ret.bool rfl (hX17.trans (hx1721.trans hx22)).box
section
variable {H:Type} {enc:TypeId×Value→H} {w:World} {base:Nat} {spare:Nat→Bool} {held:Bool}
set_option maxRecDepth 100000 in
theorem open_netV {r0:Reach} {b0:Nat} {v:Value} {d:DataW H} {p:List MemPlace} (hv:Value.okWide Tryz.prog w r0 b0 58 v) (h:DataW.Trod enc Tryz.prog w base spare held 58 v d p):
  ∃(A1 A2:Option Addr) (n1 c1 n2 c2:Nat) (ns:List Node) (ps:List Pipe),v= .agg #[.slice A1 n1 c1,.slice A2 n2 c2]∧SliceOf w 3 Node.cells A1 n1 c1 ns∧SliceOf w 5 Pipe.cells A2 n2 c2 ps∧Named0 ns:=by
 obtain ⟨cs,rfl,hsz⟩:=okWide_struct Tryz.underlying58 hv
 have hC:Tryz.prog.cellsOf 58=2:=by kernel_rfl
 obtain ⟨l⟩:=cs
 match l,hsz.trans hC with
 | [v0,v1],_=>
  obtain ⟨fuel,hf⟩:=h
  obtain ⟨A1,A2,n1,c1,n2,c2,ns,ps,rfl,rfl,s1,s2,hnm⟩:=open_net hf
  exact ⟨A1,A2,n1,c1,n2,c2,ns,ps,rfl,s1,s2,hnm⟩
set_option maxRecDepth 100000 in
theorem open_bookV {r0:Reach} {b0:Nat} {v:Value} {d:DataW H} {p:List MemPlace} (hv:Value.okWide Tryz.prog w r0 b0 59 v) (h:DataW.Trod enc Tryz.prog w base spare held 59 v d p):
  ∃(A:Option Addr) (n c:Nat) (xs:List Contract),v= .slice A n c∧SliceOf w 8 Contract.cells A n c xs:=by
 obtain ⟨a0,len,cap,rfl⟩:=okWide_slice Tryz.underlying59 hv
 obtain ⟨fuel,hf⟩:=h
 exact open_contracts hf
end
set_option maxRecDepth 100000 in
theorem lifted_ReplayEvents (os:Os) (started:os.Started) (H:Type) (enc:TypeId×Value→H):
  ReturnsInHanded {} Tryz.checked os 5 .any (fun w args=>(Rows.fnExactReplayEventsSpec.pre enc Tryz.prog Tryz.f5 [] false w args∧laidMetH Tryz.prog Rows.fnExactReplayEventsRow.laid w)∧sizedMet enc Tryz.prog Tryz.f5 (OpenSpec.ofChange Rows.fnExactReplayEventsSpec) false w args)
   (Rows.fnExactReplayEventsSpec.post enc Tryz.prog Tryz.f5 false true false false):=by
 refine returns_laid (C:=Tryz.checked) (X:=fun w _=>laidMetH Tryz.prog Rows.fnExactReplayEventsRow.laid w) (fun _ _ _ hh h=>h.of_heap hh) own started (by kernel_rfl) Tryz.func5
  (ChangeSpec.witness_shaped (enc:=enc) (C:=Tryz.checked) (os:=os) (X:=fun w _=>laidMetH Tryz.prog Rows.fnExactReplayEventsRow.laid w) false (World.laidAll Tryz.prog os Rows.fnExactReplayEventsRow.laid) #[.agg #[.slice none 0 0,.slice none 0 0],.slice none 0 0,.string ⟨#[]⟩] 8 (World.laidAll_os _ _ _)
   (World.shaped_of_ZipB (by kernel_rfl) (by kernel_rfl)) (by kernel_rfl) (by kernel_rfl) (by kernel_rfl)
   (by rw [MakeChecks.laidMetH_plain _ _ _ (by kernel_rfl)]; exact laidMet_laidAll _ (by kernel_rfl) (by kernel_rfl))) ?_
 intro W base args ds gs before hval0 hW hL0 hsh
 have hval:∀(j:Nat) t v,Tryz.f5.params[j]? =some t→args[j]? =some v→Value.okWide Tryz.prog W .any base t v:=hval0
 have hW':=hW
 obtain ⟨p,q,hA0,hV,rfl,hfz,hnd⟩:=hW
 have hA:DataW.TrodAll enc Tryz.prog W 0 (fun _=>true) true Tryz.f5.params.toList args.toList ds p:=hA0
 rw [Tryz.params5] at hA hval
 obtain ⟨v0,vs0,d0,ds0,p0,q0,hargs,rfl,rfl,h0,r0⟩:=trodAll_cons hA
 obtain ⟨v1,vs1,d1,ds1,p1,q1,rfl,rfl,rfl,h1,r1⟩:=trodAll_cons r0
 obtain ⟨v2,vs2,d2,ds2,p2,q2,rfl,rfl,rfl,h2,r2⟩:=trodAll_cons r1
 obtain ⟨rfl,rfl,rfl⟩:=trodAll_nil r2
 obtain rfl:args= #[v0,v1,v2]:=by cases args; simp_all
 have k0:=h0
 have k1:=h1
 have lt0:∀x∈p0,x.block<W.heap.size:=by obtain ⟨m,hm⟩:=k0; exact DataW.trod_lt m _ _ _ hm
 have lt1:∀x∈p1,x.block<W.heap.size:=by obtain ⟨m,hm⟩:=k1; exact DataW.trod_lt m _ _ _ hm
 obtain ⟨A1,A2,n1,c1,n2,c2,ns,ps,e0,s1,s2,hnm⟩:=open_netV (hval 0 58 v0 rfl rfl) h0
 obtain ⟨A,n,c,xs,e1,s3⟩:=open_bookV (hval 1 59 v1 rfl rfl) h1
 obtain ⟨s,rfl,rfl,rfl,hsl⟩:=open_string Tryz.underlying9 (hval 2 9 v2 rfl rfl) h2
 have hL:laidMetH Tryz.prog Rows.fnExactReplayEventsRow.laid W:=hL0
 rw [MakeChecks.laidMetH_plain _ _ _ (by kernel_rfl)] at hL
 have hg:=glob_of hL hsh (.tail _ (.tail _ (.head _))) (.tail _ (.tail _ (.tail _ (.tail _ (.tail _ (.tail _ (.head _))))))) (.tail _ (.tail _ (.tail _ (.tail _ (.tail _ (.head _)))))) (.tail _ (.tail _ (.tail _ (.tail _ (.head _)))))
 have hw:=words_of (laidMet.reads hL (.tail _ (.tail _ (.tail _ (.tail _ (.tail _ (.tail _ (.head _))))))))
 clear hA0 hval0
 rw [e0,e1]
 refine (law_ReplayEvents A1 A2 n1 c1 n2 c2 ns ps A n c xs s.data.toList W s1 s2 s3 hnm hg).mono fun e W' ⟨he,bel⟩=> ?_
 subst he
 obtain ⟨g1,pv,rfl,hv'⟩:=words_stay hV bel hw
 rw [e0,e1] at hW'
 exact ⟨_,rfl,_,_,_,[],_,pv,hW',trodAll_mk1 (shut_bool Tryz.underlying4 _),(trodAll_cons_mk (Below.trod laidOut (by kernel_rfl) (of_decide_eq_true (by kernel_rfl)) (e0 ▸ k0) bel lt0) (trodAll_cons_mk (Below.trod laidOut (by kernel_rfl) (of_decide_eq_true (by kernel_rfl)) (e1 ▸ k1) bel lt1) (trodAll_cons_mk (shut_string Tryz.underlying9 hsl) trodAll_mk0))),hv',bel.frame _,fun h=>by cases h⟩
end Go.Proofs.YtinindjjapblcaaGreatDoor
