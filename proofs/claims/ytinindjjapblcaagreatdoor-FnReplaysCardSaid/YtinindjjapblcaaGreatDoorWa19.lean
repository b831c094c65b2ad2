/-
  The helpers of the laws on whole rooms: marking, and looking at the marks.
-/
import Derived.Test.YtinindjjapblcaaGreatDoorWa18
import Derived.Test.YtinindjjapblcaaGreatDoorWa17
import Derived.Test.YtinindjjapblcaaGreatDoorWa02
import Derived.Test.YtinindjjapblcaaGreatDoorWa00
import Derived.Test.YtinindjjapblcaaGreatDoorWa08
import Derived.Test.YtinindjjapblcaaGreatDoorWa01
namespace Go.Proofs.YtinindjjapblcaaGreatDoor
open Go.RowKit
structure MarkedNet (A1 A2:Option Addr) (n1 c1 n2 c2:Nat) (a:Int) (w:World) (e:Ending) (w':World):Prop where
 e:e= .returned (.int .i64 (a+3*n1+5*n2))
 o1:OwnA w' 147 Node.cells A1 n1 c1 (markNode a n1)
 o2:OwnA w' 149 Pipe.cells A2 n2 c2 (markPipe (a+3*n1) n2)
 turn:Turn (fun b=>blkOf A1 n1=some b∨blkOf A2 n2=some b) w w'
set_option maxHeartbeats 1000000 in
theorem c_markNetwork (A1 A2:Option Addr) (n1 c1 n2 c2:Nat) (ns:List Node) (ps:List Pipe) (a:Int) (w:World) (h1:OwnA w 147 Node.cells A1 n1 c1 ns) (h2:OwnA w 149 Pipe.cells A2 n2 c2 ps)
  (hap:∀b,blkOf A1 n1=some b→blkOf A2 n2≠some b) (m1:n1≤1048576) (m2:n2≤1048576) (ha0:0≤a) (ha1:a≤1000000000):
  Calls Tryz.prog 29 #[.agg #[.slice A1 n1 c1,.slice A2 n2 c2],.int .i64 a] w (MarkedNet A1 A2 n1 c1 n2 c2 a w):=by
 go_enter Tryz.func29,Tryz.ntmps29
 go_wp2_with fail
 refine (m_markNodeS A1 n1 c1 ns a _ (h1.ext (Ext.alloc _ _)) (by omega) (by omega) (by omega)).mono ?_
 rintro e w1 ⟨rfl,o1,t1⟩
 have hz1:w.heap.size<w1.heap.size:=by have:=t1.size; simp at this; omega
 have hb1:∀j,w1.cell? ⟨w.heap.size,j,none⟩=(w.alloc (.cells #[.slice A1 n1 c1,.slice A2 n2 c2] 27)).cell? ⟨w.heap.size,j,none⟩:=fun j=>t1.cell (by simp) (fun h=>by have:=h1.lt h; omega)
 have o2:=(h2.ext (Ext.alloc _ _)).turn t1 (fun b hb hb'=>hap b hb' hb)
 go_wp2_with fail
 refine (m_markPipeS A2 n2 c2 ps _ _ o2 (by omega) (by omega) (by omega)).mono ?_
 rintro e w2 ⟨rfl,o2',t2⟩
 go_wp2_with fail
 go_ret
 exact ⟨rfl,o1.turn t2 (fun b hb hb'=>hap b hb hb'),o2',(Turn.of_ext (Ext.alloc _ _)).trans ((t1.mono (fun b hb=> .inl hb)).trans (t2.mono (fun b hb=> .inr hb)))⟩
set_option maxHeartbeats 1000000 in
theorem c_heldNetwork (A1 A2:Option Addr) (n1 c1 n2 c2:Nat) (a:Int) (w:World) (h1:SliceOf w 3 Node.cells A1 n1 c1 (markNode a n1)) (h2:SliceOf w 5 Pipe.cells A2 n2 c2 (markPipe (a+3*n1) n2))
  (m1:n1≤1048576) (m2:n2≤1048576) (ha0:0≤a) (ha1:a≤1000000000):
  Calls Tryz.prog 79 #[.agg #[.slice A1 n1 c1,.slice A2 n2 c2],.int .i64 a] w (Ret (.int .i64 (a+3*n1+5*n2)) w):=by
 go_enter Tryz.func79,Tryz.ntmps79
 go_wp2_with fail
 refine (c_heldNodeS A1 n1 c1 a _ (h1.ext (Ext.alloc _ _)) (by omega) (by omega) (by omega)).mono ?_
 rintro e w1 ⟨rfl,hx1⟩
 have hcl1:=hx1.cell
 have e1:¬a+3*(n1:Int)<0:=by omega
 go_wp2_with fail
 refine (c_heldPipeS A2 n2 c2 _ _ (h2.ext hx1.box) (by omega) (by omega) (by omega)).mono ?_
 rintro e w2 ⟨rfl,rfl⟩
 have e2:¬a+3*(n1:Int)+5*(n2:Int)<0:=by omega
 go_wp2_with fail
 go_ret
 exact ⟨rfl,hx1.box⟩
structure ROwn (w:World) (lo hi:Nat) (A1 A2 A3 A4 A5:Option Addr) (n1 c1 n2 c2 n3 c3 n4 c4 n5 c5:Nat) (r:Room):Prop where
 o1:OwnA w 147 Node.cells A1 n1 c1 r.ns
 o2:OwnA w 149 Pipe.cells A2 n2 c2 r.ps
 o3:OwnA w 98 Contract.cells A3 n3 c3 r.xs
 o4:OwnA w 79 Nomination.cells A4 n4 c4 r.L
 o5:OwnA w 81 RS.cells A5 n5 c5 r.rs
 o6:∀q∈r.rs,OwnA w 84 Reading.cells q.A q.n q.c q.xs
 ff:SepL [blkOf A1 n1,blkOf A2 n2,blkOf A3 n3,blkOf A4 n4,blkOf A5 n5]
 rr:SepL (r.rs.map fun q=>blkOf q.A q.n)
 fr:∀b,some b∈[blkOf A1 n1,blkOf A2 n2,blkOf A3 n3,blkOf A4 n4,blkOf A5 n5]→¬rsBlk r.rs b
 rf:∀b,some b∈[blkOf A1 n1,blkOf A2 n2,blkOf A3 n3,blkOf A4 n4,blkOf A5 n5]→lo≤b∧b<hi
 rq:∀b,rsBlk r.rs b→lo≤b∧b<hi
section
variable {w w':World} {lo hi:Nat} {A1 A2 A3 A4 A5:Option Addr} {n1 c1 n2 c2 n3 c3 n4 c4 n5 c5:Nat} {r:Room}
theorem ROwn.ext (h:ROwn w lo hi A1 A2 A3 A4 A5 n1 c1 n2 c2 n3 c3 n4 c4 n5 c5 r) (hx:Ext w w'):ROwn w' lo hi A1 A2 A3 A4 A5 n1 c1 n2 c2 n3 c3 n4 c4 n5 c5 r:=
 ⟨h.o1.ext hx,h.o2.ext hx,h.o3.ext hx,h.o4.ext hx,h.o5.ext hx,fun q hq=>(h.o6 q hq).ext hx,h.ff,h.rr,h.fr,h.rf,h.rq⟩
theorem ROwn.turn {S:Nat→Prop} (h:ROwn w lo hi A1 A2 A3 A4 A5 n1 c1 n2 c2 n3 c3 n4 c4 n5 c5 r) (k:Turn S w w') (hs:∀b,S b→b<lo∨hi≤b):ROwn w' lo hi A1 A2 A3 A4 A5 n1 c1 n2 c2 n3 c3 n4 c4 n5 c5 r:=by
 have g:∀b,some b∈[blkOf A1 n1,blkOf A2 n2,blkOf A3 n3,blkOf A4 n4,blkOf A5 n5]→¬S b:=fun b hb hS=>by have:=h.rf b hb; have:=hs b hS; omega
 exact ⟨h.o1.turn k (fun b hb=>g b (by simp [hb])),h.o2.turn k (fun b hb=>g b (by simp [hb])),h.o3.turn k (fun b hb=>g b (by simp [hb])),h.o4.turn k (fun b hb=>g b (by simp [hb])),h.o5.turn k (fun b hb=>g b (by simp [hb])),
  fun q hq=>(h.o6 q hq).turn k (fun b hb hS=>by have:=h.rq b ⟨q,hq,hb⟩; have:=hs b hS; omega),h.ff,h.rr,h.fr,h.rf,h.rq⟩
theorem ROwn.at_ (h:ROwn w lo hi A1 A2 A3 A4 A5 n1 c1 n2 c2 n3 c3 n4 c4 n5 c5 r):RoomAt w A1 A2 A3 A4 A5 n1 c1 n2 c2 n3 c3 n4 c4 n5 c5 r:=
 ⟨h.o1.slice node_len,h.o2.slice pipe_len,h.o3.slice contract_len,h.o4.slice nomination_len,h.o5.slice rs_len,fun q hq=>(h.o6 q hq).slice reading_len⟩
end
def markR (a:Int) (n1 n2 n3 n4:Nat) (rs:List RS):Room:=
 ⟨markNode a n1,markPipe (a+3*n1) n2,markContract (a+3*n1+5*n2) n3,markNomination (a+3*n1+5*n2+8*n3) n4,markRS (a+3*n1+5*n2+8*n3+4*n4) rs⟩
def markN (a:Int) (n1 n2 n3 n4:Nat) (rs:List RS):Int:=a+3*n1+5*n2+8*n3+4*n4+2*((rs.map RS.n).sum:Nat)
structure MarkedRoom (lo hi:Nat) (A1 A2 A3 A4 A5:Option Addr) (n1 c1 n2 c2 n3 c3 n4 c4 n5 c5:Nat) (rs:List RS) (a:Int) (w:World) (e:Ending) (w':World):Prop where
 e:e= .returned (.int .i64 (markN a n1 n2 n3 n4 rs))
 own:RoomAt w' A1 A2 A3 A4 A5 n1 c1 n2 c2 n3 c3 n4 c4 n5 c5 (markR a n1 n2 n3 n4 rs)
 turn:Turn (fun b=>lo≤b∧b<hi) w w'
structure RoomSm (n1 n2 n3 n4:Nat) (rs:List RS):Prop where
 m1:n1≤1048576
 m2:n2≤1048576
 m3:n3≤1048576
 m4:n4≤1048576
 m5:(rs.map RS.n).sum≤1048576
set_option maxHeartbeats 2000000 in
theorem c_markRoom (lo hi:Nat) (A1 A2 A3 A4 A5:Option Addr) (n1 c1 n2 c2 n3 c3 n4 c4 n5 c5:Nat) (r:Room) (a:Int) (w:World) (h:ROwn w lo hi A1 A2 A3 A4 A5 n1 c1 n2 c2 n3 c3 n4 c4 n5 c5 r) (hm:RoomSm n1 n2 n3 n4 r.rs) (ha0:0≤a) (ha1:a≤1000000):
  Calls Tryz.prog 31 #[.agg #[.slice A1 n1 c1,.slice A2 n2 c2,.slice A3 n3 c3,.slice A4 n4 c4,.slice A5 n5 c5],.int .i64 a] w (MarkedRoom lo hi A1 A2 A3 A4 A5 n1 c1 n2 c2 n3 c3 n4 c4 n5 c5 r.rs a w):=by
 obtain ⟨m1,m2,m3,m4,m5⟩:=hm
 have h5:∀b,blkOf A5 n5=some b→¬rsBlk r.rs b:=fun b hb=>h.fr b (by simp [hb])
 have hlt:∀b,some b∈[blkOf A1 n1,blkOf A2 n2,blkOf A3 n3,blkOf A4 n4]→b<w.heap.size:=by
  intro b hb
  simp only [List.mem_cons,List.not_mem_nil,or_false] at hb
  rcases hb with hb | hb | hb | hb
  ·exact h.o1.lt hb.symm
  ·exact h.o2.lt hb.symm
  ·exact h.o3.lt hb.symm
  ·exact h.o4.lt hb.symm
 have HM5:=hide m5
 have HLT:=hide hlt
 clear m5 hlt
 have hin:=RoomIn.new w A1 A2 A3 A4 A5 n1 c1 n2 c2 n3 c3 n4 c4 n5 c5 32
 go_enter Tryz.func31,Tryz.ntmps31
 go_wp2_with fail
 refine (c_markNetwork A1 A2 n1 c1 n2 c2 r.ns r.ps a _ (h.o1.ext (Ext.alloc _ _)) (h.o2.ext (Ext.alloc _ _)) (fun b hb hb'=>h.ff 0 1 b (by decide) (by simp [hb]) (by simp [hb'])) m1 m2 (by omega) (by omega)).mono ?_
 rintro e w1 ⟨rfl,o1,o2,t1⟩
 have hz1:w.heap.size<w1.heap.size:=by have:=t1.size; simp at this; omega
 have hb1:∀j,w1.cell? ⟨w.heap.size,j,none⟩=(w.alloc (.cells #[.slice A1 n1 c1,.slice A2 n2 c2,.slice A3 n3 c3,.slice A4 n4 c4,.slice A5 n5 c5] 32)).cell? ⟨w.heap.size,j,none⟩:=fun j=>t1.cell (by simp) (fun h=>by rcases h with h | h <;> (have:=HLT.out w.heap.size (by rw [h]; simp); omega))
 have o3:=(h.o3.ext (Ext.alloc _ _)).turn t1 (fun b hb hb'=>by
  rcases hb' with hb' | hb'
  ·exact h.ff 0 2 b (by decide) (by simp [hb']) (by simp [hb])
  ·exact h.ff 1 2 b (by decide) (by simp [hb']) (by simp [hb]))
 go_wp2_with fail
 refine (m_markContractS A3 n3 c3 r.xs _ _ o3 (by omega) (by omega) (by omega)).mono ?_
 rintro e w2 ⟨rfl,o3',t2⟩
 have hz2:w.heap.size<w2.heap.size:=by have:=t2.size; omega
 have hb2:∀j,w2.cell? ⟨w.heap.size,j,none⟩=(w.alloc (.cells #[.slice A1 n1 c1,.slice A2 n2 c2,.slice A3 n3 c3,.slice A4 n4 c4,.slice A5 n5 c5] 32)).cell? ⟨w.heap.size,j,none⟩:=fun j=>(t2.cell hz1 (fun h=>by have:=HLT.out w.heap.size (by rw [h]; simp); omega)).trans (hb1 j)
 clear hb1
 have o1a:=o1.turn t2 (fun b hb hb'=>h.ff 0 2 b (by decide) (by simp [hb]) (by simp [hb']))
 have o2a:=o2.turn t2 (fun b hb hb'=>h.ff 1 2 b (by decide) (by simp [hb]) (by simp [hb']))
 have o4:=((h.o4.ext (Ext.alloc _ _)).turn t1 (fun b hb hb'=>by
  rcases hb' with hb' | hb'
  ·exact h.ff 0 3 b (by decide) (by simp [hb']) (by simp [hb])
  ·exact h.ff 1 3 b (by decide) (by simp [hb']) (by simp [hb]))).turn t2 (fun b hb hb'=>h.ff 2 3 b (by decide) (by simp [hb']) (by simp [hb]))
 go_wp2_with fail
 refine (m_markNominationS A4 n4 c4 r.L _ _ o4 (by omega) (by omega) (by omega)).mono ?_
 rintro e w3 ⟨rfl,o4',t3⟩
 have hz3:w.heap.size<w3.heap.size:=by have:=t3.size; omega
 have hb3:∀j,w3.cell? ⟨w.heap.size,j,none⟩=(w.alloc (.cells #[.slice A1 n1 c1,.slice A2 n2 c2,.slice A3 n3 c3,.slice A4 n4 c4,.slice A5 n5 c5] 32)).cell? ⟨w.heap.size,j,none⟩:=fun j=>(t3.cell hz2 (fun h=>by have:=HLT.out w.heap.size (by rw [h]; simp); omega)).trans (hb2 j)
 clear hb2
 have o1b:=o1a.turn t3 (fun b hb hb'=>h.ff 0 3 b (by decide) (by simp [hb]) (by simp [hb']))
 have o2b:=o2a.turn t3 (fun b hb hb'=>h.ff 1 3 b (by decide) (by simp [hb]) (by simp [hb']))
 have o3b:=o3'.turn t3 (fun b hb hb'=>h.ff 2 3 b (by decide) (by simp [hb]) (by simp [hb']))
 have t13:Turn (fun b=>some b∈[blkOf A1 n1,blkOf A2 n2,blkOf A3 n3,blkOf A4 n4]) (w.alloc (.cells #[.slice A1 n1 c1,.slice A2 n2 c2,.slice A3 n3 c3,.slice A4 n4 c4,.slice A5 n5 c5] 32)) w3:=
  (t1.mono (fun b hb=>by rcases hb with hb | hb <;> simp [hb])).trans ((t2.mono (fun b hb=>by simp [hb])).trans (t3.mono (fun b hb=>by simp [hb])))
 have s5:=((h.o5.ext (Ext.alloc _ _)).turn t13 (fun b hb hb'=>by
  simp only [List.mem_cons,List.not_mem_nil,or_false] at hb'
  rcases hb' with hb' | hb' | hb' | hb'
  ·exact h.ff 0 4 b (by decide) (by simp [←hb']) (by simp [hb])
  ·exact h.ff 1 4 b (by decide) (by simp [←hb']) (by simp [hb])
  ·exact h.ff 2 4 b (by decide) (by simp [←hb']) (by simp [hb])
  ·exact h.ff 3 4 b (by decide) (by simp [←hb']) (by simp [hb])))
 have o6:∀q∈r.rs,OwnA w3 84 Reading.cells q.A q.n q.c q.xs:=fun q hq=>((h.o6 q hq).ext (Ext.alloc _ _)).turn t13 (fun b hb hb'=>h.fr b (by
  simp only [List.mem_cons,List.not_mem_nil,or_false] at hb' ⊢
  rcases hb' with hb' | hb' | hb' | hb' <;> simp [hb']) ⟨q,hq,hb⟩)
 clear t1 t2 t3 o1 o2 o3 o1a o2a o3' o4
 go_wp2_with fail
 refine (c_markReadingSS A5 n5 c5 r.rs _ _ (s5.slice rs_len) o6 h.rr h5 HM5.out (by omega) (by omega)).mono ?_
 rintro e w4 ⟨rfl,o6',t4⟩
 clear hb3
 go_wp2_with fail
 go_ret
 have fx:∀(A:Option Addr) (n:Nat),blkOf A n∈[blkOf A1 n1,blkOf A2 n2,blkOf A3 n3,blkOf A4 n4,blkOf A5 n5]→∀b,blkOf A n=some b→¬rsBlk r.rs b:=fun A n hm b hb=>h.fr b (by rw [←hb]; exact hm)
 refine ⟨rfl,⟨(o1b.turn t4 (fx _ _ (by simp))).slice node_len,(o2b.turn t4 (fx _ _ (by simp))).slice pipe_len,(o3b.turn t4 (fx _ _ (by simp))).slice contract_len,(o4'.turn t4 (fx _ _ (by simp))).slice nomination_len,((s5.turn t4 (fx _ _ (by simp))).same (markRS_cells _ r.rs)).slice rs_len,fun q hq=>(o6' q hq).slice reading_len⟩,?_⟩
 refine (Turn.of_ext (Ext.alloc _ _)).trans ((t13.mono fun b hb=>h.rf b ?_).trans (t4.mono fun b hb=>h.rq b hb))
 simp only [List.mem_cons,List.not_mem_nil,or_false] at hb ⊢
 rcases hb with hb | hb | hb | hb <;> simp [hb]
set_option maxHeartbeats 2000000 in
theorem c_heldRoom (A1 A2 A3 A4 A5:Option Addr) (n1 c1 n2 c2 n3 c3 n4 c4 n5 c5:Nat) (rs:List RS) (a:Int) (w:World) (h:RoomAt w A1 A2 A3 A4 A5 n1 c1 n2 c2 n3 c3 n4 c4 n5 c5 (markR a n1 n2 n3 n4 rs)) (hm:RoomSm n1 n2 n3 n4 rs) (ha0:0≤a) (ha1:a≤1000000):
  Calls Tryz.prog 32 #[.agg #[.slice A1 n1 c1,.slice A2 n2 c2,.slice A3 n3 c3,.slice A4 n4 c4,.slice A5 n5 c5],.int .i64 a] w (Ret (.int .i64 (markN a n1 n2 n3 n4 rs)) w):=by
 obtain ⟨m1,m2,m3,m4,m5⟩:=hm
 have HM5:=hide m5
 have hin:=RoomIn.new w A1 A2 A3 A4 A5 n1 c1 n2 c2 n3 c3 n4 c4 n5 c5 32
 go_enter Tryz.func32,Tryz.ntmps32
 go_wp2_with fail
 refine (c_heldNetwork A1 A2 n1 c1 n2 c2 a _ (h.s1.ext (Ext.alloc _ _)) (h.s2.ext (Ext.alloc _ _)) m1 m2 (by omega) (by omega)).mono ?_
 rintro e w1 ⟨rfl,hx1⟩
 obtain ⟨hlt,x0,x1,x2,x3,x4⟩:=hin.ext hx1
 have e1:¬a+3*(n1:Int)+5*(n2:Int)<0:=by omega
 go_wp2_with fail
 refine (c_heldContractS A3 n3 c3 _ _ (h.s3.ext hx1.box) (by omega) (by omega) (by omega)).mono ?_
 rintro e w2 ⟨rfl,rfl⟩
 have e2:¬a+3*(n1:Int)+5*(n2:Int)+8*(n3:Int)<0:=by omega
 go_wp2_with fail
 refine (c_heldNominationS A4 n4 c4 _ _ (h.s4.ext hx1.box) (by omega) (by omega) (by omega)).mono ?_
 rintro e w2 ⟨rfl,rfl⟩
 have e3:¬a+3*(n1:Int)+5*(n2:Int)+8*(n3:Int)+4*(n4:Int)<0:=by omega
 go_wp2_with fail
 refine (c_heldReadingSS A5 n5 c5 rs _ _ (h.s5.ext hx1.box) (fun q hq=>(h.s6 q hq).ext hx1.box) HM5.out (by omega) (by omega)).mono ?_
 rintro e w2 ⟨rfl,hx2⟩
 have e4:¬a+3*(n1:Int)+5*(n2:Int)+8*(n3:Int)+4*(n4:Int)+2*((rs.map RS.n).sum:Nat)<0:=by omega
 go_wp2_with fail
 go_ret
 exact ⟨rfl,hx1.box.trans hx2⟩
end Go.Proofs.YtinindjjapblcaaGreatDoor
namespace Go.Proofs.YtinindjjapblcaaGreatDoor
open Go.RowKit
theorem sepP {x1 x2 x3 x4 x5:Option Nat} (h12:∀b,x1=some b→x2≠some b) (h13:∀b,x1=some b→x3≠some b) (h14:∀b,x1=some b→x4≠some b) (h15:∀b,x1=some b→x5≠some b)
  (h23:∀b,x2=some b→x3≠some b) (h24:∀b,x2=some b→x4≠some b) (h25:∀b,x2=some b→x5≠some b) (h34:∀b,x3=some b→x4≠some b) (h35:∀b,x3=some b→x5≠some b) (h45:∀b,x4=some b→x5≠some b):SepL [x1,x2,x3,x4,x5]:=by
 intro i j b hij hi hj
 have key:∀i,[x1,x2,x3,x4,x5][i]? =some (some b)→(i=0∧x1=some b)∨(i=1∧x2=some b)∨(i=2∧x3=some b)∨(i=3∧x4=some b)∨(i=4∧x5=some b):=by
  intro i hi
  match i with
  | 0=>simp at hi; exact .inl ⟨rfl,hi⟩
  | 1=>simp at hi; exact .inr (.inl ⟨rfl,hi⟩)
  | 2=>simp at hi; exact .inr (.inr (.inl ⟨rfl,hi⟩))
  | 3=>simp at hi; exact .inr (.inr (.inr (.inl ⟨rfl,hi⟩)))
  | 4=>simp at hi; exact .inr (.inr (.inr (.inr ⟨rfl,hi⟩)))
  | i+5=>simp at hi
 rcases key i hi with ⟨rfl,h⟩ | ⟨rfl,h⟩ | ⟨rfl,h⟩ | ⟨rfl,h⟩ | ⟨rfl,h⟩ <;> rcases key j hj with ⟨rfl,h'⟩ | ⟨rfl,h'⟩ | ⟨rfl,h'⟩ | ⟨rfl,h'⟩ | ⟨rfl,h'⟩ <;>
  first
  | exact hij rfl
  | exact h12 b h h'
  | exact h13 b h h'
  | exact h14 b h h'
  | exact h15 b h h'
  | exact h23 b h h'
  | exact h24 b h h'
  | exact h25 b h h'
  | exact h34 b h h'
  | exact h35 b h h'
  | exact h45 b h h'
  | exact h12 b h' h
  | exact h13 b h' h
  | exact h14 b h' h
  | exact h15 b h' h
  | exact h23 b h' h
  | exact h24 b h' h
  | exact h25 b h' h
  | exact h34 b h' h
  | exact h35 b h' h
  | exact h45 b h' h
theorem Row.new' {W:World} {g:Nat} {t:TypeId} {cs:List Value} (hg:g=W.heap.size):Row (W.alloc (.cells cs.toArray t)) g t cs:=by subst hg; exact Row.new W t cs
theorem blk_zero (A:Option Addr) (b:Nat):blkOf A 0≠some b:=by simp [blkOf]
def newR (ns:List Node) (ps:List Pipe) (xs:List Contract):Room:=⟨ns,ps,xs,[],[⟨none,0,0,[]⟩]⟩
def RetRoom (R:Room) (w:World) (e:Ending) (w':World):Prop:=
 ∃(A1 A2 A3 A4 A5:Option Addr) (n1 c1 n2 c2 n3 c3 n4 c4 n5 c5:Nat) (r':Room),e= .returned (.agg #[.slice A1 n1 c1,.slice A2 n2 c2,.slice A3 n3 c3,.slice A4 n4 c4,.slice A5 n5 c5])∧ROwn w' w.heap.size w'.heap.size A1 A2 A3 A4 A5 n1 c1 n2 c2 n3 c3 n4 c4 n5 c5 r'∧r'.Like R∧Ext w w'
theorem OwnA.set5 {α:Type} {w:World} {t:TypeId} {f:α→List Value} {A:Option Addr} {n c:Nat} {xs:List α} (h:OwnA w t f A n c xs) {g:Nat} (hg:∀b,blkOf A n=some b→b≠g) (u0 u1 u2 u3 u4:Value):
  OwnA (((((w.setCell ⟨g,0,none⟩ u0).setCell ⟨g,1,none⟩ u1).setCell ⟨g,2,none⟩ u2).setCell ⟨g,3,none⟩ u3).setCell ⟨g,4,none⟩ u4) t f A n c xs:=
 ((((h.far (p:=⟨g,0,none⟩) hg u0).far (p:=⟨g,1,none⟩) hg u1).far (p:=⟨g,2,none⟩) hg u2).far (p:=⟨g,3,none⟩) hg u3).far (p:=⟨g,4,none⟩) hg u4
set_option maxHeartbeats 2000000 in
theorem c_newRoom (A1 A2:Option Addr) (n1 c1 n2 c2:Nat) (ns:List Node) (ps:List Pipe) (A:Option Addr) (n c:Nat) (xs:List Contract) (w:World) (h1:SliceOf w 3 Node.cells A1 n1 c1 ns) (h2:SliceOf w 5 Pipe.cells A2 n2 c2 ps) (hs:SliceOf w 8 Contract.cells A n c xs)
  (m1:n1≤1048576) (m2:n2≤1048576) (m3:n≤1048576):
  Calls Tryz.prog 39 #[.agg #[.slice A1 n1 c1,.slice A2 n2 c2],.slice A n c] w (RetRoom (newR ns ps xs) w):=by
 have x0:Ext w ((w.alloc (.cells #[.slice A1 n1 c1,.slice A2 n2 c2] 27)).alloc (.cells #[.slice none 0 0,.slice none 0 0,.slice none 0 0,.slice none 0 0,.slice none 0 0] 32)):=(Ext.alloc _ _).and_alloc _
 go_enter Tryz.func39,Tryz.ntmps39
 go_wp2_with fail
 refine (c_cloneNetwork A1 A2 n1 c1 n2 c2 ns ps _ (h1.ext x0) (h2.ext x0) m1 m2).mono ?_
 rintro e w1 ⟨B1,k1,d1,B2,k2,d2,rfl,o1,o2,b1,b2,b12,hx1⟩
 have hz1:=hx1.size
 simp at hz1
 go_wp2_with fail
 refine (c_cloneContract A n c xs _ (hs.ext (x0.trans hx1)) m3).mono ?_
 rintro e w2 ⟨B3,k3,d3,rfl,o3,b3,hx2⟩
 have hz2:=hx2.size
 have hx02:=hx1.trans hx2
 have hcl:=hx02.cell
 have hfr:=hx02.frozen
 have hz3:w.heap.size+1<w2.heap.size:=by omega
 go_wp2
 have f1:∀b,blkOf B1 k1=some b→b≠w.heap.size+1:=fun b hb=>by have:=b1 b hb; simp at this; omega
 have f2:∀b,blkOf B2 k2=some b→b≠w.heap.size+1:=fun b hb=>by have:=b2 b hb; simp at this; omega
 have f3:∀b,blkOf B3 k3=some b→b≠w.heap.size+1:=fun b hb=>by have:=b3 b hb; omega
 have g5:∀b,blkOf (some ⟨w2.heap.size,0,none⟩) 1=some b→b=w2.heap.size:=fun b hb=>by simp [blkOf] at hb; exact hb.symm
 refine bodyPost_ret (v:= .agg #[.slice B1 k1 d1,.slice B2 k2 d2,.slice B3 k3 d3,.slice none 0 0,.slice (some ⟨w2.heap.size,0,none⟩) 1 1]) (by simp [results,Tryz.results39,go_sem,hcl,hz3]) rfl
  ⟨B1,B2,B3,none,some ⟨w2.heap.size,0,none⟩,k1,d1,k2,d2,k3,d3,0,0,1,1,newR ns ps xs,rfl,⟨?_,?_,?_,?_,?_,?_,?_,?_,?_,?_,?_⟩,⟨rfl,rfl,rfl,rfl,rfl⟩,?_⟩
 ·exact ((o1.ext hx2).set5 f1 _ _ _ _ _).ext (Ext.alloc _ _)
 ·exact ((o2.ext hx2).set5 f2 _ _ _ _ _).ext (Ext.alloc _ _)
 ·exact (o3.set5 f3 _ _ _ _ _).ext (Ext.alloc _ _)
 ·exact ⟨rfl,by omega,by omega,fun h=>absurd h (by omega)⟩
 ·exact ⟨rfl,by omega,by omega,fun _=>⟨w2.heap.size,rfl,[],Row.new' (by simp)⟩⟩
 ·intro q hq
  simp [newR] at hq
  subst hq
  exact ⟨rfl,by simp,by simp,fun h=>absurd h (by simp)⟩
 ·refine sepP b12 (fun b h h'=> ?_) (fun b _ h'=>blk_zero _ _ h') (fun b h h'=> ?_) (fun b h h'=> ?_) (fun b _ h'=>blk_zero _ _ h') (fun b h h'=> ?_) (fun b _ h'=>blk_zero _ _ h') (fun b h h'=> ?_) (fun b h _=>blk_zero _ _ h)
  ·have:=o1.lt h; have:=b3 b h'; omega
  ·have:=o1.lt h; have:=g5 b h'; omega
  ·have:=o2.lt h; have:=b3 b h'; omega
  ·have:=o2.lt h; have:=g5 b h'; omega
  ·have:=o3.lt h; have:=g5 b h'; omega
 ·intro i j b hij hi hj
  simp [newR,blkOf,List.getElem?_singleton] at hi
 ·rintro b _ ⟨q,hq,hb⟩
  simp [newR] at hq
  subst hq
  exact blk_zero _ _ hb
 ·intro b hb
  simp only [List.mem_cons,List.not_mem_nil,or_false] at hb
  simp
  rcases hb with hb | hb | hb | hb | hb
  ·have:=o1.lt hb.symm; have:=b1 b hb.symm; simp at this; omega
  ·have:=o2.lt hb.symm; have:=b2 b hb.symm; simp at this; omega
  ·have:=o3.lt hb.symm; have:=b3 b hb.symm; omega
  ·exact absurd hb.symm (blk_zero _ _)
  ·have:=g5 b hb.symm; omega
 ·rintro b ⟨q,hq,hb⟩
  simp [newR] at hq
  subst hq
  exact absurd hb (blk_zero _ _)
 ·refine Ext.and_alloc ?_ _
  repeat (refine Ext.setCell ?_ (by first | (simp; done) | (simp; omega) | omega) _)
  exact x0.trans hx02
end Go.Proofs.YtinindjjapblcaaGreatDoor
namespace Go.Proofs.YtinindjjapblcaaGreatDoor
open Go.RowKit
theorem SliceOf.far {α:Type} {w:World} {size:Nat} {f:α→List Value} {A:Option Addr} {n c:Nat} {xs:List α} (h:SliceOf w size f A n c xs) {p:Addr} (hp:∀b,blkOf A n=some b→b≠p.block) (u:Value):SliceOf (w.setCell p u) size f A n c xs:=by
 refine h.turn (S:=fun b=>b=p.block) ⟨rfl,rfl,rfl,by simp,fun k _ hk=>Below.heap_setCell w p u k hk⟩ hp
theorem SliceOf.set5 {α:Type} {w:World} {size:Nat} {f:α→List Value} {A:Option Addr} {n c:Nat} {xs:List α} (h:SliceOf w size f A n c xs) {g:Nat} (hg:∀b,blkOf A n=some b→b≠g) (u0 u1 u2 u3 u4:Value):
  SliceOf (((((w.setCell ⟨g,0,none⟩ u0).setCell ⟨g,1,none⟩ u1).setCell ⟨g,2,none⟩ u2).setCell ⟨g,3,none⟩ u3).setCell ⟨g,4,none⟩ u4) size f A n c xs:=
 ((((h.far (p:=⟨g,0,none⟩) hg u0).far (p:=⟨g,1,none⟩) hg u1).far (p:=⟨g,2,none⟩) hg u2).far (p:=⟨g,3,none⟩) hg u3).far (p:=⟨g,4,none⟩) hg u4
def RBlk (A1 A2 A3 A4 A5:Option Addr) (n1 n2 n3 n4 n5:Nat) (r:Room) (b:Nat):Prop:=some b∈[blkOf A1 n1,blkOf A2 n2,blkOf A3 n3,blkOf A4 n4,blkOf A5 n5]∨rsBlk r.rs b
theorem RoomAt.turnB {S:Nat→Prop} {w w':World} {A1 A2 A3 A4 A5:Option Addr} {n1 c1 n2 c2 n3 c3 n4 c4 n5 c5:Nat} {r:Room} (h:RoomAt w A1 A2 A3 A4 A5 n1 c1 n2 c2 n3 c3 n4 c4 n5 c5 r) (k:Turn S w w') (hs:∀b,RBlk A1 A2 A3 A4 A5 n1 n2 n3 n4 n5 r b→¬S b):RoomAt w' A1 A2 A3 A4 A5 n1 c1 n2 c2 n3 c3 n4 c4 n5 c5 r:=
 ⟨h.s1.turn k (fun b hb=>hs b (.inl (by simp [hb]))),h.s2.turn k (fun b hb=>hs b (.inl (by simp [hb]))),h.s3.turn k (fun b hb=>hs b (.inl (by simp [hb]))),
  h.s4.turn k (fun b hb=>hs b (.inl (by simp [hb]))),h.s5.turn k (fun b hb=>hs b (.inl (by simp [hb]))),fun q hq=>(h.s6 q hq).turn k (fun b hb=>hs b (.inr ⟨q,hq,hb⟩))⟩
theorem turn_set (w:World) (p:Addr) (u:Value):Turn (fun b=>b=p.block) w (w.setCell p u):=⟨rfl,rfl,rfl,by simp,fun k _ hk=>Below.heap_setCell w p u k hk⟩
theorem RoomAt.set5 {w:World} {A1 A2 A3 A4 A5:Option Addr} {n1 c1 n2 c2 n3 c3 n4 c4 n5 c5:Nat} {r:Room} (h:RoomAt w A1 A2 A3 A4 A5 n1 c1 n2 c2 n3 c3 n4 c4 n5 c5 r) {g:Nat} (hg:∀b,RBlk A1 A2 A3 A4 A5 n1 n2 n3 n4 n5 r b→b≠g) (u0 u1 u2 u3 u4:Value):
  RoomAt (((((w.setCell ⟨g,0,none⟩ u0).setCell ⟨g,1,none⟩ u1).setCell ⟨g,2,none⟩ u2).setCell ⟨g,3,none⟩ u3).setCell ⟨g,4,none⟩ u4) A1 A2 A3 A4 A5 n1 c1 n2 c2 n3 c3 n4 c4 n5 c5 r:=
 ((((h.turnB (turn_set _ ⟨g,0,none⟩ u0) hg).turnB (turn_set _ ⟨g,1,none⟩ u1) hg).turnB (turn_set _ ⟨g,2,none⟩ u2) hg).turnB (turn_set _ ⟨g,3,none⟩ u3) hg).turnB (turn_set _ ⟨g,4,none⟩ u4) hg
def RoomNw (R:Room) (w:World) (e:Ending) (w':World):Prop:=∃(A1 A2 A3 A4 A5:Option Addr) (n1 c1 n2 c2 n3 c3 n4 c4 n5 c5:Nat) (r':Room),e= .returned (.agg #[.slice A1 n1 c1,.slice A2 n2 c2,.slice A3 n3 c3,.slice A4 n4 c4,.slice A5 n5 c5])∧RoomAt w' A1 A2 A3 A4 A5 n1 c1 n2 c2 n3 c3 n4 c4 n5 c5 r'∧r'.Like R∧(∀b,RBlk A1 A2 A3 A4 A5 n1 n2 n3 n4 n5 r' b→w.heap.size≤b)∧Ext w w'
set_option maxHeartbeats 4000000 in
theorem c_l33New (A1 A2:Option Addr) (n1 c1 n2 c2:Nat) (ns:List Node) (ps:List Pipe) (A:Option Addr) (n c:Nat) (xs:List Contract) (w:World) (h1:SliceOf w 3 Node.cells A1 n1 c1 ns) (h2:SliceOf w 5 Pipe.cells A2 n2 c2 ps) (hs:SliceOf w 8 Contract.cells A n c xs) (m1:n1≤1048576) (m2:n2≤1048576) (m3:n≤1048576):
  Calls Tryz.prog 45 #[.agg #[.slice A1 n1 c1,.slice A2 n2 c2],.slice A n c] w (RoomNw (newR ns ps xs) w):=by
 have x0:Ext w ((w.alloc (.cells #[.slice A1 n1 c1,.slice A2 n2 c2] 27)).alloc (.cells #[.slice none 0 0,.slice none 0 0,.slice none 0 0,.slice none 0 0,.slice none 0 0] 32)):=(Ext.alloc _ _).and_alloc _
 go_enter Tryz.func45,Tryz.ntmps45
 go_wp2_with fail
 refine (c_l02Own A1 A2 n1 c1 n2 c2 ns ps _ (h1.ext x0) (h2.ext x0) m1 m2).mono ?_
 rintro e w1 ⟨B1,k1,d1,B2,k2,d2,rfl,o1,o2,b1,b2,hx1⟩
 have hz1:=hx1.size
 simp at hz1
 go_wp2_with (at_builtin; go_must (refine wpList_append_grow rfl _ _ 28 rfl (w1.heap.size) 98 _ 8 64 Tryz.underlying28 contract_info rfl (by decide) Contract.cells contract_len contract_one _ [] rfl (own_new w1 _ _ _ _ _ rfl (Nat.le_refl _)) A n c xs rfl (hs.ext ((x0.trans hx1).and_alloc _)) (by first | omega | (simp; omega)) (by omega) (by first | exact Nat.le_refl _ | omega | (simp; done) | (simp; omega)) ?_))
 intro v3 w3 o3 g3
 have hX3:=wp_ext_only (Ext.alloc w1 _) g3 (Nat.le_refl _)
 obtain ⟨B3,d3,rfl,p3,q3⟩:=o3.toA contract_len (by omega)
 have hx03:=hx1.trans hX3
 have hcl:=hx03.cell
 have hfr:=hx03.frozen
 have hz3:w.heap.size+1<w3.heap.size:=by have:=hX3.size; omega
 have hz4:w.heap.size<w3.heap.size:=by omega
 go_wp2
 have f1:∀b,blkOf B1 k1=some b→b≠w.heap.size+1:=fun b hb=>by have:=b1 b hb; simp at this; omega
 have f2:∀b,blkOf B2 k2=some b→b≠w.heap.size+1:=fun b hb=>by have:=b2 b hb; simp at this; omega
 have f3:∀b,blkOf B3 xs.length=some b→b≠w.heap.size+1:=fun b hb=>by have:=q3 b hb; omega
 refine bodyPost_ret (v:= .agg #[.slice B1 k1 d1,.slice B2 k2 d2,.slice B3 xs.length d3,.slice none 0 0,.slice (some ⟨w3.heap.size+1,0,none⟩) 1 1]) (by simp [results,Tryz.results45,go_sem,hcl,hz3,hz4]) rfl
  ⟨B1,B2,B3,none,some ⟨w3.heap.size+1,0,none⟩,k1,d1,k2,d2,_,d3,0,0,1,1,⟨ns,ps,xs,[],[⟨some ⟨w3.heap.size,0,none⟩,0,0,[]⟩]⟩,rfl,⟨?_,?_,?_,?_,?_,?_⟩,⟨rfl,rfl,rfl,rfl,rfl⟩,?_,?_⟩
 ·exact ((o1.ext hX3).set5 f1 _ _ _ _ _).ext ((Ext.alloc _ _).and_alloc _)
 ·exact ((o2.ext hX3).set5 f2 _ _ _ _ _).ext ((Ext.alloc _ _).and_alloc _)
 ·exact ((p3.slice contract_len).set5 f3 _ _ _ _ _).ext ((Ext.alloc _ _).and_alloc _)
 ·exact ⟨rfl,by omega,by simp [maxLen],fun h=>absurd h (by omega)⟩
 ·refine OwnA.slice (t:=81) ⟨rfl,by omega,by omega,fun _=>⟨w3.heap.size+1,rfl,[],Row.new' (by simp)⟩⟩ rs_len
 ·intro q hq
  simp at hq
  subst hq
  exact ⟨rfl,Nat.le_refl _,by simp [maxLen],fun h=>absurd h (Nat.lt_irrefl 0)⟩
 ·rintro b (hb | ⟨q,hq,hb⟩)
  ·simp only [List.mem_cons,List.not_mem_nil,or_false] at hb
   rcases hb with hb | hb | hb | hb | hb
   ·have:=b1 b hb.symm; simp at this; omega
   ·have:=b2 b hb.symm; simp at this; omega
   ·have:=q3 b hb.symm; omega
   ·exact absurd hb.symm (blk_zero _ _)
   ·simp [blkOf] at hb; omega
  ·simp at hq
   subst hq
   exact absurd hb (blk_zero _ _)
 ·refine Ext.and_alloc (Ext.and_alloc ?_ _) _
  repeat (refine Ext.setCell ?_ (by first | (simp; done) | (simp; omega) | omega) _)
  exact x0.trans hx03
def zeroR:Room:=⟨[],[],[],[],[]⟩
def newRR (n1:Int) (ns:List Node) (ps:List Pipe) (xs:List Contract):Room×Int:=if (netB ns ps&&bookB n1 xs)=true then (newR ns ps xs,0) else (zeroR,1)
def RetRC (R:Room×Int) (w:World) (e:Ending) (w':World):Prop:=
 ∃(A1 A2 A3 A4 A5:Option Addr) (n1 c1 n2 c2 n3 c3 n4 c4 n5 c5:Nat) (r':Room),e= .returned (.tuple #[.agg #[.slice A1 n1 c1,.slice A2 n2 c2,.slice A3 n3 c3,.slice A4 n4 c4,.slice A5 n5 c5],.int .i64 R.2])∧ROwn w' w.heap.size w'.heap.size A1 A2 A3 A4 A5 n1 c1 n2 c2 n3 c3 n4 c4 n5 c5 r'∧r'.Like R.1∧Ext w w'
theorem zero_own (w:World) (lo hi:Nat):ROwn w lo hi none none none none none 0 0 0 0 0 0 0 0 0 0 zeroR:=by
 have z:∀ {α:Type} (t:TypeId) (f:α→List Value),OwnA w t f none 0 0 []:=fun t f=>⟨rfl,by omega,by omega,fun h=>absurd h (by omega)⟩
 refine ⟨z _ _,z _ _,z _ _,z _ _,z _ _,fun q hq=>by simp [zeroR] at hq,?_,?_,?_,?_,?_⟩
 ·exact sepP (fun b h _=>blk_zero _ _ h) (fun b h _=>blk_zero _ _ h) (fun b h _=>blk_zero _ _ h) (fun b h _=>blk_zero _ _ h) (fun b h _=>blk_zero _ _ h) (fun b h _=>blk_zero _ _ h) (fun b h _=>blk_zero _ _ h) (fun b h _=>blk_zero _ _ h) (fun b h _=>blk_zero _ _ h) (fun b h _=>blk_zero _ _ h)
 ·intro i j b _ hi
  simp [zeroR] at hi
 ·rintro b _ ⟨q,hq,_⟩
  simp [zeroR] at hq
 ·intro b hb
  simp [blkOf] at hb
 ·rintro b ⟨q,hq,_⟩
  simp [zeroR] at hq
theorem ROwn.set5 {w:World} {lo hi:Nat} {A1 A2 A3 A4 A5:Option Addr} {n1 c1 n2 c2 n3 c3 n4 c4 n5 c5:Nat} {r:Room} (h:ROwn w lo hi A1 A2 A3 A4 A5 n1 c1 n2 c2 n3 c3 n4 c4 n5 c5 r) {g:Nat} (hg:g<lo∨hi≤g) (u0 u1 u2 u3 u4:Value):
  ROwn (((((w.setCell ⟨g,0,none⟩ u0).setCell ⟨g,1,none⟩ u1).setCell ⟨g,2,none⟩ u2).setCell ⟨g,3,none⟩ u3).setCell ⟨g,4,none⟩ u4) lo hi A1 A2 A3 A4 A5 n1 c1 n2 c2 n3 c3 n4 c4 n5 c5 r:=by
 have one:∀ {w:World} (p:Addr) (u:Value),p.block=g→ROwn w lo hi A1 A2 A3 A4 A5 n1 c1 n2 c2 n3 c3 n4 c4 n5 c5 r→ROwn (w.setCell p u) lo hi A1 A2 A3 A4 A5 n1 c1 n2 c2 n3 c3 n4 c4 n5 c5 r:=fun {w} p u hp h=>h.turn (S:=fun b=>b=p.block) ⟨rfl,rfl,rfl,by simp,fun k _ hk=>Below.heap_setCell w p u k hk⟩ (fun b hb=>by omega)
 exact one _ _ rfl (one _ _ rfl (one _ _ rfl (one _ _ rfl (one _ _ rfl h))))
theorem ROwn.wider {w:World} {lo hi lo' hi':Nat} {A1 A2 A3 A4 A5:Option Addr} {n1 c1 n2 c2 n3 c3 n4 c4 n5 c5:Nat} {r:Room} (h:ROwn w lo hi A1 A2 A3 A4 A5 n1 c1 n2 c2 n3 c3 n4 c4 n5 c5 r) (h1:lo'≤lo) (h2:hi≤hi'):ROwn w lo' hi' A1 A2 A3 A4 A5 n1 c1 n2 c2 n3 c3 n4 c4 n5 c5 r:=
 ⟨h.o1,h.o2,h.o3,h.o4,h.o5,h.o6,h.ff,h.rr,h.fr,fun b hb=>by have:=h.rf b hb; omega,fun b hb=>by have:=h.rq b hb; omega⟩
end Go.Proofs.YtinindjjapblcaaGreatDoor
namespace Go.Proofs.YtinindjjapblcaaGreatDoor
open Go.RowKit
theorem newRR_no {n1:Int} {ns:List Node} {ps:List Pipe} {xs:List Contract} (h:(netB ns ps&&bookB n1 xs)=false):newRR n1 ns ps xs=(zeroR,1):=by unfold newRR; rw [h]; rfl
theorem newRR_yes {n1:Int} {ns:List Node} {ps:List Pipe} {xs:List Contract} (h:(netB ns ps&&bookB n1 xs)=true):newRR n1 ns ps xs=(newR ns ps xs,0):=by unfold newRR; rw [if_pos h]
end Go.Proofs.YtinindjjapblcaaGreatDoor
namespace Go.Proofs.YtinindjjapblcaaGreatDoor
open Go.RowKit
def RetS {α:Type} (t:TypeId) (f:α→List Value) (r:List α×Int) (w:World) (e:Ending) (w':World):Prop:=
 ∃A n c g,e= .returned (.tuple #[.slice A n c,.int .i64 r.2])∧n≤c∧c≤9223372036854775807∧w.heap.size≤g∧OwnS w' g t f A n r.1∧Ext w w'
theorem RetS.nil_ {α:Type} {t:TypeId} {f:α→List Value} {r:List α×Int} {k:Int} {w w':World} (h:r=([],k)) (hx:Ext w w'):RetS t f r w (.returned (.tuple #[.slice none 0 0,.int .i64 k])) w':=by
 subst h
 exact ⟨none,0,0,w.heap.size,rfl,Nat.le_refl _,by omega,Nat.le_refl _,OwnS.nil,hx⟩
theorem RetS.row {α:Type} {t:TypeId} {f:α→List Value} {r:List α×Int} {xs:List α} {k:Int} {w w':World} {g n:Nat} (h:r=(xs,k)) (hn:n=xs.length) (hm:n≤9223372036854775807) (hg:w.heap.size≤g) (hr:RowOf w' g t f xs) (hx:Ext w w'):
  RetS t f r w (.returned (.tuple #[.slice (some ⟨g,0,none⟩) n n,.int .i64 k])) w':=by
 subst h
 subst hn
 exact ⟨_,_,_,g,rfl,Nat.le_refl _,hm,hg,OwnS.of_row hr,hx⟩
end Go.Proofs.YtinindjjapblcaaGreatDoor
namespace Go.Proofs.YtinindjjapblcaaGreatDoor
open Go.RowKit
def nomEv (x:Nomination):Event:=⟨1,x.contract,x.hour,x.sent,x.amount⟩
def readEv (x:Reading):Event:=⟨2,x.node,x.amount,0,0⟩
def closeEv (k:Nat):Event:=⟨3,k,0,0,0⟩
def hourEv (m k:Nat) (xs:List Reading):List Event:=xs.map readEv++if k+1<m then [closeEv k] else []
def hoursEv (m:Nat):Nat→List (List Reading)→List Event
 | _,[]=>[]
 | k,xs::rest=>hourEv m k xs++hoursEv m (k+1) rest
theorem hoursEv_snoc (m k:Nat) (l:List (List Reading)) (xs:List Reading):hoursEv m k (l++[xs])=hoursEv m k l++hourEv m (k+l.length) xs:=by
 induction l generalizing k with
 | nil=>simp [hoursEv]
 | cons y l ih=>
  simp only [List.cons_append,hoursEv,ih,List.length_cons,List.append_assoc]
  rw [show k+1+l.length=k+(l.length+1) by omega]
def roomEv (r:Room):List Event:=r.L.map nomEv++hoursEv r.rs.length 0 (r.rs.map RS.xs)
def evR (r:Room):List Event×Int:=if 300<(roomEv r).length then ([],3) else (roomEv r,0)
theorem take_one {α:Type} {l:List α} {k:Nat} {x:α} (h:l[k]? =some x):l.take (k+1)=l.take k++[x]:=by
 rw [List.take_add_one,h]; rfl
theorem ev_step {m:Nat} {rs:List RS} {k:Nat} {q:RS} (h:rs[k]? =some q):hoursEv m 0 ((rs.take (k+1)).map RS.xs)=hoursEv m 0 ((rs.take k).map RS.xs)++hourEv m k q.xs:=by
 rw [take_one h,List.map_append,List.map_singleton,hoursEv_snoc]
 have:((rs.take k).map RS.xs).length=k:=by rw [List.length_map,List.length_take]; have:=(List.getElem?_eq_some_iff.1 h).1; omega
 rw [this,Nat.zero_add]
theorem event_one (y:Event):∀u∈y.cells,u.oneCell'=true:=by intro u hu; simp [Event.cells] at hu; rcases hu with rfl | rfl | rfl | rfl | rfl <;> rfl
structure RoomFits (r:Room):Prop where
 L:r.L.length≤200
 rs:r.rs.length≤48
 xs:∀q∈r.rs,q.xs.length≤48
theorem roomFits {n1:Int} {r:Room} (h:roomB n1 r=true):RoomFits r:=by
 simp only [roomB,Bool.and_eq_true,nomsOk,nomsB,decide_eq_true_eq,inB_true,List.all_eq_true] at h
 obtain ⟨⟨⟨_,h1,_⟩,h2⟩,h3⟩:=h
 refine ⟨h1,by omega,fun q hq=> ?_⟩
 have:=h3 q hq
 simp only [readsB,Bool.and_eq_true,decide_eq_true_eq] at this
 exact this.1
set_option maxHeartbeats 4000000 in
theorem c_roomEvents (A1 A2 A3 A4 A5:Option Addr) (n1 c1 n2 c2 n3 c3 n4 c4 n5 c5:Nat) (r:Room) (w:World) (hat:RoomAt w A1 A2 A3 A4 A5 n1 c1 n2 c2 n3 c3 n4 c4 n5 c5 r) (hf:RoomFits r):
  Calls Tryz.prog 36 #[.agg #[.slice A1 n1 c1,.slice A2 n2 c2,.slice A3 n3 c3,.slice A4 n4 c4,.slice A5 n5 c5]] w (RetS 54 Event.cells (evR r) w):=by
 obtain ⟨W0,HW⟩:∃W0,Hid (W0=w.alloc (.cells #[.slice A1 n1 c1,.slice A2 n2 c2,.slice A3 n3 c3,.slice A4 n4 c4,.slice A5 n5 c5] 32)):=⟨_,hide rfl⟩
 have hin:RoomIn W0 w.heap.size A1 A2 A3 A4 A5 n1 c1 n2 c2 n3 c3 n4 c4 n5 c5:=by rw [HW.out]; exact RoomIn.new w A1 A2 A3 A4 A5 n1 c1 n2 c2 n3 c3 n4 c4 n5 c5 32
 have hw0:Ext w W0:=by rw [HW.out]; exact Ext.alloc _ _
 have hm4:=hat.s4.max
 have hc4:=hat.s4.cap
 have hm5:=hat.s5.max
 have hc5:=hat.s5.cap
 have h200:n4≤200:=by rw [hat.s4.len]; exact hf.L
 have h48:n5≤48:=by rw [hat.s5.len]; exact hf.rs
 have HL5:=hide hat.s5.len
 have HL4:=hide hat.s4.len
 have hsz0:W0.heap.size=w.heap.size+1:=by rw [HW.out]; simp
 have HSZ:=hide hsz0
 clear hsz0
 go_enter Tryz.func36,Tryz.ntmps36
 go_wp2_with fail
 go_loopw [4,14] (fun v i wr=>∃(k:Nat) (E:List Event),k≤n4∧i= .int .i64 k∧E.length≤k∧Hid (E=(r.L.take k).map nomEv)∧OwnL wr (w.heap.size+1) 54 5 Event.cells v E∧Ext W0 wr) (fun _ i _=>n4-(intOf i).toNat)
 case atStart=>exact ⟨0,[],Nat.zero_le _,rfl,by simp,hide rfl,OwnL.nil_ _ _ _ _ _,by rw [HW.out]; exact Ext.refl _⟩
 case round=>
  obtain ⟨k,E,hk,rfl,hE,HE,hown,hx⟩:=hrel
  have hxz:=hx.size
  rw [HSZ.out] at hxz
  by_cases hlt:k<n4
  ·obtain ⟨b,off,p,rfl,hb,hxk,hc⟩:=(hat.s4.ext (hw0.trans hx)).get hlt
   have HX:=hide hxk
   clear hxk
   have hc0:=hc 0 _ rfl
   have hc1:=hc 1 _ rfl
   have hc2:=hc 2 _ rfl
   have hc3:=hc 3 _ rfl
   clear hc
   simp only [Nat.add_zero] at hc0
   go_wp2_with (at_builtin; go_must (refine wpList_append_one rfl _ _ 34 rfl (w.heap.size+1) 54 _ 5 40 Tryz.underlying34 event_info rfl (by decide) Event.cells event_len event_one _ _ rfl (hown.ext ((Ext.alloc _ _).and_alloc _)) _ (nomEv p) rfl _ rfl (by first | rfl | simp) (by omega) (by omega) (by first | omega | (simp; omega)) ?_))
   intro v1 w4 hown4 hext4
   have hx4:=hext4 _ (by rw [HSZ.out]; exact Nat.le_refl _) ((hx.and_alloc _).and_alloc _)
   go_wp2_with fail
   go_roundw
   case rel=>exact ⟨k+1,_,by omega,by go_num,by simp; omega,hide (by rw [take_one HX.out,List.map_append,HE.out]; rfl),hown4,hx4⟩
   case measure=>simp [intOf]; omega
  ·obtain rfl:n4=k:=by omega
   have HE0:=hide (show E=r.L.map nomEv by rw [HE.out,HL4.out,List.take_length])
   clear HE
   obtain ⟨hlt0,x0,x1,x2,x3,x4⟩:=hin.ext hx
   go_wp2_with fail
   clear hlt0 x0 x1 x2 x3 x4
   go_loopw [4,34] (fun v i wr=>∃(k:Nat) (E:List Event),k≤n5∧i= .int .i64 k∧E.length≤200+49*k∧Hid (E=r.L.map nomEv++hoursEv r.rs.length 0 ((r.rs.take k).map RS.xs))∧OwnL wr (w.heap.size+1) 54 5 Event.cells v E∧Ext W0 wr) (fun _ i _=>n5-(intOf i).toNat)
   case atStart=>exact ⟨0,E,Nat.zero_le _,rfl,by omega,hide (by rw [HE0.out]; simp [hoursEv]),hown,hx⟩
   case round=>
    clear hown hx hxz HE0 hE
    obtain ⟨k,E,hk,rfl,hE,HE,hown,hx⟩:=hrel
    have hxz:=hx.size
    rw [HSZ.out] at hxz
    obtain ⟨hlt0,x0,x1,x2,x3,x4⟩:=hin.ext hx
    by_cases hlt:k<n5
    ·obtain ⟨b,off,q,rfl,hb,hxk,hc⟩:=(hat.s5.ext (hw0.trans hx)).get hlt
     have t0:=hc 0 _ rfl
     simp only [Nat.add_zero,Nat.mul_one] at t0
     obtain ⟨qA,qn,qc,qx⟩:=q
     simp only at t0
     have hq:SliceOf w 2 Reading.cells qA qn qc qx:=hat.s6 _ (List.mem_of_getElem? hxk)
     have hq48:qn≤48:=by rw [hq.len]; exact hf.xs _ (List.mem_of_getElem? hxk)
     have HQL:=hide hq.len
     have hqm:=hq.max
     have hqc:=hq.cap
     have HX:=hide hxk
     clear hxk hc
     go_wp2_with fail
     clear hlt0 x0 x1 x2 x3 x4
     go_loopw [4,41] (fun v i wr=>∃(j:Nat) (E':List Event),j≤qn∧i= .int .i64 j∧E'.length≤200+49*k+j∧Hid (E'=E++(qx.take j).map readEv)∧OwnL wr (w.heap.size+1) 54 5 Event.cells v E'∧Ext W0 wr) (fun _ i _=>qn-(intOf i).toNat)
     case atStart=>exact ⟨0,E,Nat.zero_le _,rfl,by omega,hide (by simp),hown,hx⟩
     case round=>
      clear hown hx hxz t0 hb hE
      obtain ⟨j,E',hj,rfl,hE',HE',hown,hx⟩:=hrel
      have hxz:=hx.size
      rw [HSZ.out] at hxz
      obtain ⟨hlt0,x0,x1,x2,x3,x4⟩:=hin.ext hx
      by_cases hjlt:j<qn
      ·clear hlt0 x0 x1 x2 x3 x4
       obtain ⟨b2,off2,x,rfl,hb2,hxj,hc⟩:=(hq.ext (hw0.trans hx)).get hjlt
       have HXJ:=hide hxj
       clear hxj
       have hc0:=hc 0 _ rfl
       have hc1:=hc 1 _ rfl
       clear hc
       simp only [Nat.add_zero] at hc0
       go_wp2_with (at_builtin; go_must (refine wpList_append_one rfl _ _ 34 rfl (w.heap.size+1) 54 _ 5 40 Tryz.underlying34 event_info rfl (by decide) Event.cells event_len event_one _ _ rfl (hown.ext ((Ext.alloc _ _).and_alloc _)) _ (readEv x) rfl _ rfl (by first | rfl | simp) (by omega) (by omega) (by first | omega | (simp; omega)) ?_))
       intro v1 w4 hown4 hext4
       have hx4:=hext4 _ (by rw [HSZ.out]; exact Nat.le_refl _) ((hx.and_alloc _).and_alloc _)
       go_wp2_with fail
       go_roundw
       case rel=>exact ⟨j+1,_,by omega,by go_num,by simp; omega,hide (by rw [take_one HXJ.out,List.map_append,HE'.out]; simp),hown4,hx4⟩
       case measure=>simp [intOf]; omega
      ·obtain rfl:qn=j:=by omega
       have HE2:=hide (show E'=E++qx.map readEv by rw [HE'.out,HQL.out,List.take_length])
       clear HE'
       by_cases hlast:k+1<n5
       ·have hd:((k:Int)<(n5:Int)-1):=by omega
        go_wp2_with (at_builtin; go_must (refine wpList_append_one rfl _ _ 34 rfl (w.heap.size+1) 54 _ 5 40 Tryz.underlying34 event_info rfl (by decide) Event.cells event_len event_one _ _ rfl (hown.ext (Ext.alloc _ _)) _ (closeEv k) rfl _ rfl (by first | rfl | simp) (by omega) (by omega) (by first | omega | (simp; omega)) ?_))
        intro v1 w4 hown4 hext4
        have hx4:=hext4 _ (by rw [HSZ.out]; exact Nat.le_refl _) (hx.and_alloc _)
        go_wp2_with fail
        go_roundw
        case rel=>exact ⟨k+1,_,by omega,by go_num,by simp; omega,hide (by rw [ev_step HX.out, ←List.append_assoc, ←HE.out,HE2.out,hourEv,if_pos (by have:=HL5.out; omega)]; simp),hown4,hx4⟩
        case measure=>simp [intOf]; omega
       ·have hd:¬((k:Int)<(n5:Int)-1):=by omega
        go_wp2_with fail
        go_roundw
        case rel=>exact ⟨k+1,_,by omega,by go_num,by omega,hide (by rw [ev_step HX.out, ←List.append_assoc, ←HE.out,HE2.out,hourEv,if_neg (by have:=HL5.out; omega)]; simp),hown,hx⟩
        case measure=>simp [intOf]; omega
    ·obtain rfl:n5=k:=by omega
     have HE2:=hide (show E=roomEv r by rw [HE.out,HL5.out,List.take_length]; rfl)
     clear HE
     obtain ⟨A',c',g,hv,hg,hnc,hcm,ho⟩:=hown.own event_len (by omega)
     subst hv
     by_cases h300:300<E.length
     ·have hd:(300:Int)<(E.length:Int):=by omega
      have HR:=hide (show evR r=([],3) by unfold evR; rw [←HE2.out,if_pos h300])
      go_wp2_with fail
      go_ret2
      exact RetS.nil_ HR.out (hw0.trans hx)
     ·have hd:¬(300:Int)<(E.length:Int):=by omega
      have HR:=hide (show evR r=(E,0) by unfold evR; rw [←HE2.out,if_neg h300])
      go_wp2_with fail
      go_ret2
      rw [HR.out]
      exact ⟨A',_,c',g,rfl,hnc,hcm,by omega,ho,(hw0.trans hx)⟩
end Go.Proofs.YtinindjjapblcaaGreatDoor
