/-
  The reference's draw of a contract.
-/
import Derived.Test.YtinindjjapblcaaGreatDoorWa12
import Derived.Test.YtinindjjapblcaaGreatDoorWa04
namespace Go.Proofs.YtinindjjapblcaaGreatDoor
open Go.RowKit
def CSm (x:Contract):Prop:=(-2000000≤x.shipper∧x.shipper≤2000000)∧(-2000000≤x.entry∧x.entry≤2000000)∧(-2000000≤x.exit∧x.exit≤2000000)∧(-2000000≤x.amount∧x.amount≤2000000)∧(-2000000≤x.cls∧x.cls≤2000000)∧(-2000000≤x.start∧x.start≤2000000)∧(-2000000≤x.stop∧x.stop≤2000000)∧(-2000000≤x.price∧x.price≤2000000)
def DrawnCon (w0:World) (a:Nat) (A:Option Addr) (n c:Nat) (w:World) (e:Ending) (w':World):Prop:=
 ∃x:Contract,e= .returned (.agg #[.int .i64 x.shipper,.int .i64 x.entry,.int .i64 x.exit,.int .i64 x.amount,.int .i64 x.cls,.int .i64 x.start,.int .i64 x.stop,.int .i64 x.price])∧CSm x∧Src w0 w' a A n c∧Only a w w'
structure CSt (w0 w:World) (a:Nat) (A:Option Addr) (n c g:Nat) (x:Contract) (wr:World):Prop where
 lt:a<w.heap.size
 src:Src w0 wr a A n c
 only:Only a w wr
 res:Row wr (w.heap.size+1) 98 [.int .i64 0,.int .i64 0,.int .i64 0,.int .i64 0,.int .i64 0,.int .i64 0,.int .i64 0,.int .i64 0]
 var:Row wr g 98 x.cells
 hg:w.heap.size+1<g
 sm:CSm x
section
variable {w0 w wr wr':World} {a n c g:Nat} {A:Option Addr} {x y:Contract}
theorem CSt.draw (h:CSt w0 w a A n c g x wr) (hs:Src w0 wr' a A n c) (ho:Only a wr wr'):CSt w0 w a A n c g x wr':=
 have hl:=h.lt
 have hg:=h.hg
 ⟨h.lt,hs,h.only.trans ho,h.res.only ho (by omega),h.var.only ho (by omega),h.hg,h.sm⟩
theorem CSt.more (h:CSt w0 w a A n c g x wr) (hx:Ext wr wr'):CSt w0 w a A n c g x wr':=h.draw (h.src.more hx) (Only.of_ext hx a)
theorem CSt.set (h:CSt w0 w a A n c g x wr) (i:Nat) (u:Value) (hy:x.cells.set i u=y.cells) (hs:CSm y):CSt w0 w a A n c g y (wr.setCell ⟨g,i,none⟩ u):=by
 have hl:=h.lt
 have hg:=h.hg
 have hle:=h.src.le0
 refine ⟨hl,h.src.set (by show w0.heap.size≤g; omega) (by show g≠a; omega) u,?_,h.res.far (by show w.heap.size+1≠g; omega) u,hy ▸ h.var.set_ i u,hg,hs⟩
 exact h.only.grown ((Only.refl g wr).setCell rfl u) (fun k hk=>by simp at hk; omega)
theorem CSt.fin (h:CSt w0 w a A n c g x wr):DrawnCon w0 a A n c w (.returned (.agg #[.int .i64 x.shipper,.int .i64 x.entry,.int .i64 x.exit,.int .i64 x.amount,.int .i64 x.cls,.int .i64 x.start,.int .i64 x.stop,.int .i64 x.price])) (putCells wr (w.heap.size+1) 0 x.cells):=by
 have hl:=h.lt
 have hle:=h.src.le0
 exact ⟨x,rfl,h.sm,h.src.put (by omega) (by omega) _ _,h.only.putNew (by omega) _ _⟩
theorem CSt.new {w1:World} (hal:a<w.heap.size) (hs:Src w0 w1 a A n c) (o1:Obj) (ho:Only a ((w.alloc o1).alloc (.cells ([.int .i64 0,.int .i64 0,.int .i64 0,.int .i64 0,.int .i64 0,.int .i64 0,.int .i64 0,.int .i64 0]).toArray 98)) w1) (hx:CSm x):
  CSt w0 w a A n c w1.heap.size x (w1.alloc (.cells x.cells.toArray 98)):=by
 have hz:=ho.size
 simp at hz
 have hR0:=Row.newG (W:=w.alloc o1) (g:=w.heap.size+1) 98 [.int .i64 0,.int .i64 0,.int .i64 0,.int .i64 0,.int .i64 0,.int .i64 0,.int .i64 0,.int .i64 0] (by simp)
 have hR:=hR0.only ho (by omega)
 have hX:Ext w1 (w1.alloc (.cells x.cells.toArray 98)):=Ext.alloc _ _
 exact ⟨hal,hs.more hX,((Only.of_ext ((Ext.alloc w o1).and_alloc _) a).trans ho).trans (Only.of_ext hX a),hR.ext hX,Row.new w1 98 x.cells,by omega,hx⟩
set_option maxHeartbeats 8000000 in
theorem c_l20DrawOne (A1 A2:Option Addr) (n1 c1 n2 c2:Nat) (hn1:n1≤1000) (h:Src w0 w a A n c):
  Calls Tryz.prog 107 #[.pointer (some ⟨a,0,none⟩),.agg #[.slice A1 n1 c1,.slice A2 n2 c2]] w (DrawnCon w0 a A n c w):=by
 have hal:=h.lt
 have hle:=h.le0
 have h0:=hide h
 clear h
 obtain ⟨M,hM,hM1,hM2⟩:∃M:Int,(if (1:Int)<n1 then (n1:Int) else 1)=M∧1≤M∧M≤1000:=⟨_,rfl,by split <;> omega,by split <;> omega⟩
 have hM0:(M==0)=false:=by rw [beq_eq_false_iff_ne]; omega
 have hM3:M≠0:=by omega
 go_enter Tryz.func107,Tryz.ntmps107
 go_wp2_with fail
 refine (c_next 4 (h0.out.more ((Ext.alloc _ _).and_alloc _)) (by omega) (by omega)).mono ?_
 rintro e w1 ⟨x1,rfl,hx1,hx1',hs1,ho1⟩
 go_wp2_with fail
 refine (c_next (M) hs1 (by omega) (by omega)).mono ?_
 rintro e w2 ⟨x2,rfl,hx2,hx2',hs2,ho2⟩
 have ho12:=ho1.trans ho2
 clear hs1 ho1 ho2
 go_wp2_with fail
 refine (c_next 60 hs2 (by omega) (by omega)).mono ?_
 rintro e w3 ⟨x3,rfl,hx3,hx3',hs3,ho3⟩
 have ho13:=ho12.trans ho3
 clear hs2 ho12 ho3
 go_wp2_with fail
 refine (c_next 4 hs3 (by omega) (by omega)).mono ?_
 rintro e w4 ⟨x4,rfl,hx4,hx4',hs4,ho4⟩
 have ho14:=ho13.trans ho4
 clear hs3 ho13 ho4
 go_wp2_with fail
 refine (c_next 6 hs4 (by omega) (by omega)).mono ?_
 rintro e w5 ⟨x5,rfl,hx5,hx5',hs5,ho5⟩
 have ho15:=ho14.trans ho5
 clear hs4 ho14 ho5
 go_wp2_with fail
 refine (c_next 20 hs5 (by omega) (by omega)).mono ?_
 rintro e w6 ⟨x6,rfl,hx6,hx6',hs6,ho6⟩
 have ho16:=ho15.trans ho6
 clear hs5 ho15 ho6
 have hD:=CSt.new (x:=⟨x1,x2,0,1+x3,x4,x5,0,x6⟩) hal hs6 _ ho16 (by simp only [CSm]; omega)
 clear hs6 ho16
 obtain ⟨W6,HW6⟩:∃W6,Hid (w6.alloc (.cells #[.int .i64 x1,.int .i64 x2,.int .i64 0,.int .i64 (1+x3),.int .i64 x4,.int .i64 x5,.int .i64 0,.int .i64 x6] 98)=W6):=⟨_,hide rfl⟩
 have hD:CSt w0 w a A n c w6.heap.size ⟨x1,x2,0,1+x3,x4,x5,0,x6⟩ W6:=by rw [←HW6.out]; exact hD
 have p0:=hD.var.cell 0
 have p1:=hD.var.cell 1
 have p2:=hD.var.cell 2
 have p3:=hD.var.cell 3
 have p4:=hD.var.cell 4
 have p5:=hD.var.cell 5
 have p6:=hD.var.cell 6
 have p7:=hD.var.cell 7
 simp [Contract.cells] at p0 p1 p2 p3 p4 p5 p6 p7
 have pf:=hD.var.frozen
 have pl:=hD.var.lt
 have e1:IntKind.i64.wrap (x2+1)=x2+1:=IntWalk.i64_in _ (by omega)
 have e2:IntKind.i64.wrap (M-1)=M-1:=IntWalk.i64_in _ (by omega)
 go_wp2_with fail
 rw [HW6.out]
 refine wp_region_phC [(w6.heap.size,1)] [([0,1,2,3,4,5,8],6),([7,9,10],11)] [] (by kernel_rfl) (by kernel_rfl) (by intro c a w d v h; cases d <;> exact h) ?_
 simp only [wpPhC,pickL,nthO]
 repeat (go_big_quiet_step (fail))
 refine wpQuiet_nil ?_
 go_wp2_with fail
 refine (c_next _ (hD.src.more (Ext.refl _).drew) (by omega) (by omega)).mono ?_
 rintro e w7 ⟨x7,rfl,hx7,hx7',hs7,ho7⟩
 have hsm:=(SameC.refl [(w6.heap.size,1)] W6).drew.trans (SameC.of_only ho7 (by have:=hD.lt; have:=hD.hg; simp; omega))
 have hD7:=hD.draw hs7 ((Only.refl a W6).drew.trans ho7)
 clear hD hs7 ho7 p0 p1 p2 p3 p4 p5 p6 p7 pf pl e1 e2
 go_wp2_with fail
 have e3:IntKind.i64.wrap (x2+1+x7)=x2+1+x7:=IntWalk.i64_in _ (by omega)
 have hZ:=show (x2+1+x7).tmod M=(x2+1+x7) % M from Int.tmod_eq_emod_of_nonneg (by omega)
 have hzb: -1000≤((x2+1+x7) % M)∧((x2+1+x7) % M)≤1000:=(by have h1:=Int.emod_nonneg (x2+1+x7) (b:=M) (by omega); have h2:=Int.emod_lt_of_pos (x2+1+x7) (b:=M) (by omega); omega)
 refine ⟨hsm,?_⟩
 repeat (go_big_quiet_step (fail))
 refine wpQuiet_nil ?_
 clear e3
 have p0:=hD7.var.cell 0
 have p1:=hD7.var.cell 1
 have p2:=hD7.var.cell 2
 have p3:=hD7.var.cell 3
 have p4:=hD7.var.cell 4
 have p5:=hD7.var.cell 5
 have p6:=hD7.var.cell 6
 have p7:=hD7.var.cell 7
 simp [Contract.cells] at p0 p1 p2 p3 p4 p5 p6 p7
 have pf:=hD7.var.frozen
 have pl:=hD7.var.lt
 go_wp2_with fail
 have hD8:=hD7.set 2 (.int .i64 ((x2+1+x7) % M)) (y:=⟨x1,x2,(x2+1+x7) % M,1+x3,x4,x5,0,x6⟩) rfl (by have:=hzb; simp only [CSm]; omega)
 obtain ⟨W8,HW8⟩:∃W8,Hid (w7.setCell ⟨w6.heap.size,2,none⟩ (.int .i64 ((x2+1+x7) % M))=W8):=⟨_,hide rfl⟩
 rw [HW8.out] at hD8
 refine ⟨hsm.setCell (by simp) _,?_⟩
 repeat (go_big_quiet_step (fail))
 refine wpQuiet_nil ?_
 clear hD7 hsm p0 p1 p2 p3 p4 p5 p6 p7 pf pl
 rw [HW8.out]
 have p0:=hD8.var.cell 0
 have p1:=hD8.var.cell 1
 have p2:=hD8.var.cell 2
 have p3:=hD8.var.cell 3
 have p4:=hD8.var.cell 4
 have p5:=hD8.var.cell 5
 have p6:=hD8.var.cell 6
 have p7:=hD8.var.cell 7
 simp [Contract.cells] at p0 p1 p2 p3 p4 p5 p6 p7
 have pf:=hD8.var.frozen
 have pl:=hD8.var.lt
 go_wp2_with fail
 refine wp_region_phC [(w6.heap.size,5)] [([0,1,2],3),([4,5],6)] [] (by kernel_rfl) (by kernel_rfl) (by intro c a w d v h; cases d <;> exact h) ?_
 simp only [wpPhC,pickL,nthO]
 repeat (go_big_quiet_step (fail))
 refine wpQuiet_nil ?_
 go_wp2_with fail
 refine (c_next 12 (hD8.src.more (Ext.refl _).drew) (by omega) (by omega)).mono ?_
 rintro e w9 ⟨x9,rfl,hx9,hx9',hs9,ho9⟩
 have hsm:=(SameC.refl [(w6.heap.size,5)] W8).drew.trans (SameC.of_only ho9 (by have:=hD8.lt; have:=hD8.hg; have:=hD8.var.lt; simp; omega))
 have hD9:=hD8.draw hs9 ((Only.refl a W8).drew.trans ho9)
 clear hD8 hs9 ho9 p0 p1 p2 p3 p4 p5 p6 p7 pf pl
 have e4:IntKind.i64.wrap (x5+x9)=x5+x9:=IntWalk.i64_in _ (by omega)
 go_wp2_with fail
 refine ⟨hsm,?_⟩
 repeat (go_big_quiet_step (fail))
 refine wpQuiet_nil ?_
 clear e4
 have p0:=hD9.var.cell 0
 have p1:=hD9.var.cell 1
 have p2:=hD9.var.cell 2
 have p3:=hD9.var.cell 3
 have p4:=hD9.var.cell 4
 have p5:=hD9.var.cell 5
 have p6:=hD9.var.cell 6
 have p7:=hD9.var.cell 7
 simp [Contract.cells] at p0 p1 p2 p3 p4 p5 p6 p7
 have pf:=hD9.var.frozen
 have pl:=hD9.var.lt
 have hD10:=hD9.set 6 (.int .i64 (x5+x9)) (y:=⟨x1,x2,(x2+1+x7) % M,1+x3,x4,x5,x5+x9,x6⟩) rfl (by have:=hzb; simp only [CSm]; omega)
 have hqb:0≤x5∧x5≤6:=by omega
 go_wp2_with fail
 obtain ⟨W10,HW10⟩:∃W10,Hid (w9.setCell ⟨w6.heap.size,6,none⟩ (.int .i64 (x5+x9))=W10):=⟨_,hide rfl⟩
 rw [HW10.out] at hD10
 refine ⟨hsm.setCell (by simp) _,?_⟩
 repeat (go_big_quiet_step (fail))
 refine wpQuiet_nil ?_
 clear hD9 hsm p0 p1 p2 p3 p4 p5 p6 p7 pf pl
 rw [HW10.out]
 obtain ⟨q,hq⟩:∃q:Contract,(⟨x1,x2,(x2+1+x7) % M,1+x3,x4,x5,x5+x9,x6⟩:Contract)=q:=⟨_,rfl⟩
 rw [hq] at hD10
 have hqs:0≤q.start∧q.start≤6:=by rw [←hq]; exact hqb
 clear hq
 go_wp2_with fail
 refine (c_next 60 hD10.src (by omega) (by omega)).mono ?_
 rintro e w11 ⟨x,rfl,hx0,hxk,hs11,ho11⟩
 have hD:=hD10.draw hs11 ho11
 clear hD10 hs11 ho11
 have hsmq:=hD.sm
 simp only [CSm] at hsmq
 by_cases h0:x=0
 ·subst h0
  have hDm:=hD.more (Ext.alloc w11 (.cells #[.int .i64 (-1),.int .i64 15,.int .i64 16] 2))
  have hal11:=hD.src.lt
  go_wp2_with fail
  refine (c_next 3 hDm.src (by omega) (by omega)).mono ?_
  rintro e w12 ⟨y,rfl,hy0,hy1,hs12,ho12⟩
  have hD12:=hDm.draw hs12 ho12
  have hR12:=(Row.new w11 2 [.int .i64 (-1),.int .i64 15,.int .i64 16]).only ho12 (by omega)
  obtain ⟨j,rfl⟩:=Int.eq_ofNat_of_zero_le hy0
  have hj:j<3:=by omega
  obtain ⟨z,hz,hz1,hz2⟩:∃z:Int,w12.cell? ⟨w11.heap.size,j,none⟩=some (.int .i64 z)∧ -2000000≤z∧z≤2000000:=by
   rw [hR12.cell]; rcases (show j=0∨j=1∨j=2 by omega) with rfl | rfl | rfl <;> exact ⟨_,rfl,by omega,by omega⟩
  have hb12:=hR12.lt
  have hD13:=hD12.set 0 (.int .i64 z) (y:=⟨z,q.entry,q.exit,q.amount,q.cls,q.start,q.stop,q.price⟩) rfl (by simp only [CSm]; omega)
  have r0:=hD12.var.cell 0
  have r1:=hD12.var.cell 1
  have r2:=hD12.var.cell 2
  have r3:=hD12.var.cell 3
  have r4:=hD12.var.cell 4
  have r5:=hD12.var.cell 5
  have r6:=hD12.var.cell 6
  have r7:=hD12.var.cell 7
  simp [Contract.cells] at r0 r1 r2 r3 r4 r5 r6 r7
  have rf:=hD12.var.frozen
  have rl:=hD12.var.lt
  clear hDm hD12 hR12 hs12 ho12 hD
  have p0:=hD13.var.cell 0
  have p1:=hD13.var.cell 1
  have p2:=hD13.var.cell 2
  have p3:=hD13.var.cell 3
  have p4:=hD13.var.cell 4
  have p5:=hD13.var.cell 5
  have p6:=hD13.var.cell 6
  have p7:=hD13.var.cell 7
  simp [Contract.cells] at p0 p1 p2 p3 p4 p5 p6 p7
  have pf:=hD13.var.frozen
  have pl:=hD13.var.lt
  have q0:=hD13.res.cell 0
  have q1:=hD13.res.cell 1
  have q2:=hD13.res.cell 2
  have q3:=hD13.res.cell 3
  have q4:=hD13.res.cell 4
  have q5:=hD13.res.cell 5
  have q6:=hD13.res.cell 6
  have q7:=hD13.res.cell 7
  simp at q0 q1 q2 q3 q4 q5 q6 q7
  have qf:=hD13.res.frozen
  have ql:=hD13.res.lt
  have HF:=hide hD13.fin
  clear hD13
  go_wp2_with fail
  refine bodyPost_ret (v:= .agg #[.int .i64 (⟨z,q.entry,q.exit,q.amount,q.cls,q.start,q.stop,q.price⟩:Contract).shipper,.int .i64 (⟨z,q.entry,q.exit,q.amount,q.cls,q.start,q.stop,q.price⟩:Contract).entry,.int .i64 (⟨z,q.entry,q.exit,q.amount,q.cls,q.start,q.stop,q.price⟩:Contract).exit,.int .i64 (⟨z,q.entry,q.exit,q.amount,q.cls,q.start,q.stop,q.price⟩:Contract).amount,.int .i64 (⟨z,q.entry,q.exit,q.amount,q.cls,q.start,q.stop,q.price⟩:Contract).cls,.int .i64 (⟨z,q.entry,q.exit,q.amount,q.cls,q.start,q.stop,q.price⟩:Contract).start,.int .i64 (⟨z,q.entry,q.exit,q.amount,q.cls,q.start,q.stop,q.price⟩:Contract).stop,.int .i64 (⟨z,q.entry,q.exit,q.amount,q.cls,q.start,q.stop,q.price⟩:Contract).price]) (by simp [results,Tryz.results107,go_sem,q0,q1,q2,q3,q4,q5,q6,q7]) rfl ?_
  exact HF.out
 have b0:(x==0)=false:=by rw [beq_eq_false_iff_ne]; exact h0
 by_cases h1:x=1
 ·subst h1
  have p0:=hD.var.cell 0
  have p1:=hD.var.cell 1
  have p2:=hD.var.cell 2
  have p3:=hD.var.cell 3
  have p4:=hD.var.cell 4
  have p5:=hD.var.cell 5
  have p6:=hD.var.cell 6
  have p7:=hD.var.cell 7
  simp [Contract.cells] at p0 p1 p2 p3 p4 p5 p6 p7
  have pf:=hD.var.frozen
  have pl:=hD.var.lt
  have e5:IntKind.i64.wrap (q.start-1)=q.start-1:=IntWalk.i64_in _ (by omega)
  go_wp2_with fail
  refine wp_region_phT [(w6.heap.size,5)] (.two [0,1,2,4] 3 (.one [] 5 (.one [6] 7 (.one [8] 9 (.last [])))) 5 (.one [] 3 (.one [6] 7 (.one [8] 9 (.last []))))) (by kernel_rfl) (by kernel_rfl) (by intro c a w d v h; cases d <;> exact h) ?_
  simp only [wpPhT,pickL,nthO]
  repeat (go_big_quiet_step (fail))
  refine wpQuiet_nil ?_
  refine ⟨?_,?_⟩
  ·have hDA:=hD.more ((Ext.alloc w11 (.cells #[.int .i64 (q.start-1),.int .i64 47,.int .i64 48] 2)).drew)
   have hR:=(Row.new w11 2 [.int .i64 (q.start-1),.int .i64 47,.int .i64 48]).drew
   have hal3:=hD.src.lt
   have hv3:=hD.var.lt
   have hgg:=hD.hg
   have hlt:=hD.lt
   go_wp2_with fail
   refine ⟨SameC.of_ext ((Ext.alloc _ _).drew) (by simp; omega),wpQuiet_nil ?_⟩
   go_wp2_with fail
   refine (c_next 3 hDA.src (by omega) (by omega)).mono ?_
   rintro e w12 ⟨y,rfl,hy0,hy1,hs12,ho12⟩
   have hD12:=hDA.draw hs12 ho12
   have hR12:=hR.only ho12 (by omega)
   obtain ⟨j,rfl⟩:=Int.eq_ofNat_of_zero_le hy0
   have hj:j<3:=by omega
   obtain ⟨z,hz,hz1,hz2⟩:∃z:Int,w12.cell? ⟨w11.heap.size,j,none⟩=some (.int .i64 z)∧ -2000000≤z∧z≤2000000:=by
    rw [hR12.cell]; rcases (show j=0∨j=1∨j=2 by omega) with rfl | rfl | rfl <;> exact ⟨_,rfl,by omega,by omega⟩
   have hsm:SameC [(w6.heap.size,5)] w11 w12:=(SameC.of_ext (Ext.alloc w11 (.cells #[.int .i64 (q.start-1),.int .i64 47,.int .i64 48] 2)).drew (by simp; omega)).trans (SameC.of_only ho12 (by simp; omega))
   have hb12:=hR12.lt
   have hD13:=hD12.set 6 (.int .i64 z) (y:=⟨q.shipper,q.entry,q.exit,q.amount,q.cls,q.start,z,q.price⟩) rfl (by simp only [CSm]; omega)
   have r0:=hD12.var.cell 0
   have r1:=hD12.var.cell 1
   have r2:=hD12.var.cell 2
   have r3:=hD12.var.cell 3
   have r4:=hD12.var.cell 4
   have r5:=hD12.var.cell 5
   have r6:=hD12.var.cell 6
   have r7:=hD12.var.cell 7
   simp [Contract.cells] at r0 r1 r2 r3 r4 r5 r6 r7
   have rf:=hD12.var.frozen
   have rl:=hD12.var.lt
   clear hDA hD12 hR12 hs12 ho12 hD p0 p1 p2 p3 p4 p5 p6 p7 pf pl
   go_wp2_with fail
   refine ⟨hsm,?_⟩
   repeat (go_big_quiet_step (fail))
   refine wpQuiet_nil ?_
   go_wp2_with fail
   refine ⟨hsm,?_⟩
   repeat (go_big_quiet_step (fail))
   refine wpQuiet_nil ?_
   go_wp2_with fail
   refine ⟨hsm.setCell (by first | (simp; done) | (simp; omega)) _,?_⟩
   repeat (go_big_quiet_step (fail))
   refine wpQuiet_nil ?_
   clear hsm hz r0 r1 r2 r3 r4 r5 r6 r7 rf rl
   have p0:=hD13.var.cell 0
   have p1:=hD13.var.cell 1
   have p2:=hD13.var.cell 2
   have p3:=hD13.var.cell 3
   have p4:=hD13.var.cell 4
   have p5:=hD13.var.cell 5
   have p6:=hD13.var.cell 6
   have p7:=hD13.var.cell 7
   simp [Contract.cells] at p0 p1 p2 p3 p4 p5 p6 p7
   have pf:=hD13.var.frozen
   have pl:=hD13.var.lt
   have q0:=hD13.res.cell 0
   have q1:=hD13.res.cell 1
   have q2:=hD13.res.cell 2
   have q3:=hD13.res.cell 3
   have q4:=hD13.res.cell 4
   have q5:=hD13.res.cell 5
   have q6:=hD13.res.cell 6
   have q7:=hD13.res.cell 7
   simp at q0 q1 q2 q3 q4 q5 q6 q7
   have qf:=hD13.res.frozen
   have ql:=hD13.res.lt
   have HF:=hide hD13.fin
   clear hD13
   go_wp2_with fail
   refine bodyPost_ret (v:= .agg #[.int .i64 (⟨q.shipper,q.entry,q.exit,q.amount,q.cls,q.start,z,q.price⟩:Contract).shipper,.int .i64 (⟨q.shipper,q.entry,q.exit,q.amount,q.cls,q.start,z,q.price⟩:Contract).entry,.int .i64 (⟨q.shipper,q.entry,q.exit,q.amount,q.cls,q.start,z,q.price⟩:Contract).exit,.int .i64 (⟨q.shipper,q.entry,q.exit,q.amount,q.cls,q.start,z,q.price⟩:Contract).amount,.int .i64 (⟨q.shipper,q.entry,q.exit,q.amount,q.cls,q.start,z,q.price⟩:Contract).cls,.int .i64 (⟨q.shipper,q.entry,q.exit,q.amount,q.cls,q.start,z,q.price⟩:Contract).start,.int .i64 (⟨q.shipper,q.entry,q.exit,q.amount,q.cls,q.start,z,q.price⟩:Contract).stop,.int .i64 (⟨q.shipper,q.entry,q.exit,q.amount,q.cls,q.start,z,q.price⟩:Contract).price]) (by simp [results,Tryz.results107,go_sem,q0,q1,q2,q3,q4,q5,q6,q7]) rfl ?_
   exact HF.out
  ·have hDA:=hD.more (Ext.refl w11).drew
   have hal3:=hD.src.lt
   have hv3:=hD.var.lt
   have hgg:=hD.hg
   have hlt:=hD.lt
   go_wp2_with fail
   refine (c_next 3 hDA.src (by omega) (by omega)).mono ?_
   rintro e w12' ⟨y,rfl,hy0,hy1,hs12,ho12⟩
   have hD12':=hDA.draw hs12 ho12
   obtain ⟨j,rfl⟩:=Int.eq_ofNat_of_zero_le hy0
   have hj:j<3:=by omega
   have hR12:=Row.new w12' 2 [.int .i64 (q.start-1),.int .i64 47,.int .i64 48]
   have hD12:=hD12'.more (Ext.alloc w12' (.cells #[.int .i64 (q.start-1),.int .i64 47,.int .i64 48] 2))
   have hsz:w11.heap.size≤w12'.heap.size:=ho12.size
   have hsm0:SameC [(w6.heap.size,5)] w11 w12':=(SameC.refl _ w11).drew.trans (SameC.of_only ho12 (by simp; omega))
   have hsm:SameC [(w6.heap.size,5)] w11 (w12'.alloc (.cells #[.int .i64 (q.start-1),.int .i64 47,.int .i64 48] 2)):=hsm0.trans (SameC.of_ext (Ext.alloc _ _) (by simp; omega))
   go_wp2_with fail
   refine ⟨hsm0,wpQuiet_nil ?_⟩
   go_wp2_with fail
   obtain ⟨w12,HW12⟩:∃w12,Hid (w12'.alloc (.cells #[.int .i64 (q.start-1),.int .i64 47,.int .i64 48] 2)=w12):=⟨_,hide rfl⟩
   rw [HW12.out] at hR12 hD12 hsm ⊢
   obtain ⟨z,hz,hz1,hz2⟩:∃z:Int,w12.cell? ⟨w12'.heap.size,j,none⟩=some (.int .i64 z)∧ -2000000≤z∧z≤2000000:=by
    rw [hR12.cell]; rcases (show j=0∨j=1∨j=2 by omega) with rfl | rfl | rfl <;> exact ⟨_,rfl,by omega,by omega⟩
   have hb12:=hR12.lt
   clear hD12' hsm0 hsz
   have hD13:=hD12.set 6 (.int .i64 z) (y:=⟨q.shipper,q.entry,q.exit,q.amount,q.cls,q.start,z,q.price⟩) rfl (by simp only [CSm]; omega)
   have r0:=hD12.var.cell 0
   have r1:=hD12.var.cell 1
   have r2:=hD12.var.cell 2
   have r3:=hD12.var.cell 3
   have r4:=hD12.var.cell 4
   have r5:=hD12.var.cell 5
   have r6:=hD12.var.cell 6
   have r7:=hD12.var.cell 7
   simp [Contract.cells] at r0 r1 r2 r3 r4 r5 r6 r7
   have rf:=hD12.var.frozen
   have rl:=hD12.var.lt
   clear hDA hD12 hR12 hs12 ho12 hD p0 p1 p2 p3 p4 p5 p6 p7 pf pl
   go_wp2_with fail
   refine ⟨hsm,?_⟩
   repeat (go_big_quiet_step (fail))
   refine wpQuiet_nil ?_
   go_wp2_with fail
   refine ⟨hsm,?_⟩
   repeat (go_big_quiet_step (fail))
   refine wpQuiet_nil ?_
   go_wp2_with fail
   refine ⟨hsm.setCell (by first | (simp; done) | (simp; omega)) _,?_⟩
   repeat (go_big_quiet_step (fail))
   refine wpQuiet_nil ?_
   clear hsm hz r0 r1 r2 r3 r4 r5 r6 r7 rf rl
   have p0:=hD13.var.cell 0
   have p1:=hD13.var.cell 1
   have p2:=hD13.var.cell 2
   have p3:=hD13.var.cell 3
   have p4:=hD13.var.cell 4
   have p5:=hD13.var.cell 5
   have p6:=hD13.var.cell 6
   have p7:=hD13.var.cell 7
   simp [Contract.cells] at p0 p1 p2 p3 p4 p5 p6 p7
   have pf:=hD13.var.frozen
   have pl:=hD13.var.lt
   have q0:=hD13.res.cell 0
   have q1:=hD13.res.cell 1
   have q2:=hD13.res.cell 2
   have q3:=hD13.res.cell 3
   have q4:=hD13.res.cell 4
   have q5:=hD13.res.cell 5
   have q6:=hD13.res.cell 6
   have q7:=hD13.res.cell 7
   simp at q0 q1 q2 q3 q4 q5 q6 q7
   have qf:=hD13.res.frozen
   have ql:=hD13.res.lt
   have HF:=hide hD13.fin
   clear hD13
   go_wp2_with fail
   refine bodyPost_ret (v:= .agg #[.int .i64 (⟨q.shipper,q.entry,q.exit,q.amount,q.cls,q.start,z,q.price⟩:Contract).shipper,.int .i64 (⟨q.shipper,q.entry,q.exit,q.amount,q.cls,q.start,z,q.price⟩:Contract).entry,.int .i64 (⟨q.shipper,q.entry,q.exit,q.amount,q.cls,q.start,z,q.price⟩:Contract).exit,.int .i64 (⟨q.shipper,q.entry,q.exit,q.amount,q.cls,q.start,z,q.price⟩:Contract).amount,.int .i64 (⟨q.shipper,q.entry,q.exit,q.amount,q.cls,q.start,z,q.price⟩:Contract).cls,.int .i64 (⟨q.shipper,q.entry,q.exit,q.amount,q.cls,q.start,z,q.price⟩:Contract).start,.int .i64 (⟨q.shipper,q.entry,q.exit,q.amount,q.cls,q.start,z,q.price⟩:Contract).stop,.int .i64 (⟨q.shipper,q.entry,q.exit,q.amount,q.cls,q.start,z,q.price⟩:Contract).price]) (by simp [results,Tryz.results107,go_sem,q0,q1,q2,q3,q4,q5,q6,q7]) rfl ?_
   exact HF.out
 have b1:(x==1)=false:=by rw [beq_eq_false_iff_ne]; exact h1
 by_cases h2:x=2
 ·subst h2
  have hDm:=hD.more (Ext.alloc w11 (.cells #[.int .i64 0,.int .i64 30000,.int .i64 30001] 2))
  have hal11:=hD.src.lt
  go_wp2_with fail
  refine (c_next 3 hDm.src (by omega) (by omega)).mono ?_
  rintro e w12 ⟨y,rfl,hy0,hy1,hs12,ho12⟩
  have hD12:=hDm.draw hs12 ho12
  have hR12:=(Row.new w11 2 [.int .i64 0,.int .i64 30000,.int .i64 30001]).only ho12 (by omega)
  obtain ⟨j,rfl⟩:=Int.eq_ofNat_of_zero_le hy0
  have hj:j<3:=by omega
  obtain ⟨z,hz,hz1,hz2⟩:∃z:Int,w12.cell? ⟨w11.heap.size,j,none⟩=some (.int .i64 z)∧ -2000000≤z∧z≤2000000:=by
   rw [hR12.cell]; rcases (show j=0∨j=1∨j=2 by omega) with rfl | rfl | rfl <;> exact ⟨_,rfl,by omega,by omega⟩
  have hb12:=hR12.lt
  have hD13:=hD12.set 3 (.int .i64 z) (y:=⟨q.shipper,q.entry,q.exit,z,q.cls,q.start,q.stop,q.price⟩) rfl (by simp only [CSm]; omega)
  have r0:=hD12.var.cell 0
  have r1:=hD12.var.cell 1
  have r2:=hD12.var.cell 2
  have r3:=hD12.var.cell 3
  have r4:=hD12.var.cell 4
  have r5:=hD12.var.cell 5
  have r6:=hD12.var.cell 6
  have r7:=hD12.var.cell 7
  simp [Contract.cells] at r0 r1 r2 r3 r4 r5 r6 r7
  have rf:=hD12.var.frozen
  have rl:=hD12.var.lt
  clear hDm hD12 hR12 hs12 ho12 hD
  have p0:=hD13.var.cell 0
  have p1:=hD13.var.cell 1
  have p2:=hD13.var.cell 2
  have p3:=hD13.var.cell 3
  have p4:=hD13.var.cell 4
  have p5:=hD13.var.cell 5
  have p6:=hD13.var.cell 6
  have p7:=hD13.var.cell 7
  simp [Contract.cells] at p0 p1 p2 p3 p4 p5 p6 p7
  have pf:=hD13.var.frozen
  have pl:=hD13.var.lt
  have q0:=hD13.res.cell 0
  have q1:=hD13.res.cell 1
  have q2:=hD13.res.cell 2
  have q3:=hD13.res.cell 3
  have q4:=hD13.res.cell 4
  have q5:=hD13.res.cell 5
  have q6:=hD13.res.cell 6
  have q7:=hD13.res.cell 7
  simp at q0 q1 q2 q3 q4 q5 q6 q7
  have qf:=hD13.res.frozen
  have ql:=hD13.res.lt
  have HF:=hide hD13.fin
  clear hD13
  go_wp2_with fail
  refine bodyPost_ret (v:= .agg #[.int .i64 (⟨q.shipper,q.entry,q.exit,z,q.cls,q.start,q.stop,q.price⟩:Contract).shipper,.int .i64 (⟨q.shipper,q.entry,q.exit,z,q.cls,q.start,q.stop,q.price⟩:Contract).entry,.int .i64 (⟨q.shipper,q.entry,q.exit,z,q.cls,q.start,q.stop,q.price⟩:Contract).exit,.int .i64 (⟨q.shipper,q.entry,q.exit,z,q.cls,q.start,q.stop,q.price⟩:Contract).amount,.int .i64 (⟨q.shipper,q.entry,q.exit,z,q.cls,q.start,q.stop,q.price⟩:Contract).cls,.int .i64 (⟨q.shipper,q.entry,q.exit,z,q.cls,q.start,q.stop,q.price⟩:Contract).start,.int .i64 (⟨q.shipper,q.entry,q.exit,z,q.cls,q.start,q.stop,q.price⟩:Contract).stop,.int .i64 (⟨q.shipper,q.entry,q.exit,z,q.cls,q.start,q.stop,q.price⟩:Contract).price]) (by simp [results,Tryz.results107,go_sem,q0,q1,q2,q3,q4,q5,q6,q7]) rfl ?_
  exact HF.out
 have b2:(x==2)=false:=by rw [beq_eq_false_iff_ne]; exact h2
 by_cases h3:x=3
 ·subst h3
  have hDm:=hD.more (Ext.alloc w11 (.cells #[.int .i64 (-1),.int .i64 4] 2))
  have hal11:=hD.src.lt
  go_wp2_with fail
  refine (c_next 2 hDm.src (by omega) (by omega)).mono ?_
  rintro e w12 ⟨y,rfl,hy0,hy1,hs12,ho12⟩
  have hD12:=hDm.draw hs12 ho12
  have hR12:=(Row.new w11 2 [.int .i64 (-1),.int .i64 4]).only ho12 (by omega)
  obtain ⟨j,rfl⟩:=Int.eq_ofNat_of_zero_le hy0
  have hj:j<2:=by omega
  obtain ⟨z,hz,hz1,hz2⟩:∃z:Int,w12.cell? ⟨w11.heap.size,j,none⟩=some (.int .i64 z)∧ -2000000≤z∧z≤2000000:=by
   rw [hR12.cell]; rcases (show j=0∨j=1 by omega) with rfl | rfl <;> exact ⟨_,rfl,by omega,by omega⟩
  have hb12:=hR12.lt
  have hD13:=hD12.set 4 (.int .i64 z) (y:=⟨q.shipper,q.entry,q.exit,q.amount,z,q.start,q.stop,q.price⟩) rfl (by simp only [CSm]; omega)
  have r0:=hD12.var.cell 0
  have r1:=hD12.var.cell 1
  have r2:=hD12.var.cell 2
  have r3:=hD12.var.cell 3
  have r4:=hD12.var.cell 4
  have r5:=hD12.var.cell 5
  have r6:=hD12.var.cell 6
  have r7:=hD12.var.cell 7
  simp [Contract.cells] at r0 r1 r2 r3 r4 r5 r6 r7
  have rf:=hD12.var.frozen
  have rl:=hD12.var.lt
  clear hDm hD12 hR12 hs12 ho12 hD
  have p0:=hD13.var.cell 0
  have p1:=hD13.var.cell 1
  have p2:=hD13.var.cell 2
  have p3:=hD13.var.cell 3
  have p4:=hD13.var.cell 4
  have p5:=hD13.var.cell 5
  have p6:=hD13.var.cell 6
  have p7:=hD13.var.cell 7
  simp [Contract.cells] at p0 p1 p2 p3 p4 p5 p6 p7
  have pf:=hD13.var.frozen
  have pl:=hD13.var.lt
  have q0:=hD13.res.cell 0
  have q1:=hD13.res.cell 1
  have q2:=hD13.res.cell 2
  have q3:=hD13.res.cell 3
  have q4:=hD13.res.cell 4
  have q5:=hD13.res.cell 5
  have q6:=hD13.res.cell 6
  have q7:=hD13.res.cell 7
  simp at q0 q1 q2 q3 q4 q5 q6 q7
  have qf:=hD13.res.frozen
  have ql:=hD13.res.lt
  have HF:=hide hD13.fin
  clear hD13
  go_wp2_with fail
  refine bodyPost_ret (v:= .agg #[.int .i64 (⟨q.shipper,q.entry,q.exit,q.amount,z,q.start,q.stop,q.price⟩:Contract).shipper,.int .i64 (⟨q.shipper,q.entry,q.exit,q.amount,z,q.start,q.stop,q.price⟩:Contract).entry,.int .i64 (⟨q.shipper,q.entry,q.exit,q.amount,z,q.start,q.stop,q.price⟩:Contract).exit,.int .i64 (⟨q.shipper,q.entry,q.exit,q.amount,z,q.start,q.stop,q.price⟩:Contract).amount,.int .i64 (⟨q.shipper,q.entry,q.exit,q.amount,z,q.start,q.stop,q.price⟩:Contract).cls,.int .i64 (⟨q.shipper,q.entry,q.exit,q.amount,z,q.start,q.stop,q.price⟩:Contract).start,.int .i64 (⟨q.shipper,q.entry,q.exit,q.amount,z,q.start,q.stop,q.price⟩:Contract).stop,.int .i64 (⟨q.shipper,q.entry,q.exit,q.amount,z,q.start,q.stop,q.price⟩:Contract).price]) (by simp [results,Tryz.results107,go_sem,q0,q1,q2,q3,q4,q5,q6,q7]) rfl ?_
  exact HF.out
 have b3:(x==3)=false:=by rw [beq_eq_false_iff_ne]; exact h3
 by_cases h4:x=4
 ·subst h4
  have hDm:=hD.more (Ext.alloc w11 (.cells #[.int .i64 (-1),.int .i64 1000000,.int .i64 1000001] 2))
  have hal11:=hD.src.lt
  go_wp2_with fail
  refine (c_next 3 hDm.src (by omega) (by omega)).mono ?_
  rintro e w12 ⟨y,rfl,hy0,hy1,hs12,ho12⟩
  have hD12:=hDm.draw hs12 ho12
  have hR12:=(Row.new w11 2 [.int .i64 (-1),.int .i64 1000000,.int .i64 1000001]).only ho12 (by omega)
  obtain ⟨j,rfl⟩:=Int.eq_ofNat_of_zero_le hy0
  have hj:j<3:=by omega
  obtain ⟨z,hz,hz1,hz2⟩:∃z:Int,w12.cell? ⟨w11.heap.size,j,none⟩=some (.int .i64 z)∧ -2000000≤z∧z≤2000000:=by
   rw [hR12.cell]; rcases (show j=0∨j=1∨j=2 by omega) with rfl | rfl | rfl <;> exact ⟨_,rfl,by omega,by omega⟩
  have hb12:=hR12.lt
  have hD13:=hD12.set 7 (.int .i64 z) (y:=⟨q.shipper,q.entry,q.exit,q.amount,q.cls,q.start,q.stop,z⟩) rfl (by simp only [CSm]; omega)
  have r0:=hD12.var.cell 0
  have r1:=hD12.var.cell 1
  have r2:=hD12.var.cell 2
  have r3:=hD12.var.cell 3
  have r4:=hD12.var.cell 4
  have r5:=hD12.var.cell 5
  have r6:=hD12.var.cell 6
  have r7:=hD12.var.cell 7
  simp [Contract.cells] at r0 r1 r2 r3 r4 r5 r6 r7
  have rf:=hD12.var.frozen
  have rl:=hD12.var.lt
  clear hDm hD12 hR12 hs12 ho12 hD
  have p0:=hD13.var.cell 0
  have p1:=hD13.var.cell 1
  have p2:=hD13.var.cell 2
  have p3:=hD13.var.cell 3
  have p4:=hD13.var.cell 4
  have p5:=hD13.var.cell 5
  have p6:=hD13.var.cell 6
  have p7:=hD13.var.cell 7
  simp [Contract.cells] at p0 p1 p2 p3 p4 p5 p6 p7
  have pf:=hD13.var.frozen
  have pl:=hD13.var.lt
  have q0:=hD13.res.cell 0
  have q1:=hD13.res.cell 1
  have q2:=hD13.res.cell 2
  have q3:=hD13.res.cell 3
  have q4:=hD13.res.cell 4
  have q5:=hD13.res.cell 5
  have q6:=hD13.res.cell 6
  have q7:=hD13.res.cell 7
  simp at q0 q1 q2 q3 q4 q5 q6 q7
  have qf:=hD13.res.frozen
  have ql:=hD13.res.lt
  have HF:=hide hD13.fin
  clear hD13
  go_wp2_with fail
  refine bodyPost_ret (v:= .agg #[.int .i64 (⟨q.shipper,q.entry,q.exit,q.amount,q.cls,q.start,q.stop,z⟩:Contract).shipper,.int .i64 (⟨q.shipper,q.entry,q.exit,q.amount,q.cls,q.start,q.stop,z⟩:Contract).entry,.int .i64 (⟨q.shipper,q.entry,q.exit,q.amount,q.cls,q.start,q.stop,z⟩:Contract).exit,.int .i64 (⟨q.shipper,q.entry,q.exit,q.amount,q.cls,q.start,q.stop,z⟩:Contract).amount,.int .i64 (⟨q.shipper,q.entry,q.exit,q.amount,q.cls,q.start,q.stop,z⟩:Contract).cls,.int .i64 (⟨q.shipper,q.entry,q.exit,q.amount,q.cls,q.start,q.stop,z⟩:Contract).start,.int .i64 (⟨q.shipper,q.entry,q.exit,q.amount,q.cls,q.start,q.stop,z⟩:Contract).stop,.int .i64 (⟨q.shipper,q.entry,q.exit,q.amount,q.cls,q.start,q.stop,z⟩:Contract).price]) (by simp [results,Tryz.results107,go_sem,q0,q1,q2,q3,q4,q5,q6,q7]) rfl ?_
  exact HF.out
 ·have b4:(x==4)=false:=by rw [beq_eq_false_iff_ne]; exact h4
  have p0:=hD.var.cell 0
  have p1:=hD.var.cell 1
  have p2:=hD.var.cell 2
  have p3:=hD.var.cell 3
  have p4:=hD.var.cell 4
  have p5:=hD.var.cell 5
  have p6:=hD.var.cell 6
  have p7:=hD.var.cell 7
  simp [Contract.cells] at p0 p1 p2 p3 p4 p5 p6 p7
  have pf:=hD.var.frozen
  have pl:=hD.var.lt
  have q0:=hD.res.cell 0
  have q1:=hD.res.cell 1
  have q2:=hD.res.cell 2
  have q3:=hD.res.cell 3
  have q4:=hD.res.cell 4
  have q5:=hD.res.cell 5
  have q6:=hD.res.cell 6
  have q7:=hD.res.cell 7
  simp at q0 q1 q2 q3 q4 q5 q6 q7
  have qf:=hD.res.frozen
  have ql:=hD.res.lt
  have HF:=hide hD.fin
  clear hD
  go_wp2_with fail
  refine bodyPost_ret (v:= .agg #[.int .i64 q.shipper,.int .i64 q.entry,.int .i64 q.exit,.int .i64 q.amount,.int .i64 q.cls,.int .i64 q.start,.int .i64 q.stop,.int .i64 q.price]) (by simp [results,Tryz.results107,go_sem,q0,q1,q2,q3,q4,q5,q6,q7]) rfl ?_
  exact HF.out
end
end Go.Proofs.YtinindjjapblcaaGreatDoor
