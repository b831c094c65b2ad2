/-
  The reference's draw of a nomination.
-/
import Derived.Test.YtinindjjapblcaaGreatDoorWa14
import Derived.Test.YtinindjjapblcaaGreatDoorWa05
namespace Go.Proofs.YtinindjjapblcaaGreatDoor
open Go.RowKit
def DrawnNom (w0:World) (a:Nat) (A:Option Addr) (n c:Nat) (w:World) (e:Ending) (w':World):Prop:=
 ∃x:Nomination,e= .returned (.agg #[.int .i64 x.contract,.int .i64 x.hour,.int .i64 x.sent,.int .i64 x.amount])∧Src w0 w' a A n c∧Only a w w'
structure NomSt (w0 w:World) (a:Nat) (A:Option Addr) (n c gc gx:Nat) (y:Contract) (x:Nomination) (wr:World):Prop where
 lt:a<w.heap.size
 src:Src w0 wr a A n c
 only:Only a w wr
 res:Row wr w.heap.size 79 [.int .i64 0,.int .i64 0,.int .i64 0,.int .i64 0]
 con:Row wr gc 98 y.cells
 var:Row wr gx 79 x.cells
 hgc:w.heap.size<gc
 hgx:w.heap.size<gx
 hne:gc≠gx
section
variable {w0 w wr wr':World} {a n c gc gx:Nat} {A:Option Addr} {y:Contract} {x x':Nomination}
theorem NomSt.draw (h:NomSt w0 w a A n c gc gx y x wr) (hs:Src w0 wr' a A n c) (ho:Only a wr wr'):NomSt w0 w a A n c gc gx y x wr':=
 have hl:=h.lt
 have h1:=h.hgc
 have h2:=h.hgx
 ⟨h.lt,hs,h.only.trans ho,h.res.only ho (by omega),h.con.only ho (by omega),h.var.only ho (by omega),h1,h2,h.hne⟩
theorem NomSt.more (h:NomSt w0 w a A n c gc gx y x wr) (hx:Ext wr wr'):NomSt w0 w a A n c gc gx y x wr':=h.draw (h.src.more hx) (Only.of_ext hx a)
theorem NomSt.set (h:NomSt w0 w a A n c gc gx y x wr) (i:Nat) (u:Value) (hy:x.cells.set i u=x'.cells):NomSt w0 w a A n c gc gx y x' (wr.setCell ⟨gx,i,none⟩ u):=by
 have hl:=h.lt
 have h1:=h.hgc
 have h2:=h.hgx
 have hle:=h.src.le0
 refine ⟨hl,h.src.set (by show w0.heap.size≤gx; omega) (by show gx≠a; omega) u,?_,h.res.far (by show w.heap.size≠gx; omega) u,h.con.far h.hne u,hy ▸ h.var.set_ i u,h1,h2,h.hne⟩
 exact h.only.grown ((Only.refl gx wr).setCell rfl u) (fun k hk=>by simp at hk; omega)
theorem NomSt.fin (h:NomSt w0 w a A n c gc gx y x wr):DrawnNom w0 a A n c w (.returned (.agg #[.int .i64 x.contract,.int .i64 x.hour,.int .i64 x.sent,.int .i64 x.amount])) (putCells wr w.heap.size 0 x.cells):=by
 have hl:=h.lt
 have hle:=h.src.le0
 exact ⟨x,rfl,h.src.put (by omega) (by omega) _ _,h.only.putNew (by omega) _ _⟩
set_option maxHeartbeats 8000000 in
theorem c_l21DrawOne (fr:Int) (B:Option Addr) (m d:Nat) (xs:List Contract) (hB:SliceOf w 8 Contract.cells B m d xs) (hBa:∀b,blkOf B m=some b→b≠a) (hcs:∀x∈xs,CSm x) (hm:m≤1000) (h:Src w0 w a A n c):
  Calls Tryz.prog 112 #[.pointer (some ⟨a,0,none⟩),.slice B m d,.int .i64 fr] w (DrawnNom w0 a A n c w):=by
 have hal:=h.lt
 have hle:=h.le0
 have hR:=Row.new w 79 [.int .i64 0,.int .i64 0,.int .i64 0,.int .i64 0]
 have hx0:=Ext.alloc w (.cells #[.int .i64 0,.int .i64 0,.int .i64 0,.int .i64 0] 79)
 have HCS:=hide hcs
 have HBA:=hide hBa
 clear hcs hBa
 by_cases hm0:m=0
 ·subst hm0
  go_enter Tryz.func112,Tryz.ntmps112
  go_wp2_with fail
  refine (c_next 5 (h.more hx0) (by omega) (by omega)).mono ?_
  rintro e w1 ⟨x1,rfl,hx1,hx1',hs1,ho1⟩
  have hR1:=hR.only ho1 (by omega)
  have q0:=hR1.cell 0
  have q1:=hR1.cell 1
  have q2:=hR1.cell 2
  have q3:=hR1.cell 3
  simp at q0 q1 q2 q3
  have qf:=hR1.frozen
  have ql:=hR1.lt
  have hf:DrawnNom w0 a A n c w (.returned (.agg #[.int .i64 0,.int .i64 x1,.int .i64 0,.int .i64 0])) (putCells w1 w.heap.size 0 [.int .i64 0,.int .i64 x1,.int .i64 0,.int .i64 0]):=
   ⟨⟨0,x1,0,0⟩,rfl,hs1.put (by omega) (by omega) _ _,((Only.of_ext hx0 a).trans ho1).putNew (by omega) _ _⟩
  have HF:=hide hf
  clear hf hs1 ho1 hR1 hR
  go_wp2_with fail
  refine bodyPost_ret (v:= .agg #[.int .i64 0,.int .i64 x1,.int .i64 0,.int .i64 0]) (by simp [results,Tryz.results112,go_sem,q0,q1,q2,q3]) rfl ?_
  exact HF.out
 go_enter Tryz.func112,Tryz.ntmps112
 go_wp2_with fail
 refine (c_next m (h.more hx0) (by omega) (by omega)).mono ?_
 rintro e w1 ⟨k,rfl,hk0,hk1,hs1,ho1⟩
 obtain ⟨k,rfl⟩:=Int.eq_ofNat_of_zero_le hk0
 have hkm:k<m:=by omega
 have hR1:=hR.only ho1 (by omega)
 have hO1:=(Only.of_ext hx0 a).trans ho1
 obtain ⟨bb,off,y,rfl,hb,hyk,hyc⟩:=(hB.turn (S:=fun b=>b=a) (Turn.of_only hO1 (fun _=>rfl)) HBA.out).get hkm
 have hyS:=HCS.out y (List.mem_of_getElem? hyk)
 simp only [CSm] at hyS
 have i0:=hyc 0 _ rfl
 have i1:=hyc 1 _ rfl
 have i2:=hyc 2 _ rfl
 have i3:=hyc 3 _ rfl
 have i4:=hyc 4 _ rfl
 have i5:=hyc 5 _ rfl
 have i6:=hyc 6 _ rfl
 have i7:=hyc 7 _ rfl
 simp only [Nat.add_zero] at i0
 clear hyc hyk hR ho1 h
 go_wp2_with fail
 have hC2:=Row.new w1 98 y.cells
 have hx2:Ext w1 (w1.alloc (.cells y.cells.toArray 98)):=Ext.alloc _ _
 obtain ⟨W2,HW2⟩:∃W2,Hid (w1.alloc (.cells #[.int .i64 y.shipper,.int .i64 y.entry,.int .i64 y.exit,.int .i64 y.amount,.int .i64 y.cls,.int .i64 y.start,.int .i64 y.stop,.int .i64 y.price] 98)=W2):=⟨_,hide rfl⟩
 have hC2:Row W2 w1.heap.size 98 y.cells:=by rw [←HW2.out]; exact hC2
 have hx2:Ext w1 W2:=by rw [←HW2.out]; exact hx2
 rw [HW2.out]
 have hR2:=hR1.ext hx2
 have hs2:=hs1.more hx2
 have hO2:=hO1.trans (Only.of_ext hx2 a)
 have hs1l:=hs1.lt
 have hrl1:=hR1.lt
 clear i0 i1 i2 i3 i4 i5 i6 i7 hs1 hO1 hR1 hb
 have p0:=hC2.cell 0
 have p1:=hC2.cell 1
 have p2:=hC2.cell 2
 have p3:=hC2.cell 3
 have p4:=hC2.cell 4
 have p5:=hC2.cell 5
 have p6:=hC2.cell 6
 have p7:=hC2.cell 7
 simp [Contract.cells] at p0 p1 p2 p3 p4 p5 p6 p7
 have pl:=hC2.lt
 have e1:IntKind.i64.wrap (y.stop-y.start)=y.stop-y.start:=IntWalk.i64_in _ (by omega)
 have e2:IntKind.i64.wrap (y.stop-y.start+1)=y.stop-y.start+1:=IntWalk.i64_in _ (by omega)
 go_wp2_with fail
 refine wp_region_phT [(w1.heap.size,5),(w1.heap.size,6)] (.two [0,1,2,3,4,5,6,7,8,9,10,11] 12 (.one [13,14] 15 (.one [] 16 (.last []))) 15 (.one [] 12 (.one [13,14] 16 (.last [])))) (by kernel_rfl) (by kernel_rfl) (by intro c a w d v h; cases d <;> exact h) ?_
 simp only [wpPhT,pickL,nthO]
 repeat (go_big_quiet_step (fail))
 refine wpQuiet_nil ?_
 generalize hmm:(if (1:Int)<if y.stop-y.start+1<3 then y.stop-y.start+1 else 3 then if y.stop-y.start+1<3 then y.stop-y.start+1 else 3 else 1)=mm
 have hmb:1≤mm∧mm≤3:=by
  rw [←hmm]
  by_cases h3:y.stop-y.start+1<3
  ·rw [if_pos h3]; split <;> omega
  ·rw [if_neg h3,if_pos (by omega)]; omega
 clear hmm
 generalize (if y.stop-y.start+1<3 then y.stop-y.start+1 else 3)=m3
 refine ⟨?A1,?A2⟩
 case' A1=>
  go_wp2_with fail
  refine (c_next mm (hs2.more (Ext.refl _).drew) (by omega) (by omega)).mono ?_
  rintro e w3 ⟨x5,rfl,hx5,hx5',hs3,ho3⟩
  have hsm:SameC [(w1.heap.size,5),(w1.heap.size,6)] W2 w3:=(SameC.refl _ W2).drew.trans (SameC.of_only ho3 (by have:=hs1l; simp; omega))
  go_wp2_with fail
  refine ⟨hsm,?_⟩
  repeat (go_big_quiet_step (fail))
  refine wpQuiet_nil ?_
  have e3:IntKind.i64.wrap (y.start+x5)=y.start+x5:=IntWalk.i64_in _ (by omega)
  go_wp2_with fail
  have hs3l:=hs3.lt
  have hz23:=ho3.size
  refine ⟨hsm.trans (SameC.of_ext (Ext.alloc w3 _) (by have:=hC2.lt; try simp at hz23; simp; omega)),wpQuiet_nil ?_⟩
  go_wp2_with fail
  have hD0:NomSt w0 w a A n c w1.heap.size w3.heap.size y ⟨k,y.start+x5,0,0⟩ (w3.alloc (.cells #[.int .i64 k,.int .i64 (y.start+x5),.int .i64 0,.int .i64 0] 79)):=by
   have hX:=Ext.alloc w3 (.cells #[.int .i64 k,.int .i64 (y.start+x5),.int .i64 0,.int .i64 0] 79)
   have hO:=(Only.refl a W2).drew.trans ho3
   have hcl:=hC2.lt
   have hrl:=hR2.lt
   try simp at hz23
   exact ⟨hal,hs3.more hX,(hO2.trans hO).trans (Only.of_ext hX a),(hR2.only hO (by omega)).ext hX,(hC2.only hO (by omega)).ext hX,Row.new w3 79 [.int .i64 k,.int .i64 (y.start+x5),.int .i64 0,.int .i64 0],by omega,by omega,by omega⟩
  have hsm4:SameC [(w1.heap.size,5),(w1.heap.size,6)] W2 (w3.alloc (.cells #[.int .i64 k,.int .i64 (y.start+x5),.int .i64 0,.int .i64 0] 79)):=hsm.trans (SameC.of_ext (Ext.alloc w3 _) (by have:=hC2.lt; try simp at hz23; simp; omega))
  refine ⟨hsm4,wpQuiet_nil ?_⟩
  obtain ⟨W4,HW4⟩:∃W4,Hid (w3.alloc (.cells #[.int .i64 k,.int .i64 (y.start+x5),.int .i64 0,.int .i64 0] 79)=W4):=⟨_,hide rfl⟩
  rw [HW4.out] at hD0 ⊢
  clear hsm hsm4 e3 e1 e2 hs3 ho3 hC2 hR2 hO2 p0 p1 p2 p3 p4 p5 p6 p7 pl hs2 hx2
  obtain ⟨gN,hgN⟩:∃gN,w3.heap.size=gN:=⟨_,rfl⟩
  rw [hgN] at hD0 ⊢
  clear hgN
 case' A2=>
  go_wp2_with fail
  refine ⟨SameC.of_ext ((Ext.refl W2).drew.and_alloc _) (by simp; omega),wpQuiet_nil ?_⟩
  have hD00:NomSt w0 w a A n c w1.heap.size W2.heap.size y ⟨0,0,0,0⟩ (W2.drew.alloc (.cells #[.int .i64 0,.int .i64 0,.int .i64 0,.int .i64 0] 79)):=by
   have hX:Ext W2 (W2.drew.alloc (.cells #[.int .i64 0,.int .i64 0,.int .i64 0,.int .i64 0] 79)):=(Ext.refl W2).drew.and_alloc _
   have hcl:=hC2.lt
   have hrl:=hR2.lt
   exact ⟨hal,hs2.more hX,hO2.trans (Only.of_ext hX a),hR2.ext hX,hC2.ext hX,Row.new W2.drew 79 [.int .i64 0,.int .i64 0,.int .i64 0,.int .i64 0],by omega,by omega,by omega⟩
  have hv00:=hD00.var.lt
  have hc00:=hD00.con.lt
  go_wp2_with fail
  refine (c_next mm hD00.src (by omega) (by omega)).mono ?_
  rintro e w3 ⟨x5,rfl,hx5,hx5',hs3,ho3⟩
  have hD01:=hD00.draw hs3 ho3
  have hsm:SameC [(w1.heap.size,5),(w1.heap.size,6)] W2 w3:=(SameC.of_ext ((Ext.refl W2).drew.and_alloc (.cells #[.int .i64 0,.int .i64 0,.int .i64 0,.int .i64 0] 79)) (by have:=hC2.lt; simp; omega)).trans (SameC.of_only ho3 (by try simp at hc00; simp; omega))
  go_wp2_with fail
  refine ⟨hsm,?_⟩
  repeat (go_big_quiet_step (fail))
  refine wpQuiet_nil ?_
  have e3:IntKind.i64.wrap (y.start+x5)=y.start+x5:=IntWalk.i64_in _ (by omega)
  have hD0:=(((hD01.set 0 (.int .i64 k) (x':=⟨k,0,0,0⟩) rfl).set 1 (.int .i64 (y.start+x5)) (x':=⟨k,y.start+x5,0,0⟩) rfl).set 2 (.int .i64 0) (x':=⟨k,y.start+x5,0,0⟩) rfl).set 3 (.int .i64 0) (x':=⟨k,y.start+x5,0,0⟩) rfl
  have r0:=hD01.var.cell 0
  have r1:=hD01.var.cell 1
  have r2:=hD01.var.cell 2
  have r3:=hD01.var.cell 3
  simp [Nomination.cells] at r0 r1 r2 r3
  have rf:=hD01.var.frozen
  have rl:=hD01.var.lt
  have hne':=hD01.hne
  go_wp2_with fail
  refine ⟨((((hsm.setCell (by first | (simp; done) | (simp; omega)) _).setCell (by first | (simp; done) | (simp; omega)) _).setCell (by first | (simp; done) | (simp; omega)) _).setCell (by first | (simp; done) | (simp; omega)) _),wpQuiet_nil ?_⟩
  obtain ⟨W4,HW4⟩:∃W4,Hid ((((w3.setCell ⟨W2.heap.size,0,none⟩ (.int .i64 k)).setCell ⟨W2.heap.size,1,none⟩ (.int .i64 (y.start+x5))).setCell ⟨W2.heap.size,2,none⟩ (.int .i64 0)).setCell ⟨W2.heap.size,3,none⟩ (.int .i64 0)=W4):=⟨_,hide rfl⟩
  rw [HW4.out] at hD0 ⊢
  clear hsm e3 e1 e2 hs3 ho3 hC2 hR2 hO2 p0 p1 p2 p3 p4 p5 p6 p7 pl hs2 hx2 hD00 hD01 r0 r1 r2 r3 rf rl hv00 hc00
  obtain ⟨gN,hgN⟩:∃gN,W2.heap.size=gN:=⟨_,rfl⟩
  rw [hgN] at hD0 ⊢
  clear hgN
 all_goals
  obtain ⟨x,hxe⟩:∃x:Nomination,(⟨k,y.start+x5,0,0⟩:Nomination)=x:=⟨_,rfl⟩
  have hxh: -3000000≤x.hour∧x.hour≤3000000:=by rw [←hxe]; simp only; omega
  rw [hxe] at hD0
  clear hxe hx5 hx5'
  have p0:=hD0.var.cell 0
  have p1:=hD0.var.cell 1
  have p2:=hD0.var.cell 2
  have p3:=hD0.var.cell 3
  simp [Nomination.cells] at p0 p1 p2 p3
  have pf:=hD0.var.frozen
  have pl:=hD0.var.lt
  have e1:IntKind.i64.wrap (x.hour-2)=x.hour-2:=IntWalk.i64_in _ (by omega)
  go_wp2_with fail
  refine wp_region_phC [(gN,1)] [([0,1,2,3,4],5),([6,7,8],9)] [] (by kernel_rfl) (by kernel_rfl) (by intro c a w d v h; cases d <;> exact h) ?_
  simp only [wpPhC,pickL,nthO]
  repeat (go_big_quiet_step (fail))
  refine wpQuiet_nil ?_
  go_wp2_with fail
  refine (c_next 9 (hD0.src.more (Ext.refl _).drew) (by omega) (by omega)).mono ?_
  rintro e w5 ⟨x6,rfl,hx6,hx6',hs5,ho5⟩
  have hsm:=(SameC.refl [(gN,1)] W4).drew.trans (SameC.of_only ho5 (by have:=hD0.lt; have:=hD0.hgx; simp; omega))
  have hD5:=hD0.draw hs5 ((Only.refl a W4).drew.trans ho5)
  clear hD0 hs5 ho5 p0 p1 p2 p3 pf pl
  have e2:IntKind.i64.wrap (x.hour-2-x6)=x.hour-2-x6:=IntWalk.i64_in _ (by omega)
  go_wp2_with fail
  refine ⟨hsm,?_⟩
  repeat (go_big_quiet_step (fail))
  refine wpQuiet_nil ?_
  generalize (if fr<x.hour-2-x6 then x.hour-2-x6 else fr)=s6
  have p0:=hD5.var.cell 0
  have p1:=hD5.var.cell 1
  have p2:=hD5.var.cell 2
  have p3:=hD5.var.cell 3
  simp [Nomination.cells] at p0 p1 p2 p3
  have pf:=hD5.var.frozen
  have pl:=hD5.var.lt
  have hne5:=hD5.hne
  have hD6:=hD5.set 2 (.int .i64 s6) (x':=⟨x.contract,x.hour,s6,x.amount⟩) rfl
  go_wp2_with fail
  refine ⟨hsm.setCell (by simp) _,wpQuiet_nil ?_⟩
  obtain ⟨W6,HW6⟩:∃W6,Hid (w5.setCell ⟨gN,2,none⟩ (.int .i64 s6)=W6):=⟨_,hide rfl⟩
  rw [HW6.out] at hD6 ⊢
  obtain ⟨x',hxe⟩:∃x':Nomination,(⟨x.contract,x.hour,s6,x.amount⟩:Nomination)=x':=⟨_,rfl⟩
  have hxh': -3000000≤x'.hour∧x'.hour≤3000000:=by rw [←hxe]; exact hxh
  rw [hxe] at hD6
  clear hxe hxh hsm hD5 p0 p1 p2 p3 pf pl e1 e2
  have r0:=hD6.con.cell 0
  have r1:=hD6.con.cell 1
  have r2:=hD6.con.cell 2
  have r3:=hD6.con.cell 3
  have r4:=hD6.con.cell 4
  have r5:=hD6.con.cell 5
  have r6:=hD6.con.cell 6
  have r7:=hD6.con.cell 7
  simp [Contract.cells] at r0 r1 r2 r3 r4 r5 r6 r7
  have rl:=hD6.con.lt
  have p0:=hD6.var.cell 0
  have p1:=hD6.var.cell 1
  have p2:=hD6.var.cell 2
  have p3:=hD6.var.cell 3
  simp [Nomination.cells] at p0 p1 p2 p3
  have pf:=hD6.var.frozen
  have pl:=hD6.var.lt
  have e1:IntKind.i64.wrap (y.amount+1)=y.amount+1:=IntWalk.i64_in _ (by omega)
  obtain ⟨mm2,hmx,hmx1,hmx2⟩:∃mm2:Int,(if (1:Int)<y.amount+1 then y.amount+1 else 1)=mm2∧1≤mm2∧mm2≤3000000:=⟨_,rfl,by split <;> omega,by split <;> omega⟩
  go_wp2_with fail
  refine (c_next mm2 hD6.src (by omega) (by omega)).mono ?_
  rintro e w7 ⟨x7,rfl,hx7,hx7',hs7,ho7⟩
  have hD7:=hD6.draw hs7 ho7
  clear hD6 hs7 ho7 p0 p1 p2 p3 pf pl r0 r1 r2 r3 r4 r5 r6 r7 rl hmx e1
  have p0:=hD7.var.cell 0
  have p1:=hD7.var.cell 1
  have p2:=hD7.var.cell 2
  have p3:=hD7.var.cell 3
  simp [Nomination.cells] at p0 p1 p2 p3
  have pf:=hD7.var.frozen
  have pl:=hD7.var.lt
  have hD8:=hD7.set 3 (.int .i64 x7) (x':=⟨x'.contract,x'.hour,x'.sent,x7⟩) rfl
  clear hD7
  go_wp2_with fail
  refine (c_next 40 hD8.src (by omega) (by omega)).mono ?_
  rintro e w11 ⟨x9,rfl,hx9,hx9',hs9,ho9⟩
  have hD9:=hD8.draw hs9 ho9
  obtain ⟨q,hqe⟩:∃q:Nomination,(⟨x'.contract,x'.hour,x'.sent,x7⟩:Nomination)=q:=⟨_,rfl⟩
  have hqh: -3000000≤q.hour∧q.hour≤3000000:=by rw [←hqe]; exact hxh'
  rw [hqe] at hD9
  have hD:=hD9
  clear hqe hxh' hD8 hD9 hs9 ho9 p0 p1 p2 p3 pf pl hx7 hx7' hmx1 hmx2
  by_cases h0:x9=0
  ·subst h0
   have hDm:=hD.more (Ext.alloc w11 (.cells #[.int .i64 (-1),.int .i64 m] 2))
   have hal11:=hD.src.lt
   go_wp2_with fail
   refine (c_next 2 hDm.src (by omega) (by omega)).mono ?_
   rintro e w12 ⟨jj,rfl,hy0,hy1,hs12,ho12⟩
   have hD12:=hDm.draw hs12 ho12
   have hR12:=(Row.new w11 2 [.int .i64 (-1),.int .i64 m]).only ho12 (by omega)
   obtain ⟨j,rfl⟩:=Int.eq_ofNat_of_zero_le hy0
   have hj:j<2:=by omega
   obtain ⟨z,hz⟩:∃z:Int,w12.cell? ⟨w11.heap.size,j,none⟩=some (.int .i64 z):=by
    rw [hR12.cell]; rcases (show j=0∨j=1 by omega) with rfl | rfl <;> exact ⟨_,rfl⟩
   have hb12:=hR12.lt
   have hD13:=hD12.set 0 (.int .i64 z) (x':=⟨z,q.hour,q.sent,q.amount⟩) rfl
   have r0:=hD12.var.cell 0
   have r1:=hD12.var.cell 1
   have r2:=hD12.var.cell 2
   have r3:=hD12.var.cell 3
   simp [Nomination.cells] at r0 r1 r2 r3
   have rf:=hD12.var.frozen
   have rl:=hD12.var.lt
   clear hDm hD12 hR12 hs12 ho12 hD
   have t0:=hD13.var.cell 0
   have t1:=hD13.var.cell 1
   have t2:=hD13.var.cell 2
   have t3:=hD13.var.cell 3
   simp [Nomination.cells] at t0 t1 t2 t3
   have tf:=hD13.var.frozen
   have tl:=hD13.var.lt
   have q0:=hD13.res.cell 0
   have q1:=hD13.res.cell 1
   have q2:=hD13.res.cell 2
   have q3:=hD13.res.cell 3
   simp at q0 q1 q2 q3
   have qf:=hD13.res.frozen
   have ql:=hD13.res.lt
   have HF:=hide hD13.fin
   clear hD13
   go_wp2_with fail
   refine bodyPost_ret (v:= .agg #[.int .i64 (⟨z,q.hour,q.sent,q.amount⟩:Nomination).contract,.int .i64 (⟨z,q.hour,q.sent,q.amount⟩:Nomination).hour,.int .i64 (⟨z,q.hour,q.sent,q.amount⟩:Nomination).sent,.int .i64 (⟨z,q.hour,q.sent,q.amount⟩:Nomination).amount]) (by simp [results,Tryz.results112,go_sem,q0,q1,q2,q3]) rfl ?_
   exact HF.out
  have b0:(x9==0)=false:=by rw [beq_eq_false_iff_ne]; exact h0
  by_cases h1:x9=1
  ·subst h1
   have e5:IntKind.i64.wrap (y.stop+1)=y.stop+1:=IntWalk.i64_in _ (by omega)
   have p0:=hD.con.cell 0
   have p1:=hD.con.cell 1
   have p2:=hD.con.cell 2
   have p3:=hD.con.cell 3
   have p4:=hD.con.cell 4
   have p5:=hD.con.cell 5
   have p6:=hD.con.cell 6
   have p7:=hD.con.cell 7
   simp [Contract.cells] at p0 p1 p2 p3 p4 p5 p6 p7
   have pl:=hD.con.lt
   go_wp2_with fail
   refine wp_region_phT [(w1.heap.size,6)] (.two [0,1,2,4] 3 (.one [] 5 (.one [6] 7 (.one [8] 9 (.last [])))) 5 (.one [] 3 (.one [6] 7 (.one [8] 9 (.last []))))) (by kernel_rfl) (by kernel_rfl) (by intro c a w d v h; cases d <;> exact h) ?_
   simp only [wpPhT,pickL,nthO]
   repeat (go_big_quiet_step (fail))
   refine wpQuiet_nil ?_
   refine ⟨?_,?_⟩
   ·have hDA:=hD.more ((Ext.alloc w11 (.cells #[.int .i64 (-1),.int .i64 (y.stop+1),.int .i64 48] 2)).drew)
    have hR:=(Row.new w11 2 [.int .i64 (-1),.int .i64 (y.stop+1),.int .i64 48]).drew
    have hal3:=hD.src.lt
    have hv3:=hD.var.lt
    have hc3:=hD.con.lt
    have hgg:=hD.hgx
    have hgg2:=hD.hgc
    go_wp2_with fail
    refine ⟨SameC.of_ext ((Ext.alloc _ _).drew) (by simp; omega),wpQuiet_nil ?_⟩
    go_wp2_with fail
    refine (c_next 3 hDA.src (by omega) (by omega)).mono ?_
    rintro e w12 ⟨jj,rfl,hy0,hy1,hs12,ho12⟩
    have hD12:=hDA.draw hs12 ho12
    have hR12:=hR.only ho12 (by omega)
    obtain ⟨j,rfl⟩:=Int.eq_ofNat_of_zero_le hy0
    have hj:j<3:=by omega
    obtain ⟨z,hz⟩:∃z:Int,w12.cell? ⟨w11.heap.size,j,none⟩=some (.int .i64 z):=by
     rw [hR12.cell]; rcases (show j=0∨j=1∨j=2 by omega) with rfl | rfl | rfl <;> exact ⟨_,rfl⟩
    have hsm:SameC [(w1.heap.size,6)] w11 w12:=(SameC.of_ext (Ext.alloc w11 (.cells #[.int .i64 (-1),.int .i64 (y.stop+1),.int .i64 48] 2)).drew (by simp; omega)).trans (SameC.of_only ho12 (by simp; omega))
    have hb12:=hR12.lt
    have hD13:=hD12.set 1 (.int .i64 z) (x':=⟨q.contract,z,q.sent,q.amount⟩) rfl
    have hne13:=hD12.hne
    have rf:=hD12.var.frozen
    have rl:=hD12.var.lt
    obtain ⟨uu,huu⟩:∃u,w12.cell? ⟨gN,1,none⟩=some u:=⟨_,hD12.var.cell 1⟩
    clear hDA hD12 hR12 hs12 ho12 hD
    go_wp2_with fail
    refine ⟨hsm,?_⟩
    repeat (go_big_quiet_step (fail))
    refine wpQuiet_nil ?_
    go_wp2_with fail
    refine ⟨hsm,?_⟩
    repeat (go_big_quiet_step (fail))
    refine wpQuiet_nil ?_
    go_wp2_with fail
    refine ⟨hsm.setCell (by first | (simp; done) | (simp; omega)) _,?_⟩
    repeat (go_big_quiet_step (fail))
    refine wpQuiet_nil ?_
    clear hsm hz
    have t0:=hD13.var.cell 0
    have t1:=hD13.var.cell 1
    have t2:=hD13.var.cell 2
    have t3:=hD13.var.cell 3
    simp [Nomination.cells] at t0 t1 t2 t3
    have tf:=hD13.var.frozen
    have tl:=hD13.var.lt
    have q0:=hD13.res.cell 0
    have q1:=hD13.res.cell 1
    have q2:=hD13.res.cell 2
    have q3:=hD13.res.cell 3
    simp at q0 q1 q2 q3
    have qf:=hD13.res.frozen
    have ql:=hD13.res.lt
    have HF:=hide hD13.fin
    clear hD13
    go_wp2_with fail
    refine bodyPost_ret (v:= .agg #[.int .i64 (⟨q.contract,z,q.sent,q.amount⟩:Nomination).contract,.int .i64 (⟨q.contract,z,q.sent,q.amount⟩:Nomination).hour,.int .i64 (⟨q.contract,z,q.sent,q.amount⟩:Nomination).sent,.int .i64 (⟨q.contract,z,q.sent,q.amount⟩:Nomination).amount]) (by simp [results,Tryz.results112,go_sem,q0,q1,q2,q3]) rfl ?_
    exact HF.out
   ·have hDA:=hD.more (Ext.refl w11).drew
    have hal3:=hD.src.lt
    have hv3:=hD.var.lt
    have hc3:=hD.con.lt
    have hgg:=hD.hgx
    have hgg2:=hD.hgc
    go_wp2_with fail
    refine (c_next 3 hDA.src (by omega) (by omega)).mono ?_
    rintro e w12' ⟨jj,rfl,hy0,hy1,hs12,ho12⟩
    have hD12':=hDA.draw hs12 ho12
    obtain ⟨j,rfl⟩:=Int.eq_ofNat_of_zero_le hy0
    have hj:j<3:=by omega
    have hR12:=Row.new w12' 2 [.int .i64 (-1),.int .i64 (y.stop+1),.int .i64 48]
    have hD12:=hD12'.more (Ext.alloc w12' (.cells #[.int .i64 (-1),.int .i64 (y.stop+1),.int .i64 48] 2))
    have hsz:w11.heap.size≤w12'.heap.size:=ho12.size
    have hsm0:SameC [(w1.heap.size,6)] w11 w12':=(SameC.refl _ w11).drew.trans (SameC.of_only ho12 (by simp; omega))
    have hsm:SameC [(w1.heap.size,6)] w11 (w12'.alloc (.cells #[.int .i64 (-1),.int .i64 (y.stop+1),.int .i64 48] 2)):=hsm0.trans (SameC.of_ext (Ext.alloc _ _) (by simp; omega))
    go_wp2_with fail
    refine ⟨hsm0,wpQuiet_nil ?_⟩
    go_wp2_with fail
    obtain ⟨w12,HW12⟩:∃w12,Hid (w12'.alloc (.cells #[.int .i64 (-1),.int .i64 (y.stop+1),.int .i64 48] 2)=w12):=⟨_,hide rfl⟩
    rw [HW12.out] at hR12 hD12 hsm ⊢
    obtain ⟨z,hz⟩:∃z:Int,w12.cell? ⟨w12'.heap.size,j,none⟩=some (.int .i64 z):=by
     rw [hR12.cell]; rcases (show j=0∨j=1∨j=2 by omega) with rfl | rfl | rfl <;> exact ⟨_,rfl⟩
    have hb12:=hR12.lt
    clear hD12' hsm0 hsz
    have hD13:=hD12.set 1 (.int .i64 z) (x':=⟨q.contract,z,q.sent,q.amount⟩) rfl
    have hne13:=hD12.hne
    have rf:=hD12.var.frozen
    have rl:=hD12.var.lt
    obtain ⟨uu,huu⟩:∃u,w12.cell? ⟨gN,1,none⟩=some u:=⟨_,hD12.var.cell 1⟩
    clear hDA hD12 hR12 hs12 ho12 hD
    go_wp2_with fail
    refine ⟨hsm,?_⟩
    repeat (go_big_quiet_step (fail))
    refine wpQuiet_nil ?_
    go_wp2_with fail
    refine ⟨hsm,?_⟩
    repeat (go_big_quiet_step (fail))
    refine wpQuiet_nil ?_
    go_wp2_with fail
    refine ⟨hsm.setCell (by first | (simp; done) | (simp; omega)) _,?_⟩
    repeat (go_big_quiet_step (fail))
    refine wpQuiet_nil ?_
    clear hsm hz
    have t0:=hD13.var.cell 0
    have t1:=hD13.var.cell 1
    have t2:=hD13.var.cell 2
    have t3:=hD13.var.cell 3
    simp [Nomination.cells] at t0 t1 t2 t3
    have tf:=hD13.var.frozen
    have tl:=hD13.var.lt
    have q0:=hD13.res.cell 0
    have q1:=hD13.res.cell 1
    have q2:=hD13.res.cell 2
    have q3:=hD13.res.cell 3
    simp at q0 q1 q2 q3
    have qf:=hD13.res.frozen
    have ql:=hD13.res.lt
    have HF:=hide hD13.fin
    clear hD13
    go_wp2_with fail
    refine bodyPost_ret (v:= .agg #[.int .i64 (⟨q.contract,z,q.sent,q.amount⟩:Nomination).contract,.int .i64 (⟨q.contract,z,q.sent,q.amount⟩:Nomination).hour,.int .i64 (⟨q.contract,z,q.sent,q.amount⟩:Nomination).sent,.int .i64 (⟨q.contract,z,q.sent,q.amount⟩:Nomination).amount]) (by simp [results,Tryz.results112,go_sem,q0,q1,q2,q3]) rfl ?_
    exact HF.out
  have b1:(x9==1)=false:=by rw [beq_eq_false_iff_ne]; exact h1
  by_cases h2:x9=2
  ·subst h2
   have e5:IntKind.i64.wrap (q.hour-1)=q.hour-1:=IntWalk.i64_in _ (by omega)
   have e6:IntKind.i64.wrap (q.hour-2)=q.hour-2:=IntWalk.i64_in _ (by omega)
   have p0:=hD.var.cell 0
   have p1:=hD.var.cell 1
   have p2:=hD.var.cell 2
   have p3:=hD.var.cell 3
   simp [Nomination.cells] at p0 p1 p2 p3
   have pf:=hD.var.frozen
   have pl:=hD.var.lt
   go_wp2_with fail
   refine wp_region_phT [(gN,1)] (.two [0,1,2,3,4,5,7] 6 (.one [] 8 (.one [9] 10 (.one [11] 12 (.last [])))) 8 (.one [] 6 (.one [9] 10 (.one [11] 12 (.last []))))) (by kernel_rfl) (by kernel_rfl) (by intro c a w d v h; cases d <;> exact h) ?_
   simp only [wpPhT,pickL,nthO]
   repeat (go_big_quiet_step (fail))
   refine wpQuiet_nil ?_
   refine ⟨?_,?_⟩
   ·have hDA:=hD.more ((Ext.alloc w11 (.cells #[.int .i64 (q.hour-1),.int .i64 (q.hour-2),.int .i64 (-48),.int .i64 (-49)] 2)).drew)
    have hR:=(Row.new w11 2 [.int .i64 (q.hour-1),.int .i64 (q.hour-2),.int .i64 (-48),.int .i64 (-49)]).drew
    have hal3:=hD.src.lt
    have hv3:=hD.var.lt
    have hc3:=hD.con.lt
    have hgg:=hD.hgx
    have hgg2:=hD.hgc
    go_wp2_with fail
    refine ⟨SameC.of_ext ((Ext.alloc _ _).drew) (by simp; omega),wpQuiet_nil ?_⟩
    go_wp2_with fail
    refine (c_next 4 hDA.src (by omega) (by omega)).mono ?_
    rintro e w12 ⟨jj,rfl,hy0,hy1,hs12,ho12⟩
    have hD12:=hDA.draw hs12 ho12
    have hR12:=hR.only ho12 (by omega)
    obtain ⟨j,rfl⟩:=Int.eq_ofNat_of_zero_le hy0
    have hj:j<4:=by omega
    obtain ⟨z,hz⟩:∃z:Int,w12.cell? ⟨w11.heap.size,j,none⟩=some (.int .i64 z):=by
     rw [hR12.cell]; rcases (show j=0∨j=1∨j=2∨j=3 by omega) with rfl | rfl | rfl | rfl <;> exact ⟨_,rfl⟩
    have hsm:SameC [(gN,1)] w11 w12:=(SameC.of_ext (Ext.alloc w11 (.cells #[.int .i64 (q.hour-1),.int .i64 (q.hour-2),.int .i64 (-48),.int .i64 (-49)] 2)).drew (by simp; omega)).trans (SameC.of_only ho12 (by simp; omega))
    have hb12:=hR12.lt
    have hD13:=hD12.set 2 (.int .i64 z) (x':=⟨q.contract,q.hour,z,q.amount⟩) rfl
    have hne13:=hD12.hne
    have rf:=hD12.var.frozen
    have rl:=hD12.var.lt
    obtain ⟨uu,huu⟩:∃u,w12.cell? ⟨gN,2,none⟩=some u:=⟨_,hD12.var.cell 2⟩
    clear hDA hD12 hR12 hs12 ho12 hD
    go_wp2_with fail
    refine ⟨hsm,?_⟩
    repeat (go_big_quiet_step (fail))
    refine wpQuiet_nil ?_
    go_wp2_with fail
    refine ⟨hsm,?_⟩
    repeat (go_big_quiet_step (fail))
    refine wpQuiet_nil ?_
    go_wp2_with fail
    refine ⟨hsm.setCell (by first | (simp; done) | (simp; omega)) _,?_⟩
    repeat (go_big_quiet_step (fail))
    refine wpQuiet_nil ?_
    clear hsm hz
    have t0:=hD13.var.cell 0
    have t1:=hD13.var.cell 1
    have t2:=hD13.var.cell 2
    have t3:=hD13.var.cell 3
    simp [Nomination.cells] at t0 t1 t2 t3
    have tf:=hD13.var.frozen
    have tl:=hD13.var.lt
    have q0:=hD13.res.cell 0
    have q1:=hD13.res.cell 1
    have q2:=hD13.res.cell 2
    have q3:=hD13.res.cell 3
    simp at q0 q1 q2 q3
    have qf:=hD13.res.frozen
    have ql:=hD13.res.lt
    have HF:=hide hD13.fin
    clear hD13
    go_wp2_with fail
    refine bodyPost_ret (v:= .agg #[.int .i64 (⟨q.contract,q.hour,z,q.amount⟩:Nomination).contract,.int .i64 (⟨q.contract,q.hour,z,q.amount⟩:Nomination).hour,.int .i64 (⟨q.contract,q.hour,z,q.amount⟩:Nomination).sent,.int .i64 (⟨q.contract,q.hour,z,q.amount⟩:Nomination).amount]) (by simp [results,Tryz.results112,go_sem,q0,q1,q2,q3]) rfl ?_
    exact HF.out
   ·have hDA:=hD.more (Ext.refl w11).drew
    have hal3:=hD.src.lt
    have hv3:=hD.var.lt
    have hc3:=hD.con.lt
    have hgg:=hD.hgx
    have hgg2:=hD.hgc
    go_wp2_with fail
    refine (c_next 4 hDA.src (by omega) (by omega)).mono ?_
    rintro e w12' ⟨jj,rfl,hy0,hy1,hs12,ho12⟩
    have hD12':=hDA.draw hs12 ho12
    obtain ⟨j,rfl⟩:=Int.eq_ofNat_of_zero_le hy0
    have hj:j<4:=by omega
    have hR12:=Row.new w12' 2 [.int .i64 (q.hour-1),.int .i64 (q.hour-2),.int .i64 (-48),.int .i64 (-49)]
    have hD12:=hD12'.more (Ext.alloc w12' (.cells #[.int .i64 (q.hour-1),.int .i64 (q.hour-2),.int .i64 (-48),.int .i64 (-49)] 2))
    have hsz:w11.heap.size≤w12'.heap.size:=ho12.size
    have hsm0:SameC [(gN,1)] w11 w12':=(SameC.refl _ w11).drew.trans (SameC.of_only ho12 (by simp; omega))
    have hsm:SameC [(gN,1)] w11 (w12'.alloc (.cells #[.int .i64 (q.hour-1),.int .i64 (q.hour-2),.int .i64 (-48),.int .i64 (-49)] 2)):=hsm0.trans (SameC.of_ext (Ext.alloc _ _) (by simp; omega))
    go_wp2_with fail
    refine ⟨hsm0,wpQuiet_nil ?_⟩
    go_wp2_with fail
    obtain ⟨w12,HW12⟩:∃w12,Hid (w12'.alloc (.cells #[.int .i64 (q.hour-1),.int .i64 (q.hour-2),.int .i64 (-48),.int .i64 (-49)] 2)=w12):=⟨_,hide rfl⟩
    rw [HW12.out] at hR12 hD12 hsm ⊢
    obtain ⟨z,hz⟩:∃z:Int,w12.cell? ⟨w12'.heap.size,j,none⟩=some (.int .i64 z):=by
     rw [hR12.cell]; rcases (show j=0∨j=1∨j=2∨j=3 by omega) with rfl | rfl | rfl | rfl <;> exact ⟨_,rfl⟩
    have hb12:=hR12.lt
    clear hD12' hsm0 hsz
    have hD13:=hD12.set 2 (.int .i64 z) (x':=⟨q.contract,q.hour,z,q.amount⟩) rfl
    have hne13:=hD12.hne
    have rf:=hD12.var.frozen
    have rl:=hD12.var.lt
    obtain ⟨uu,huu⟩:∃u,w12.cell? ⟨gN,2,none⟩=some u:=⟨_,hD12.var.cell 2⟩
    clear hDA hD12 hR12 hs12 ho12 hD
    go_wp2_with fail
    refine ⟨hsm,?_⟩
    repeat (go_big_quiet_step (fail))
    refine wpQuiet_nil ?_
    go_wp2_with fail
    refine ⟨hsm,?_⟩
    repeat (go_big_quiet_step (fail))
    refine wpQuiet_nil ?_
    go_wp2_with fail
    refine ⟨hsm.setCell (by first | (simp; done) | (simp; omega)) _,?_⟩
    repeat (go_big_quiet_step (fail))
    refine wpQuiet_nil ?_
    clear hsm hz
    have t0:=hD13.var.cell 0
    have t1:=hD13.var.cell 1
    have t2:=hD13.var.cell 2
    have t3:=hD13.var.cell 3
    simp [Nomination.cells] at t0 t1 t2 t3
    have tf:=hD13.var.frozen
    have tl:=hD13.var.lt
    have q0:=hD13.res.cell 0
    have q1:=hD13.res.cell 1
    have q2:=hD13.res.cell 2
    have q3:=hD13.res.cell 3
    simp at q0 q1 q2 q3
    have qf:=hD13.res.frozen
    have ql:=hD13.res.lt
    have HF:=hide hD13.fin
    clear hD13
    go_wp2_with fail
    refine bodyPost_ret (v:= .agg #[.int .i64 (⟨q.contract,q.hour,z,q.amount⟩:Nomination).contract,.int .i64 (⟨q.contract,q.hour,z,q.amount⟩:Nomination).hour,.int .i64 (⟨q.contract,q.hour,z,q.amount⟩:Nomination).sent,.int .i64 (⟨q.contract,q.hour,z,q.amount⟩:Nomination).amount]) (by simp [results,Tryz.results112,go_sem,q0,q1,q2,q3]) rfl ?_
    exact HF.out
  have b2:(x9==2)=false:=by rw [beq_eq_false_iff_ne]; exact h2
  by_cases h3:x9=3
  ·subst h3
   have e5:IntKind.i64.wrap (y.amount+1)=y.amount+1:=IntWalk.i64_in _ (by omega)
   have p0:=hD.con.cell 0
   have p1:=hD.con.cell 1
   have p2:=hD.con.cell 2
   have p3:=hD.con.cell 3
   have p4:=hD.con.cell 4
   have p5:=hD.con.cell 5
   have p6:=hD.con.cell 6
   have p7:=hD.con.cell 7
   simp [Contract.cells] at p0 p1 p2 p3 p4 p5 p6 p7
   have pl:=hD.con.lt
   go_wp2_with fail
   refine wp_region_phT [(w1.heap.size,3)] (.two [0,1,2,3,4,6] 5 (.one [] 7 (.one [8] 9 (.one [10] 11 (.last [])))) 7 (.one [] 5 (.one [8] 9 (.one [10] 11 (.last []))))) (by kernel_rfl) (by kernel_rfl) (by intro c a w d v h; cases d <;> exact h) ?_
   simp only [wpPhT,pickL,nthO]
   repeat (go_big_quiet_step (fail))
   refine wpQuiet_nil ?_
   refine ⟨?_,?_⟩
   ·have hDA:=hD.more ((Ext.alloc w11 (.cells #[.int .i64 (-1),.int .i64 y.amount,.int .i64 (y.amount+1)] 2)).drew)
    have hR:=(Row.new w11 2 [.int .i64 (-1),.int .i64 y.amount,.int .i64 (y.amount+1)]).drew
    have hal3:=hD.src.lt
    have hv3:=hD.var.lt
    have hc3:=hD.con.lt
    have hgg:=hD.hgx
    have hgg2:=hD.hgc
    go_wp2_with fail
    refine ⟨SameC.of_ext ((Ext.alloc _ _).drew) (by simp; omega),wpQuiet_nil ?_⟩
    go_wp2_with fail
    refine (c_next 3 hDA.src (by omega) (by omega)).mono ?_
    rintro e w12 ⟨jj,rfl,hy0,hy1,hs12,ho12⟩
    have hD12:=hDA.draw hs12 ho12
    have hR12:=hR.only ho12 (by omega)
    obtain ⟨j,rfl⟩:=Int.eq_ofNat_of_zero_le hy0
    have hj:j<3:=by omega
    obtain ⟨z,hz⟩:∃z:Int,w12.cell? ⟨w11.heap.size,j,none⟩=some (.int .i64 z):=by
     rw [hR12.cell]; rcases (show j=0∨j=1∨j=2 by omega) with rfl | rfl | rfl <;> exact ⟨_,rfl⟩
    have hsm:SameC [(w1.heap.size,3)] w11 w12:=(SameC.of_ext (Ext.alloc w11 (.cells #[.int .i64 (-1),.int .i64 y.amount,.int .i64 (y.amount+1)] 2)).drew (by simp; omega)).trans (SameC.of_only ho12 (by simp; omega))
    have hb12:=hR12.lt
    have hD13:=hD12.set 3 (.int .i64 z) (x':=⟨q.contract,q.hour,q.sent,z⟩) rfl
    have hne13:=hD12.hne
    have rf:=hD12.var.frozen
    have rl:=hD12.var.lt
    obtain ⟨uu,huu⟩:∃u,w12.cell? ⟨gN,3,none⟩=some u:=⟨_,hD12.var.cell 3⟩
    clear hDA hD12 hR12 hs12 ho12 hD
    go_wp2_with fail
    refine ⟨hsm,?_⟩
    repeat (go_big_quiet_step (fail))
    refine wpQuiet_nil ?_
    go_wp2_with fail
    refine ⟨hsm,?_⟩
    repeat (go_big_quiet_step (fail))
    refine wpQuiet_nil ?_
    go_wp2_with fail
    refine ⟨hsm.setCell (by first | (simp; done) | (simp; omega)) _,?_⟩
    repeat (go_big_quiet_step (fail))
    refine wpQuiet_nil ?_
    clear hsm hz
    have t0:=hD13.var.cell 0
    have t1:=hD13.var.cell 1
    have t2:=hD13.var.cell 2
    have t3:=hD13.var.cell 3
    simp [Nomination.cells] at t0 t1 t2 t3
    have tf:=hD13.var.frozen
    have tl:=hD13.var.lt
    have q0:=hD13.res.cell 0
    have q1:=hD13.res.cell 1
    have q2:=hD13.res.cell 2
    have q3:=hD13.res.cell 3
    simp at q0 q1 q2 q3
    have qf:=hD13.res.frozen
    have ql:=hD13.res.lt
    have HF:=hide hD13.fin
    clear hD13
    go_wp2_with fail
    refine bodyPost_ret (v:= .agg #[.int .i64 (⟨q.contract,q.hour,q.sent,z⟩:Nomination).contract,.int .i64 (⟨q.contract,q.hour,q.sent,z⟩:Nomination).hour,.int .i64 (⟨q.contract,q.hour,q.sent,z⟩:Nomination).sent,.int .i64 (⟨q.contract,q.hour,q.sent,z⟩:Nomination).amount]) (by simp [results,Tryz.results112,go_sem,q0,q1,q2,q3]) rfl ?_
    exact HF.out
   ·have hDA:=hD.more (Ext.refl w11).drew
    have hal3:=hD.src.lt
    have hv3:=hD.var.lt
    have hc3:=hD.con.lt
    have hgg:=hD.hgx
    have hgg2:=hD.hgc
    go_wp2_with fail
    refine (c_next 3 hDA.src (by omega) (by omega)).mono ?_
    rintro e w12' ⟨jj,rfl,hy0,hy1,hs12,ho12⟩
    have hD12':=hDA.draw hs12 ho12
    obtain ⟨j,rfl⟩:=Int.eq_ofNat_of_zero_le hy0
    have hj:j<3:=by omega
    have hR12:=Row.new w12' 2 [.int .i64 (-1),.int .i64 y.amount,.int .i64 (y.amount+1)]
    have hD12:=hD12'.more (Ext.alloc w12' (.cells #[.int .i64 (-1),.int .i64 y.amount,.int .i64 (y.amount+1)] 2))
    have hsz:w11.heap.size≤w12'.heap.size:=ho12.size
    have hsm0:SameC [(w1.heap.size,3)] w11 w12':=(SameC.refl _ w11).drew.trans (SameC.of_only ho12 (by simp; omega))
    have hsm:SameC [(w1.heap.size,3)] w11 (w12'.alloc (.cells #[.int .i64 (-1),.int .i64 y.amount,.int .i64 (y.amount+1)] 2)):=hsm0.trans (SameC.of_ext (Ext.alloc _ _) (by simp; omega))
    go_wp2_with fail
    refine ⟨hsm0,wpQuiet_nil ?_⟩
    go_wp2_with fail
    obtain ⟨w12,HW12⟩:∃w12,Hid (w12'.alloc (.cells #[.int .i64 (-1),.int .i64 y.amount,.int .i64 (y.amount+1)] 2)=w12):=⟨_,hide rfl⟩
    rw [HW12.out] at hR12 hD12 hsm ⊢
    obtain ⟨z,hz⟩:∃z:Int,w12.cell? ⟨w12'.heap.size,j,none⟩=some (.int .i64 z):=by
     rw [hR12.cell]; rcases (show j=0∨j=1∨j=2 by omega) with rfl | rfl | rfl <;> exact ⟨_,rfl⟩
    have hb12:=hR12.lt
    clear hD12' hsm0 hsz
    have hD13:=hD12.set 3 (.int .i64 z) (x':=⟨q.contract,q.hour,q.sent,z⟩) rfl
    have hne13:=hD12.hne
    have rf:=hD12.var.frozen
    have rl:=hD12.var.lt
    obtain ⟨uu,huu⟩:∃u,w12.cell? ⟨gN,3,none⟩=some u:=⟨_,hD12.var.cell 3⟩
    clear hDA hD12 hR12 hs12 ho12 hD
    go_wp2_with fail
    refine ⟨hsm,?_⟩
    repeat (go_big_quiet_step (fail))
    refine wpQuiet_nil ?_
    go_wp2_with fail
    refine ⟨hsm,?_⟩
    repeat (go_big_quiet_step (fail))
    refine wpQuiet_nil ?_
    go_wp2_with fail
    refine ⟨hsm.setCell (by first | (simp; done) | (simp; omega)) _,?_⟩
    repeat (go_big_quiet_step (fail))
    refine wpQuiet_nil ?_
    clear hsm hz
    have t0:=hD13.var.cell 0
    have t1:=hD13.var.cell 1
    have t2:=hD13.var.cell 2
    have t3:=hD13.var.cell 3
    simp [Nomination.cells] at t0 t1 t2 t3
    have tf:=hD13.var.frozen
    have tl:=hD13.var.lt
    have q0:=hD13.res.cell 0
    have q1:=hD13.res.cell 1
    have q2:=hD13.res.cell 2
    have q3:=hD13.res.cell 3
    simp at q0 q1 q2 q3
    have qf:=hD13.res.frozen
    have ql:=hD13.res.lt
    have HF:=hide hD13.fin
    clear hD13
    go_wp2_with fail
    refine bodyPost_ret (v:= .agg #[.int .i64 (⟨q.contract,q.hour,q.sent,z⟩:Nomination).contract,.int .i64 (⟨q.contract,q.hour,q.sent,z⟩:Nomination).hour,.int .i64 (⟨q.contract,q.hour,q.sent,z⟩:Nomination).sent,.int .i64 (⟨q.contract,q.hour,q.sent,z⟩:Nomination).amount]) (by simp [results,Tryz.results112,go_sem,q0,q1,q2,q3]) rfl ?_
    exact HF.out
  have b3:(x9==3)=false:=by rw [beq_eq_false_iff_ne]; exact h3
  have t0:=hD.var.cell 0
  have t1:=hD.var.cell 1
  have t2:=hD.var.cell 2
  have t3:=hD.var.cell 3
  simp [Nomination.cells] at t0 t1 t2 t3
  have tf:=hD.var.frozen
  have tl:=hD.var.lt
  have q0:=hD.res.cell 0
  have q1:=hD.res.cell 1
  have q2:=hD.res.cell 2
  have q3:=hD.res.cell 3
  simp at q0 q1 q2 q3
  have qf:=hD.res.frozen
  have ql:=hD.res.lt
  have HF:=hide hD.fin
  clear hD
  go_wp2_with fail
  refine bodyPost_ret (v:= .agg #[.int .i64 q.contract,.int .i64 q.hour,.int .i64 q.sent,.int .i64 q.amount]) (by simp [results,Tryz.results112,go_sem,q0,q1,q2,q3]) rfl ?_
  exact HF.out
end
end Go.Proofs.YtinindjjapblcaaGreatDoor
