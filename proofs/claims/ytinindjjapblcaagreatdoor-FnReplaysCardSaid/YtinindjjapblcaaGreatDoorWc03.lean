/-
  The reference's draw of a network, a book and a journal's text.
-/
import Derived.Test.YtinindjjapblcaaGreatDoorWc02
import Derived.Test.YtinindjjapblcaaGreatDoorWc01
import Derived.Test.YtinindjjapblcaaGreatDoorWa01
namespace Go.Proofs.YtinindjjapblcaaGreatDoor
open Go.RowKit
open Go.Lib hiding intOf
def DrawnRpl (w:World) (e:Ending) (w':World):Prop:=
 ∃(A1 A2 A3:Option Addr) (c1 c2 c3:Nat) (ns:List Node) (ps:List Pipe) (xs:List Contract) (l:List UInt8),e= .returned (.tuple #[.agg #[.slice A1 ns.length c1,.slice A2 ps.length c2],.slice A3 xs.length c3,.string (mkB l)])∧
  SliceOf w' 3 Node.cells A1 ns.length c1 ns∧SliceOf w' 5 Pipe.cells A2 ps.length c2 ps∧SliceOf w' 8 Contract.cells A3 xs.length c3 xs∧ns.length≤7∧ps.length≤30∧xs.length≤40∧Short ns∧l.length≤20001∧Ext w w'
theorem ROwn.turnE {S:Nat→Prop} {w w':World} {lo hi:Nat} {A1 A2 A3 A4 A5:Option Addr} {n1 c1 n2 c2 n3 c3 n4 c4 n5 c5:Nat} {r:Room} (h:ROwn w lo hi A1 A2 A3 A4 A5 n1 c1 n2 c2 n3 c3 n4 c4 n5 c5 r) (k:Turn S w w') (hs:∀b,S b→∃cs,Row w b 54 cs):ROwn w' lo hi A1 A2 A3 A4 A5 n1 c1 n2 c2 n3 c3 n4 c4 n5 c5 r:=by
 have tag:∀ {α:Type} {t:TypeId} {f:α→List Value} {A:Option Addr} {n c:Nat} {xs:List α},OwnA w t f A n c xs→t≠54→∀b,blkOf A n=some b→¬S b:=fun ho ht b hb hS=>by
  obtain ⟨cs,hr⟩:=hs b hS
  exact ho.row_ne hr ht b hb rfl
 exact ⟨h.o1.turn k (tag h.o1 (by decide)),h.o2.turn k (tag h.o2 (by decide)),h.o3.turn k (tag h.o3 (by decide)),h.o4.turn k (tag h.o4 (by decide)),h.o5.turn k (tag h.o5 (by decide)),fun q hq=>(h.o6 q hq).turn k (tag (h.o6 q hq) (by decide)),h.ff,h.rr,h.fr,h.rf,h.rq⟩
section
variable {w0 w wr wr':World} {a n c gn gr lo hi lo' hi':Nat} {A A1 A2 A3 A4 A5 B1 B2 B3 B4 B5:Option Addr} {n1 c1 n2 c2 n3 c3 n4 c4 n5 c5 m1 d1 m2 d2 m3 d3 m4 d4 m5 d5:Nat} {r r':Room} {v1 v2 v3 v v':Value} {ns:List Node} {ps:List Pipe} {xs:List Contract} {es es':List Event}
theorem LRoom.turnE {S:Nat→Prop} (h:LRoom w lo hi A1 A2 A3 A4 A5 n1 c1 n2 c2 n3 c3 n4 c4 n5 c5 r) (k:Turn S w wr) (hs:∀b,S b→∃cs,Row w b 54 cs):LRoom wr lo hi A1 A2 A3 A4 A5 n1 c1 n2 c2 n3 c3 n4 c4 n5 c5 r:=
 ⟨h.own.turnE k hs,h.r5.turnT k (fun b hb hS=>by obtain ⟨cs,hr⟩:=hs b hS; exact h.r5.blk_ne hr (by decide) b hb rfl),fun q hq=>(h.r6 q hq).turnT k (fun b hb hS=>by obtain ⟨cs,hr⟩:=hs b hS; exact (h.r6 q hq).blk_ne hr (by decide) b hb rfl),h.sep2⟩
structure QSt (w0 w:World) (a:Nat) (A:Option Addr) (n c gn gr:Nat) (A1 A2 A3 A4 A5:Option Addr) (n1 c1 n2 c2 n3 c3 n4 c4 n5 c5:Nat) (r:Room) (v1 v2 v3:Value) (ns:List Node) (ps:List Pipe) (xs:List Contract) (v:Value) (es:List Event) (wr:World):Prop where
 lt:a<w.heap.size
 src:Src w0 wr a A n c
 only:Only a w wr
 var:Row wr gr 32 [.slice A1 n1 c1,.slice A2 n2 c2,.slice A3 n3 c3,.slice A4 n4 c4,.slice A5 n5 c5]
 hgr:w.heap.size≤gr
 room:LRoom wr w.heap.size wr.heap.size A1 A2 A3 A4 A5 n1 c1 n2 c2 n3 c3 n4 c4 n5 c5 r
 siz:SizR r
 net:Row wr gn 27 [v1,v2]
 hgn:w.heap.size≤gn
 nr:gn≠gr
 o1:OwnL wr w.heap.size 147 3 Node.cells v1 ns
 o2:OwnL wr w.heap.size 149 5 Pipe.cells v2 ps
 o3:OwnL wr w.heap.size 98 8 Contract.cells v3 xs
 ol:OwnL wr w.heap.size 54 5 Event.cells v es
theorem QSt.draw (h:QSt w0 w a A n c gn gr A1 A2 A3 A4 A5 n1 c1 n2 c2 n3 c3 n4 c4 n5 c5 r v1 v2 v3 ns ps xs v es wr) (hs:Src w0 wr' a A n c) (ho:Only a wr wr'):QSt w0 w a A n c gn gr A1 A2 A3 A4 A5 n1 c1 n2 c2 n3 c3 n4 c4 n5 c5 r v1 v2 v3 ns ps xs v es wr':=
 have hl:=h.lt
 have hg:=h.hgr
 have hn:=h.hgn
 ⟨hl,hs,h.only.trans ho,h.var.only ho (by omega),hg,(h.room.onlyA ho hl).wider (Nat.le_refl _) ho.size,h.siz,h.net.only ho (by omega),hn,h.nr,h.o1.only ho hl,h.o2.only ho hl,h.o3.only ho hl,h.ol.only ho hl⟩
theorem QSt.more (h:QSt w0 w a A n c gn gr A1 A2 A3 A4 A5 n1 c1 n2 c2 n3 c3 n4 c4 n5 c5 r v1 v2 v3 ns ps xs v es wr) (hx:Ext wr wr'):QSt w0 w a A n c gn gr A1 A2 A3 A4 A5 n1 c1 n2 c2 n3 c3 n4 c4 n5 c5 r v1 v2 v3 ns ps xs v es wr':=h.draw (h.src.more hx) (Only.of_ext hx a)
theorem QSt.next (h:QSt w0 w a A n c gn gr A1 A2 A3 A4 A5 n1 c1 n2 c2 n3 c3 n4 c4 n5 c5 r v1 v2 v3 ns ps xs v es wr) (hR:LRoom wr lo' hi' B1 B2 B3 B4 B5 m1 d1 m2 d2 m3 d3 m4 d4 m5 d5 r') (hlo:w.heap.size≤lo') (hhi:hi'≤wr.heap.size) (hs:SizR r'):
  QSt w0 w a A n c gn gr B1 B2 B3 B4 B5 m1 d1 m2 d2 m3 d3 m4 d4 m5 d5 r' v1 v2 v3 ns ps xs v es (((((wr.setCell ⟨gr,0,none⟩ (.slice B1 m1 d1)).setCell ⟨gr,1,none⟩ (.slice B2 m2 d2)).setCell ⟨gr,2,none⟩ (.slice B3 m3 d3)).setCell ⟨gr,3,none⟩ (.slice B4 m4 d4)).setCell ⟨gr,4,none⟩ (.slice B5 m5 d5)):=by
 have hl:=h.lt
 have hg:=h.hgr
 have hle:=h.src.le0
 have hnr:=h.nr
 have ho:=Only.five gr wr (.slice B1 m1 d1) (.slice B2 m2 d2) (.slice B3 m3 d3) (.slice B4 m4 d4) (.slice B5 m5 d5)
 have hT:=Turn.of_only (S:=fun b=>b=gr) ho (fun _=>rfl)
 have far:∀ {α:Type} {t:TypeId} {size:Nat} {f:α→List Value} {u:Value} {L:List α},OwnL wr w.heap.size t size f u L→32≠t→OwnL (((((wr.setCell ⟨gr,0,none⟩ (.slice B1 m1 d1)).setCell ⟨gr,1,none⟩ (.slice B2 m2 d2)).setCell ⟨gr,2,none⟩ (.slice B3 m3 d3)).setCell ⟨gr,3,none⟩ (.slice B4 m4 d4)).setCell ⟨gr,4,none⟩ (.slice B5 m5 d5)) w.heap.size t size f u L:=fun o ht=>o.turnT hT (fun b hb e=>by subst e; exact o.blk_ne h.var ht b hb rfl)
 exact ⟨hl,h.src.grow ho (fun k hk=>by simp at hk; omega),h.only.grown ho (fun k hk=>by simp at hk; omega),h.var.five,hg,(hR.turnR hT (fun b hb=>by subst hb; exact ⟨_,h.var⟩)).wider hlo (Nat.le_trans hhi ho.size),hs,h.net.only ho hnr,h.hgn,hnr,far h.o1 (by decide),far h.o2 (by decide),far h.o3 (by decide),far h.ol (by decide)⟩
theorem QSt.app (h:QSt w0 w a A n c gn gr A1 A2 A3 A4 A5 n1 c1 n2 c2 n3 c3 n4 c4 n5 c5 r v1 v2 v3 ns ps xs v es wr) (hg:wr.grownBy wr' v.ownBlock) (ho:OwnL wr' w.heap.size 54 5 Event.cells v' es'):QSt w0 w a A n c gn gr A1 A2 A3 A4 A5 n1 c1 n2 c2 n3 c3 n4 c4 n5 c5 r v1 v2 v3 ns ps xs v' es' wr':=by
 have hl:=h.lt
 have hle:=h.src.le0
 have rowE:∀b,v.ownBlock=some b→∃cs,Row wr b 54 cs:=fun b hb=>h.ol.row_at hb
 have T1:=Turn.of_grown hg
 have far:∀ {α:Type} {t:TypeId} {size:Nat} {f:α→List Value} {u:Value} {L:List α},OwnL wr w.heap.size t size f u L→54≠t→OwnL wr' w.heap.size t size f u L:=fun o ht=>o.turnT T1 (fun b hb hS=>by obtain ⟨cs,hr⟩:=rowE b hS; exact o.blk_ne hr ht b hb rfl)
 exact ⟨hl,h.src.grow hg (fun k hk=>by have:=h.ol.block_le hk; omega),h.only.grown hg (fun k hk=> .inl (by have:=h.ol.block_le hk; omega)),h.var.turn T1 (fun hS=>h.ol.blk_ne h.var (by decide) gr hS rfl),h.hgr,(h.room.turnE T1 rowE).wider (Nat.le_refl _) T1.size,h.siz,h.net.turn T1 (fun hS=>h.ol.blk_ne h.net (by decide) gn hS rfl),h.hgn,h.nr,far h.o1 (by decide),far h.o2 (by decide),far h.o3 (by decide),ho⟩
end
theorem c_drawTxt {w0 w:World} {a n c:Nat} {A:Option Addr} (h:Src w0 w a A n c):Calls Tryz.prog 59 #[.pointer (some ⟨a,0,none⟩)] w (fun e w'=>∃l:List UInt8,e= .returned (.string (mkB l))∧l.length≤20001∧Src w0 w' a A n c∧Only a w w'):=by
 obtain ⟨bs,hbs,hbd⟩:=h.code
 refine (c_l32DrawText a A n c bs w0 w hbs hbd h.ext h.le0 h.src h.hn).mono ?_
 rintro e w' ⟨l,rfl,hl,hs,ho⟩
 exact ⟨l,rfl,hl,h.draw ho hs,ho⟩
theorem DrawnRpl.mk {w0 w wr:World} {a n c:Nat} {A A1 A2 A3:Option Addr} {c1 c2 c3:Nat} {ns:List Node} {ps:List Pipe} {xs:List Contract} (hs:Src w0 wr a A n c) (hw:w0.heap.size<w.heap.size)
  (o1:OwnL wr w.heap.size 147 3 Node.cells (.slice A1 ns.length c1) ns) (o2:OwnL wr w.heap.size 149 5 Pipe.cells (.slice A2 ps.length c2) ps) (o3:OwnL wr w.heap.size 98 8 Contract.cells (.slice A3 xs.length c3) xs)
  (b1:ns.length≤7) (b2:ps.length≤30) (b3:xs.length≤40) (hn:Short ns) (l:List UInt8) (hl:l.length≤20001):
  DrawnRpl w0 (.returned (.tuple #[.agg #[.slice A1 ns.length c1,.slice A2 ps.length c2],.slice A3 xs.length c3,.string (mkB l)])) (putCells wr w0.heap.size 0 [.slice A1 ns.length c1,.slice A2 ps.length c2]):=
 ⟨A1,A2,A3,c1,c2,c3,ns,ps,xs,l,rfl,(((o1.farK (p:=⟨w0.heap.size,0,none⟩) hw _).farK (p:=⟨w0.heap.size,1,none⟩) hw _).slE node_len (by decide)),(((o2.farK (p:=⟨w0.heap.size,0,none⟩) hw _).farK (p:=⟨w0.heap.size,1,none⟩) hw _).slE pipe_len (by decide)),(((o3.farK (p:=⟨w0.heap.size,0,none⟩) hw _).farK (p:=⟨w0.heap.size,1,none⟩) hw _).slE contract_len (by decide)),b1,b2,b3,hn,hl,hs.ext.put (Nat.le_refl _) _ _⟩
set_option maxRecDepth 8000 in
set_option maxHeartbeats 8000000 in
theorem c_DrawReplayEvents (A:Option Addr) (n c:Nat) (bs:List Int) (w:World) (hbs:SliceOf w 1 byteC A n c bs) (hbd:∀z∈bs,0≤z∧z≤255) (hn:n≤1048576):
  Calls Tryz.prog 15 #[.slice A n c] w (DrawnRpl w):=by
 have HD:=hide hbd
 clear hbd
 have hR:=Row.new w 27 [.slice none 0 0,.slice none 0 0]
 have hx0:Ext w (w.alloc (.cells #[.slice none 0 0,.slice none 0 0] 27)):=Ext.alloc _ _
 go_enter Tryz.func15,Tryz.ntmps15
 go_wp2_with fail
 refine (c_l01From A n c bs _ (hbs.ext hx0) HD.out).mono ?_
 rintro e w1 ⟨a,rfl,ha,ha1,hs1,hx1⟩
 have hX1:=hx0.trans hx1
 have hz:w.heap.size+1≤a:=by simp at ha; omega
 have hS:Src w w1 a A n c:=⟨⟨bs,hbs,HD.out⟩,hn,by omega,hX1,hs1⟩
 have hR1:=hR.ext hx1
 have hal:=hS.lt
 have hw01:w.heap.size<w1.heap.size:=by omega
 clear hR hbs hs1 ha ha1
 go_wp2_with fail
 refine (c_l20Draw hS).mono ?_
 rintro e w2 ⟨v1,v2,v3,ns,ps,xs,rfl,hs2,ho2,o1,o2,o3,b1,b2,b3,hnm,hcs⟩
 have hR2:=hR1.only ho2 (by omega)
 replace o1:=o1.lowG (base':=w1.heap.size) (by omega)
 replace o2:=o2.lowG (base':=w1.heap.size) (by omega)
 replace o3:=o3.lowG (base':=w1.heap.size) (by omega)
 obtain ⟨A1,c1,rfl,h1⟩:=o1.sl node_len (by omega)
 obtain ⟨A2,c2,rfl,h2⟩:=o2.sl pipe_len (by omega)
 obtain ⟨A3,c3,rfl,h3⟩:=o3.sl contract_len (by omega)
 have HNM:=hide (show ∀x∈ns,x.name.size≤1048576 from fun x hx=>Nat.le_trans (hnm x hx) (by omega))
 have HSH:=hide hnm
 have HCS:=hide hcs
 have hz2:=ho2.size
 clear hnm hcs hS
 have hxb:Ext w2 (w2.alloc (.cells #[.slice A1 ns.length c1,.slice A2 ps.length c2] 27)):=Ext.alloc _ _
 have hN:=Row.new w2 27 [.slice A1 ns.length c1,.slice A2 ps.length c2]
 obtain ⟨W3,HW3⟩:∃W3,Hid (w2.alloc (.cells #[.slice A1 ns.length c1,.slice A2 ps.length c2] 27)=W3):=⟨_,hide rfl⟩
 have hN:Row W3 w2.heap.size 27 [.slice A1 ns.length c1,.slice A2 ps.length c2]:=by rw [←HW3.out]; exact hN
 have hxb:Ext w2 W3:=by rw [←HW3.out]; exact hxb
 have hnl:=hN.lt
 cases hb:(netB ns ps&&bookB ns.length xs)
 ·have HRR:=hide (newRR_no hb)
  go_wp2_with fail
  rw [HW3.out]
  refine (c_specNewRoomL A1 A2 ns.length c1 ps.length c2 ns ps A3 xs.length c3 xs _ (h1.ext hxb) (h2.ext hxb) (h3.ext hxb) (by omega) (by omega) (by omega) HNM.out).mono ?_
  rw [HRR.out]
  rintro e w3 ⟨C1,C2,C3,C4,C5,l1,f1,l2,f2,l3,f3,l4,f4,l5,f5,r3,rfl,-,hx3⟩
  have hx4:Ext w3 (w3.alloc (.cells #[.slice C1 l1 f1,.slice C2 l2 f2,.slice C3 l3 f3,.slice C4 l4 f4,.slice C5 l5 f5] 32)):=Ext.alloc _ _
  have hX4:=(hxb.trans hx3).trans hx4
  have hN4:=hN.ext (hx3.trans hx4)
  have hR4:=hR2.ext hX4
  have hs4:=hs2.more hX4
  have u1:=o1.ext hX4
  have u2:=o2.ext hX4
  have u3:=o3.ext hX4
  obtain ⟨W4,HW4⟩:∃W4,Hid (w3.alloc (.cells #[.slice C1 l1 f1,.slice C2 l2 f2,.slice C3 l3 f3,.slice C4 l4 f4,.slice C5 l5 f5] 32)=W4):=⟨_,hide rfl⟩
  rw [HW4.out] at hN4 hR4 hs4 u1 u2 u3
  clear o1 o2 o3 h1 h2 h3 hx4 hX4 hx3 hs2 ho2 hN hR2 hxb
  have p0:=(hN4).cell 0
  have p1:=(hN4).cell 1
  simp at p0 p1
  have pf:=(hN4).frozen
  have pl:=(hN4).lt
  go_wp2_with fail
  rw [HW4.out]
  refine wp_region_phC [(w2.heap.size,0),(w2.heap.size,1)] [([0,1,2],3),([],4)] [5,6] (by kernel_rfl) (by kernel_rfl) (by intro c a w d v h; cases d <;> exact h) ?_
  simp only [wpPhC,pickL,nthO]
  repeat (go_big_quiet_step (fail))
  refine wpQuiet_nil ?_
  go_wp2_with fail
  refine (c_drawTxt (hs4.more (Ext.refl _).drew)).mono ?_
  rintro e w5 ⟨l,rfl,hl,hs5,ho5⟩
  have hO:=(Only.refl a W4).drew.trans ho5
  have hsm:=(SameC.refl [(w2.heap.size,0),(w2.heap.size,1)] W4).drew.trans (SameC.of_only ho5 (by simp; omega))
  have hR5:=hR4.only hO (by omega)
  have t1:=u1.only hO hal
  have t2:=u2.only hO hal
  have t3:=u3.only hO hal
  clear hN4 hR4 hs4 u1 u2 u3 ho5 hO p0 p1 pf pl
  have q0:=(hR5).cell 0
  have q1:=(hR5).cell 1
  simp at q0 q1
  have qf:=(hR5).frozen
  have ql:=(hR5).lt
  have HF:=hide (DrawnRpl.mk (w:=w1) (hs5) hw01 (t1) (t2) (t3) b1 b2 b3 HSH.out (l) (hl))
  clear hR5 hs5 t1 t2 t3
  go_wp2_with fail
  refine ⟨hsm,?_⟩
  repeat (go_big_quiet_step (fail))
  refine wpQuiet_nil ?_
  go_wp2_with fail
  refine ⟨(hsm.setCell (by simp; omega) _).setCell (by simp; omega) _,?_⟩
  repeat (go_big_quiet_step (fail))
  refine wpQuiet_nil ?_
  go_wp2_with fail
  refine bodyPost_ret (v:= .tuple #[.agg #[.slice A1 ns.length c1,.slice A2 ps.length c2],.slice A3 xs.length c3,.string (mkB (l))]) (by simp [results,Tryz.results15,go_sem,q0,q1]) rfl ?_
  exact HF.out
 have HRR:=hide (newRR_yes hb)
 have HVB:=hide (newR_valid hb)
 go_wp2_with fail
 rw [HW3.out]
 refine (c_specNewRoomL A1 A2 ns.length c1 ps.length c2 ns ps A3 xs.length c3 xs _ (h1.ext hxb) (h2.ext hxb) (h3.ext hxb) (by omega) (by omega) (by omega) HNM.out).mono ?_
 rw [HRR.out]
 rintro e w3 ⟨C1,C2,C3,C4,C5,l1,f1,l2,f2,l3,f3,l4,f4,l5,f5,r3,rfl,hR3,hx3⟩
 obtain ⟨hR3,hlk3⟩:=hR3 rfl
 have hsz:=hx3.size
 have hx4:Ext w3 (w3.alloc (.cells #[.slice C1 l1 f1,.slice C2 l2 f2,.slice C3 l3 f3,.slice C4 l4 f4,.slice C5 l5 f5] 32)):=Ext.alloc _ _
 have hxe:Ext (w3.alloc (.cells #[.slice C1 l1 f1,.slice C2 l2 f2,.slice C3 l3 f3,.slice C4 l4 f4,.slice C5 l5 f5] 32)) ((w3.alloc (.cells #[.slice C1 l1 f1,.slice C2 l2 f2,.slice C3 l3 f3,.slice C4 l4 f4,.slice C5 l5 f5] 32)).alloc (.cells #[] 54)):=Ext.alloc _ _
 have hX4:=((hxb.trans hx3).trans hx4).trans hxe
 have hz4:=hX4.size
 have hK0:QSt w w1 a A n c w2.heap.size w3.heap.size C1 C2 C3 C4 C5 l1 f1 l2 f2 l3 f3 l4 f4 l5 f5 r3 (.slice A1 ns.length c1) (.slice A2 ps.length c2) (.slice A3 xs.length c3) ns ps xs (.slice (some ⟨w3.heap.size+1,0,none⟩) 0 0) [] ((w3.alloc (.cells #[.slice C1 l1 f1,.slice C2 l2 f2,.slice C3 l3 f3,.slice C4 l4 f4,.slice C5 l5 f5] 32)).alloc (.cells #[] 54)):=by
  refine ⟨hal,hs2.more hX4,ho2.trans (Only.of_ext hX4 a),(Row.new w3 32 [.slice C1 l1 f1,.slice C2 l2 f2,.slice C3 l3 f3,.slice C4 l4 f4,.slice C5 l5 f5]).ext hxe,by omega,((hR3.ext hx4).ext hxe).wider (by omega) (by first | omega | (simp; done) | (simp; omega)),?_,(hN.ext hx3).ext (hx4.trans hxe),by omega,by omega,o1.ext hX4,o2.ext hX4,o3.ext hX4,own_new _ _ _ _ _ _ (by first | rfl | (simp; done)) (by first | omega | (simp; omega))⟩
  exact SizR.like (r:=newR ns ps xs) ⟨b1,HSH.out,b2,b3,HCS.out⟩ hlk3.1 hlk3.2.1 hlk3.2.2.1
 have HOK0:Hid (roomB l1 r3=true):=by
  have hk:l1=ns.length:=by rw [hR3.own.o1.1,hlk3.1]; rfl
  rw [hk]
  exact hide (by rw [roomB_like hlk3]; exact HVB.out)
 obtain ⟨W4,HW4⟩:∃W4,Hid ((w3.alloc (.cells #[.slice C1 l1 f1,.slice C2 l2 f2,.slice C3 l3 f3,.slice C4 l4 f4,.slice C5 l5 f5] 32)).alloc (.cells #[] 54)=W4):=⟨_,hide rfl⟩
 rw [HW4.out] at hK0
 clear hN hx4 hX4 hlk3 hR3 hs2 ho2 hR2 o1 o2 o3 h1 h2 h3 hx3 hxb hxe hz4
 go_wp2_with fail
 rw [HW4.out]
 refine (c_next 10 hK0.src (by omega) (by omega)).mono ?_
 rintro e w5 ⟨x5,rfl,hx5,hx5',hs5,ho5⟩
 obtain ⟨j0,rfl⟩:=Int.eq_ofNat_of_zero_le hx5
 have hK5:=hK0.draw hs5 ho5
 clear hK0 hs5 ho5
 obtain ⟨gn,hgn⟩:∃gn,w2.heap.size=gn:=⟨_,rfl⟩
 obtain ⟨gr,hgr⟩:∃gr,w3.heap.size=gr:=⟨_,rfl⟩
 rw [hgr,hgn] at hK5
 rw [hgr,hgn]
 clear hgr hgn
 go_wp2_with fail
 go_loopw [10,11] (fun v i wr=>∃(j:Nat) (C1 C2 C3 C4 C5:Option Addr) (l1 f1 l2 f2 l3 f3 l4 f4 l5 f5:Nat) (r:Room) (B:Option Addr) (d:Nat) (es:List Event),es.length+j≤9∧i= .int .i64 j∧v= .slice B es.length d∧QSt w w1 a A n c gn gr C1 C2 C3 C4 C5 l1 f1 l2 f2 l3 f3 l4 f4 l5 f5 r (.slice A1 ns.length c1) (.slice A2 ps.length c2) (.slice A3 xs.length c3) ns ps xs (.slice B es.length d) es wr∧Hid (roomB l1 r=true)) (fun _ i _=>(intOf i).toNat)
 case atStart=>exact ⟨j0,C1,C2,C3,C4,C5,l1,f1,l2,f2,l3,f3,l4,f4,l5,f5,r3,_,_,[],by simp; omega,rfl,rfl,hK5,HOK0⟩
 case round=>
  clear hK5 HOK0
  obtain ⟨j,C1,C2,C3,C4,C5,l1,f1,l2,f2,l3,f3,l4,f4,l5,f5,r,B,d,es,hj,rfl,rfl,hK,HOK⟩:=hrel
  have hft:=roomFits HOK.out
  have hfr:=hft.rs
  have hl1:l1≤7:=by rw [hK.room.own.o1.1]; exact hK.siz.ns
  have hl3:l3≤40:=by rw [hK.room.own.o3.1]; exact hK.siz.xs
  have hl5:l5≤48:=by rw [hK.room.own.o5.1]; exact hfr
  have hgr:=hK.hgr
  have hgn:=hK.hgn
  have hnr:=hK.nr
  by_cases hj0:0<j
  ·have hba:∀b,blkOf C3 l3=some b→b≠a:=fun b hb=>by have:=(hK.room.own.rf b (by simp [hb])).1; omega
   have p0:=(hK.var).cell 0
   have p1:=(hK.var).cell 1
   have p2:=(hK.var).cell 2
   have p3:=(hK.var).cell 3
   have p4:=(hK.var).cell 4
   simp at p0 p1 p2 p3 p4
   have pf:=(hK.var).frozen
   have pl:=(hK.var).lt
   go_wp2_with fail
   refine (c_l33DrawEvent C1 C2 C3 C4 C5 l1 f1 l2 f2 l3 f3 l4 f4 l5 f5 r.xs (hK.room.own.o3.slice contract_len) hba hK.siz.cs (by omega) (by omega) (by omega) hK.src).mono ?_
   rintro e w6 ⟨x,rfl,hs6,ho6⟩
   have hK6:=hK.draw hs6 ho6
   clear hK hs6 ho6 hba p0 p1 p2 p3 p4 pf pl
   have hxe:Ext w6 (w6.alloc (.cells #[.int .i64 x.kind,.int .i64 x.a,.int .i64 x.b,.int .i64 x.c,.int .i64 x.d] 54)):=Ext.alloc _ _
   have hE:=Row.new w6 54 [.int .i64 x.kind,.int .i64 x.a,.int .i64 x.b,.int .i64 x.c,.int .i64 x.d]
   have hneE:∀k,(Value.slice B es.length d).ownBlock=some k→k<w6.heap.size:=fun k hk=>(hK6.ol.ltW hk).2
   obtain ⟨W7,HW7⟩:∃W7,Hid (w6.alloc (.cells #[.int .i64 x.kind,.int .i64 x.a,.int .i64 x.b,.int .i64 x.c,.int .i64 x.d] 54)=W7):=⟨_,hide rfl⟩
   have hK7:=hK6.more hxe
   rw [HW7.out] at hK7 hxe
   have hE:Row W7 w6.heap.size 54 [.int .i64 x.kind,.int .i64 x.a,.int .i64 x.b,.int .i64 x.c,.int .i64 x.d]:=by rw [←HW7.out]; exact hE
   have y0:=(hE).cell 0
   have y1:=(hE).cell 1
   have y2:=(hE).cell 2
   have y3:=(hE).cell 3
   have y4:=(hE).cell 4
   simp at y0 y1 y2 y3 y4
   have yf:=(hE).frozen
   have yl:=(hE).lt
   go_wp2_with fail
   rw [HW7.out]
   refine (c_specIsEvent x _).mono ?_
   rintro e w8 ⟨rfl,hx8⟩
   have hK8:=hK7.more hx8
   have hE8:=hE.ext hx8
   clear hK6 hK7 hE hxe y0 y1 y2 y3 y4 yf yl
   have y0:=(hE8).cell 0
   have y1:=(hE8).cell 1
   have y2:=(hE8).cell 2
   have y3:=(hE8).cell 3
   have y4:=(hE8).cell 4
   simp at y0 y1 y2 y3 y4
   have yf:=(hE8).frozen
   have yl:=(hE8).lt
   cases hev:evB x
   ·go_wp2_with fail
    go_roundw
    case rel=>exact ⟨j-1,C1,C2,C3,C4,C5,l1,f1,l2,f2,l3,f3,l4,f4,l5,f5,r,B,d,es,by omega,by go_num,rfl,hK8,HOK⟩
    case measure=>simp [intOf]; omega
   have hE9:=hE8.ext (Ext.alloc w8 (.cells #[.int .i64 x.kind,.int .i64 x.a,.int .i64 x.b,.int .i64 x.c,.int .i64 x.d] 54))
   have hw8:=hK8.only.size
   have hK9:=hK8.more (Ext.alloc w8 (.cells #[.int .i64 x.kind,.int .i64 x.a,.int .i64 x.b,.int .i64 x.c,.int .i64 x.d] 54))
   go_wp2_with (at_builtin; go_must (refine wpList_append_grow rfl _ _ 34 rfl w1.heap.size 54 _ 5 40 Tryz.underlying34 event_info rfl (by decide) Event.cells event_len event_one (.slice B es.length d) es rfl (hK9.ol) _ 1 1 [x] rfl (new_one event_len w8 54 x) (by simp; omega) (by omega) (by first | omega | (simp; omega)) ?_))
   intro v10 w10 ho10 hg10
   obtain ⟨B',d',rfl,-,-⟩:=ho10.form
   have hK10:=hK9.app hg10 ho10
   have hE10:=hE9.grown hg10 (fun e=>by have:=hneE _ e; omega)
   have hlen:(es++[x]).length=es.length+1:=by simp
   clear hK8 hK9 hE8 hE9 ho10 hg10 y0 y1 y2 y3 y4 yf yl hneE
   obtain ⟨es',HES⟩:∃es',Hid (es++[x]=es'):=⟨_,hide rfl⟩
   rw [HES.out] at hK10 hlen ⊢
   have y0:=(hE10).cell 0
   have y1:=(hE10).cell 1
   have y2:=(hE10).cell 2
   have y3:=(hE10).cell 3
   have y4:=(hE10).cell 4
   simp at y0 y1 y2 y3 y4
   have yf:=(hE10).frozen
   have yl:=(hE10).lt
   generalize hab:appB (l1:Int) r x=ab at *
   have HAB:=hide hab
   clear hab
   have p0:=(hK10.var).cell 0
   have p1:=(hK10.var).cell 1
   have p2:=(hK10.var).cell 2
   have p3:=(hK10.var).cell 3
   have p4:=(hK10.var).cell 4
   simp at p0 p1 p2 p3 p4
   have pf:=(hK10.var).frozen
   have pl:=(hK10.var).lt
   go_wp2_with fail
   refine (c_l33ApplyL C1 C2 C3 C4 C5 l1 f1 l2 f2 l3 f3 l4 f4 l5 f5 r x _ hK10.room.own.at_ HOK.out).mono ?_
   unfold RetApL
   rw [HAB.out]
   rintro e w11 ⟨D1,D2,D3,D4,D5,q1,g1,q2,g2,q3,g3,q4,g4,q5,g5,r8,rfl,hap,hx11⟩
   have hK11:=hK10.more hx11
   clear hE10 y0 y1 y2 y3 y4 yf yl p0 p1 p2 p3 p4 pf pl
   have hx12:Ext w11 (w11.alloc (.cells #[.slice D1 q1 g1,.slice D2 q2 g2,.slice D3 q3 g3,.slice D4 q4 g4,.slice D5 q5 g5] 32)):=Ext.alloc _ _
   have hN12:=Row.new w11 32 [.slice D1 q1 g1,.slice D2 q2 g2,.slice D3 q3 g3,.slice D4 q4 g4,.slice D5 q5 g5]
   have hK12:=hK11.more hx12
   have hz10:=hK10.only.size
   have hz12:=hx12.size
   cases ab
   ·clear hN12 hap hK10 hK11
    go_wp2_with fail
    go_roundw
    case rel=>exact ⟨j-1,C1,C2,C3,C4,C5,l1,f1,l2,f2,l3,f3,l4,f4,l5,f5,r,B',d',es',by omega,by go_num,by rw [hlen],hK12,HOK⟩
    case measure=>simp [intOf]; omega
   ·obtain ⟨hR8,hlk8⟩:=hap rfl
    have hS8:SizR r8:=by
     obtain ⟨a1,a2,a3⟩:=appR_same r x
     exact hK12.siz.like (hlk8.1.trans a1) (hlk8.2.1.trans a2) (hlk8.2.2.1.trans a3)
    have HOK8:Hid (roomB q1 r8=true):=by
     have hk:q1=l1:=by rw [hR8.own.o1.1,hlk8.1,(appR_same r x).1,hK12.room.own.o1.1]
     rw [hk]
     exact hide (by rw [roomB_like hlk8]; exact appR_ok HOK.out HAB.out)
    have hK13:=hK12.next (hR8.ext hx12) (by omega) hz12 hS8
    have t0:=(hN12).cell 0
    have t1:=(hN12).cell 1
    have t2:=(hN12).cell 2
    have t3:=(hN12).cell 3
    have t4:=(hN12).cell 4
    simp at t0 t1 t2 t3 t4
    have tf:=(hN12).frozen
    have tl:=(hN12).lt
    have p0:=(hK12.var).cell 0
    have p1:=(hK12.var).cell 1
    have p2:=(hK12.var).cell 2
    have p3:=(hK12.var).cell 3
    have p4:=(hK12.var).cell 4
    simp at p0 p1 p2 p3 p4
    have pf:=(hK12.var).frozen
    have pl:=(hK12.var).lt
    clear hK10 hK11 hK12 hN12 hR8 hlk8 hap hS8
    go_wp2_with fail
    go_roundw
    case rel=>exact ⟨j-1,D1,D2,D3,D4,D5,q1,g1,q2,g2,q3,g3,q4,g4,q5,g5,r8,B',d',es',by omega,by go_num,by rw [hlen],hK13,HOK8⟩
    case measure=>simp [intOf]; omega
  ·obtain rfl:j=0:=by omega
   have hel:=hK.ol.slE event_len (by decide)
   go_wp2_with fail
   refine (c_specJournalOf B es.length d es _ hel).mono ?_
   rintro e w6 ⟨rfl,hx6⟩
   have hjl:=jourR_len es
   obtain ⟨t,HT⟩:∃t,Hid ((jourR es).1=t):=⟨_,hide rfl⟩
   rw [HT.out] at hjl ⊢
   have hsz:(mkB t).size=t.length:=rfl
   have hK6:=hK.more hx6
   clear hK hel hx6
   go_wp2_with fail
   refine (c_next 4 hK6.src (by omega) (by omega)).mono ?_
   rintro e w7 ⟨x7,rfl,hx70,hx71,hs7,ho7⟩
   have hK7:=hK6.draw hs7 ho7
   clear hK6 hs7 ho7
   have hR7:=hR1.only hK7.only (by omega)
   have p0:=(hK7.net).cell 0
   have p1:=(hK7.net).cell 1
   simp at p0 p1
   have pf:=(hK7.net).frozen
   have pl:=(hK7.net).lt
   by_cases h0:x7=0
   ·subst h0
    go_wp2_with fail
    refine wp_region_phC [(gn,0),(gn,1)] [([0,1,2,3,4,5,6],7),([8],9)] [10,11] (by kernel_rfl) (by kernel_rfl) (by intro c a w d v h; cases d <;> exact h) ?_
    simp only [wpPhC,pickL,nthO]
    repeat (go_big_quiet_step (fail))
    refine wpQuiet_nil ?_
    go_wp2_with fail
    refine (c_next ((t.length:Int)+1) (hK7.src.more (Ext.refl _).drew) (by omega) (by omega)).mono ?_
    rintro e w8 ⟨x8,rfl,hx80,hx81,hs8,ho8⟩
    have hO:=(Only.refl a w7).drew.trans ho8
    have hsm:=(SameC.refl [(gn,0),(gn,1)] w7).drew.trans (SameC.of_only ho8 (by simp; omega))
    have hK8:=hK7.draw hs8 hO
    have hR8:=hR7.only hO (by omega)
    obtain ⟨k,rfl⟩:=Int.eq_ofNat_of_zero_le hx80
    have hk:k≤t.length:=by omega
    have hcl:=cut_low t k
    clear hK7 hs8 ho8 p0 p1 pf pl
    have q0:=(hR8).cell 0
    have q1:=(hR8).cell 1
    simp at q0 q1
    have qf:=(hR8).frozen
    have ql:=(hR8).lt
    have HF:=hide (DrawnRpl.mk (w:=w1) (hK8.src) hw01 (hK8.o1) (hK8.o2) (hK8.o3) b1 b2 b3 HSH.out (t.take k) (by rw [List.length_take]; omega))
    clear hR8 hK8
    go_wp2_with fail
    refine ⟨hsm,?_⟩
    repeat (go_big_quiet_step (fail))
    refine wpQuiet_nil ?_
    go_wp2_with fail
    refine ⟨(hsm.setCell (by simp; omega) _).setCell (by simp; omega) _,?_⟩
    repeat (go_big_quiet_step (fail))
    refine wpQuiet_nil ?_
    go_wp2_with fail
    refine bodyPost_ret (v:= .tuple #[.agg #[.slice A1 ns.length c1,.slice A2 ps.length c2],.slice A3 xs.length c3,.string (mkB (t.take k))]) (by simp [results,Tryz.results15,go_sem,q0,q1]) rfl ?_
    exact HF.out
   ·have b0:(x7==0)=false:=by rw [beq_eq_false_iff_ne]; exact h0
    have q0:=(hR7).cell 0
    have q1:=(hR7).cell 1
    simp at q0 q1
    have qf:=(hR7).frozen
    have ql:=(hR7).lt
    have HF:=hide (DrawnRpl.mk (w:=w1) (hK7.src) hw01 (hK7.o1) (hK7.o2) (hK7.o3) b1 b2 b3 HSH.out (t) (by omega))
    clear hR7 hK7
    go_wp2_with fail
    refine bodyPost_ret (v:= .tuple #[.agg #[.slice A1 ns.length c1,.slice A2 ps.length c2],.slice A3 xs.length c3,.string (mkB (t))]) (by simp [results,Tryz.results15,go_sem,q0,q1]) rfl ?_
    exact HF.out
end Go.Proofs.YtinindjjapblcaaGreatDoor
