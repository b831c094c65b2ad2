/-
  The reference's draw of a network that may be wrong: the walk.
-/
import Derived.Test.YtinindjjapblcaaGreatDoorWa10
namespace Go.Proofs.YtinindjjapblcaaGreatDoor
open Go.RowKit
section
variable {w0 w wr wr':World} {a n c g:Nat} {A:Option Addr} {v1 v2 v':Value} {ns:List Node} {ps:List Pipe}
theorem ASt.new {w1:World} (hal:a<w.heap.size) (hs:Src w0 w1 a A n c) (ho:Only a (w.alloc (.cells #[.slice none 0 0,.slice none 0 0] 27)) w1)
  (o1:OwnL w1 (w.heap.size+1) 147 3 Node.cells v1 ns) (o2:OwnL w1 (w.heap.size+1) 149 5 Pipe.cells v2 ps) (hn:Short ns):
  ASt w0 w a A n c w1.heap.size v1 v2 ns ps (w1.alloc (.cells #[v1,v2] 27)):=by
 have hz:=ho.size
 simp at hz
 have hR:=(Row.new w 27 [.slice none 0 0,.slice none 0 0]).only ho (by omega)
 have hx:Ext w1 (w1.alloc (.cells #[v1,v2] 27)):=Ext.alloc _ _
 exact ⟨hal,hs.more hx,((Only.of_ext (Ext.alloc w (.cells #[.slice none 0 0,.slice none 0 0] 27)) a).trans ho).trans (Only.of_ext hx a),hR.ext hx,Row.new w1 27 [v1,v2],by omega,o1.ext hx,o2.ext hx,hn⟩
theorem ASt.form1 (h:ASt w0 w a A n c g v1 v2 ns ps wr) {k:Nat} {x:Node} (hk:ns[k]? =some x):∃b c',v1= .slice (some ⟨b,0,none⟩) ns.length c'∧b≠g∧w.heap.size<b∧b<wr.heap.size∧∀i v,x.cells[i]? =some v→wr.cell? ⟨b,k*3+i,none⟩=some v:=by
 obtain ⟨b,c',he,hl,hne,_,hc,_⟩:=h.setNode (u:= .int .i64 x.low) hk (j:=1) (y:=x) (by omega) rfl (h.nm x (List.mem_of_getElem? hk))
 exact ⟨b,c',he,hne,h.o1.block_le (k:=b) (by rw [he]; rfl),hl,hc⟩
theorem ASt.form2 (h:ASt w0 w a A n c g v1 v2 ns ps wr) {k:Nat} {x:Pipe} (hk:ps[k]? =some x):∃b c',v2= .slice (some ⟨b,0,none⟩) ps.length c'∧b≠g:=by
 obtain ⟨b,c',he,_,hne,_⟩:=h.setPipe (u:= .int .i64 x.dst) hk (j:=1) (y:=x) (by omega) rfl
 exact ⟨b,c',he,hne⟩
set_option maxHeartbeats 4000000 in
theorem c_l02DrawAny (h:Src w0 w a A n c):
  Calls Tryz.prog 157 #[.pointer (some ⟨a,0,none⟩)] w (DrawnNet2 w0 a A n c w):=by
 have hal:=h.lt
 have hle:=h.le0
 go_enter Tryz.func157,Tryz.ntmps157
 go_wp2_with fail
 refine (c_l02Draw (h.more (Ext.alloc _ _))).mono ?_
 rintro e w1 ⟨v1,v2,ns,ps,rfl,hs1,ho1,o1,o2,hn1,hn7,hp,hnm⟩
 have hD0:=ASt.new hal hs1 ho1 (o1.lowG (by simp)) (o2.lowG (by simp)) hnm
 have hz1:=ho1.size
 simp at hz1
 obtain ⟨A1,c1,rfl,hc1,hc1'⟩:=hD0.o1.form
 obtain ⟨A2,c2,rfl,hc2,hc2'⟩:=hD0.o2.form
 clear hs1 ho1 o1 o2 hnm
 have p0:=hD0.var.cell 0
 have p1:=hD0.var.cell 1
 simp at p0 p1
 have pf:=hD0.var.frozen
 have pl:=hD0.var.lt
 go_wp2_with fail
 refine (c_next ns.length hD0.src (by omega) (by omega)).mono ?_
 rintro e w2 ⟨k,rfl,hk0,hk1,hs2,ho2⟩
 obtain ⟨k,rfl⟩:=Int.eq_ofNat_of_zero_le hk0
 have hkl:k<ns.length:=by omega
 have hD2:=hD0.draw hs2 ho2
 clear hD0 hs2 ho2 p0 p1 pf pl
 go_wp2_with fail
 refine (c_next 30 hD2.src (by omega) (by omega)).mono ?_
 rintro e w3 ⟨x,rfl,hx0,hx1,hs3,ho3⟩
 have hD:=hD2.draw hs3 ho3
 clear hD2 hs3 ho3
 obtain ⟨nd,hnd⟩:∃nd,ns[k]? =some nd:=⟨_,List.getElem?_eq_getElem hkl⟩
 have hgg:=hD.hg
 by_cases h0:x=0
 ·subst h0
  obtain ⟨b,c1',he,hbg,-⟩:=hD.form1 hnd
  simp only [Value.slice.injEq,true_and] at he
  obtain ⟨rfl,rfl⟩:=he
  have p0:=hD.var.cell 0
  have p1:=hD.var.cell 1
  simp at p0 p1
  have pf:=hD.var.frozen
  have pl:=hD.var.lt
  go_wp2_with fail
  refine wp_region_phT [(w1.heap.size,0)] (.two [0,1,2,4] 3 (.one [] 5 (.one [6] 7 (.one [8,9] 10 (.last [])))) 5 (.one [] 3 (.one [6] 7 (.one [8,9] 10 (.last []))))) (by kernel_rfl) (by kernel_rfl) (by intro c a w d v h; cases d <;> exact h) ?_
  simp only [wpPhT,pickL,nthO]
  repeat (go_big_quiet_step (fail))
  refine wpQuiet_nil ?_
  refine ⟨?_,?_⟩
  ·have hDA:=hD.more ((Ext.alloc w3 (.cells #[.string ⟨#[]⟩,.string ⟨#[110,48]⟩,.string ⟨#[110,105,110,101,99,104,97,114,115]⟩,.string ⟨#[101,105,103,104,116,99,104,97]⟩,.string ⟨#[78]⟩] 9)).drew)
   have hR:=(Row.new w3 9 [.string ⟨#[]⟩,.string ⟨#[110,48]⟩,.string ⟨#[110,105,110,101,99,104,97,114,115]⟩,.string ⟨#[101,105,103,104,116,99,104,97]⟩,.string ⟨#[78]⟩]).drew
   have hal3:=hD.src.lt
   have hv3:=hD.var.lt
   go_wp2_with fail
   refine ⟨SameC.of_ext ((Ext.alloc _ _).drew) (by simp; omega),wpQuiet_nil ?_⟩
   go_wp2_with fail
   refine (c_next 5 hDA.src (by omega) (by omega)).mono ?_
   rintro e w4 ⟨y,rfl,hy0,hy1,hs4,ho4⟩
   have hD4:=hDA.draw hs4 ho4
   have hR4:=hR.only ho4 (by omega)
   obtain ⟨j,rfl⟩:=Int.eq_ofNat_of_zero_le hy0
   have hj:j<5:=by omega
   obtain ⟨z,hz,hzs⟩:∃z:ByteArray,w4.cell? ⟨w3.heap.size,j,none⟩=some (.string z)∧z.size≤100:=by
    rw [hR4.cell]; rcases (show j=0∨j=1∨j=2∨j=3∨j=4 by omega) with rfl | rfl | rfl | rfl | rfl <;> exact ⟨_,rfl,by first | trivial | decide⟩
   have hsm:SameC [(w1.heap.size,0)] w3 w4:=(SameC.of_ext (Ext.alloc w3 (.cells #[.string ⟨#[]⟩,.string ⟨#[110,48]⟩,.string ⟨#[110,105,110,101,99,104,97,114,115]⟩,.string ⟨#[101,105,103,104,116,99,104,97]⟩,.string ⟨#[78]⟩] 9)).drew (by simp; omega)).trans (SameC.of_only ho4 (by simp; omega))
   have hb4:=hR4.lt
   clear hDA hR hR4 hs4 ho4
   obtain ⟨b5,c5,he,hb5,-,hf5,hc5,hD5⟩:=hD4.setNode (u:= .string z) (y:=⟨z,nd.low,nd.high⟩) hnd (j:=0) (by omega) rfl hzs
   simp only [Value.slice.injEq,Option.some.injEq,Addr.mk.injEq,and_true,true_and] at he
   obtain ⟨rfl,rfl⟩:=he
   have hc0:=hc5 0 _ rfl
   simp only [Nat.add_zero] at hc0 hD5
   have hfk:=hf5 (k*3)
   clear hc5 hf5
   have hlen:(ns.set k ⟨z,nd.low,nd.high⟩).length=ns.length:=by simp
   go_wp2_with fail
   refine ⟨hsm,?_⟩
   repeat (go_big_quiet_step (fail))
   refine wpQuiet_nil ?_
   go_wp2_with fail
   refine ⟨hsm,?_⟩
   repeat (go_big_quiet_step (fail))
   refine wpQuiet_nil ?_
   go_wp2_with fail
   refine ⟨hsm.setCell (by first | (simp; done) | (simp; omega)) _,?_⟩
   repeat (go_big_quiet_step (fail))
   refine wpQuiet_nil ?_
   clear hsm hc0 hfk hz
   have p0:=hD5.var.cell 0
   have p1:=hD5.var.cell 1
   simp at p0 p1
   have pf:=hD5.var.frozen
   have pl:=hD5.var.lt
   have q0:=hD5.res.cell 0
   have q1:=hD5.res.cell 1
   simp at q0 q1
   have qf:=hD5.res.frozen
   have ql:=hD5.res.lt
   have HF:=hide (hD5.fin (by first | omega | (simp; done) | (simp; omega)) (by first | omega | (simp; done) | (simp; omega)))
   clear hD5
   go_wp2_with fail
   refine bodyPost_ret (v:= .agg #[.slice (some ⟨b,0,none⟩) ns.length c1,.slice A2 ps.length c2]) (by simp [results,Tryz.results157,go_sem,q0,q1]) rfl ?_
   exact HF.out
  ·have hDA:=hD.more (Ext.refl w3).drew
   have hal3:=hD.src.lt
   have hv3:=hD.var.lt
   go_wp2_with fail
   refine (c_next 5 hDA.src (by omega) (by omega)).mono ?_
   rintro e w4' ⟨y,rfl,hy0,hy1,hs4,ho4⟩
   have hD4':=hDA.draw hs4 ho4
   obtain ⟨j,rfl⟩:=Int.eq_ofNat_of_zero_le hy0
   have hj:j<5:=by omega
   have hR4:=Row.new w4' 9 [.string ⟨#[]⟩,.string ⟨#[110,48]⟩,.string ⟨#[110,105,110,101,99,104,97,114,115]⟩,.string ⟨#[101,105,103,104,116,99,104,97]⟩,.string ⟨#[78]⟩]
   have hD4:=hD4'.more (Ext.alloc w4' (.cells #[.string ⟨#[]⟩,.string ⟨#[110,48]⟩,.string ⟨#[110,105,110,101,99,104,97,114,115]⟩,.string ⟨#[101,105,103,104,116,99,104,97]⟩,.string ⟨#[78]⟩] 9))
   have hsz:w3.heap.size≤w4'.heap.size:=ho4.size
   have hsm0:SameC [(w1.heap.size,0)] w3 w4':=(SameC.refl _ w3).drew.trans (SameC.of_only ho4 (by simp; omega))
   have hsm:SameC [(w1.heap.size,0)] w3 (w4'.alloc (.cells #[.string ⟨#[]⟩,.string ⟨#[110,48]⟩,.string ⟨#[110,105,110,101,99,104,97,114,115]⟩,.string ⟨#[101,105,103,104,116,99,104,97]⟩,.string ⟨#[78]⟩] 9)):=hsm0.trans (SameC.of_ext (Ext.alloc _ _) (by simp; omega))
   go_wp2_with fail
   refine ⟨hsm0,wpQuiet_nil ?_⟩
   go_wp2_with fail
   obtain ⟨w4,HW4⟩:∃w4,Hid (w4'.alloc (.cells #[.string ⟨#[]⟩,.string ⟨#[110,48]⟩,.string ⟨#[110,105,110,101,99,104,97,114,115]⟩,.string ⟨#[101,105,103,104,116,99,104,97]⟩,.string ⟨#[78]⟩] 9)=w4):=⟨_,hide rfl⟩
   rw [HW4.out] at hR4 hD4 hsm ⊢
   obtain ⟨z,hz,hzs⟩:∃z:ByteArray,w4.cell? ⟨w4'.heap.size,j,none⟩=some (.string z)∧z.size≤100:=by
    rw [hR4.cell]; rcases (show j=0∨j=1∨j=2∨j=3∨j=4 by omega) with rfl | rfl | rfl | rfl | rfl <;> exact ⟨_,rfl,by first | trivial | decide⟩
   have hb4:=hR4.lt
   clear hDA hR4 hs4 ho4 hD4' hsm0 hsz
   obtain ⟨b5,c5,he,hb5,-,hf5,hc5,hD5⟩:=hD4.setNode (u:= .string z) (y:=⟨z,nd.low,nd.high⟩) hnd (j:=0) (by omega) rfl hzs
   simp only [Value.slice.injEq,Option.some.injEq,Addr.mk.injEq,and_true,true_and] at he
   obtain ⟨rfl,rfl⟩:=he
   have hc0:=hc5 0 _ rfl
   simp only [Nat.add_zero] at hc0 hD5
   have hfk:=hf5 (k*3)
   clear hc5 hf5
   have hlen:(ns.set k ⟨z,nd.low,nd.high⟩).length=ns.length:=by simp
   go_wp2_with fail
   refine ⟨hsm,?_⟩
   repeat (go_big_quiet_step (fail))
   refine wpQuiet_nil ?_
   go_wp2_with fail
   refine ⟨hsm,?_⟩
   repeat (go_big_quiet_step (fail))
   refine wpQuiet_nil ?_
   go_wp2_with fail
   refine ⟨hsm.setCell (by first | (simp; done) | (simp; omega)) _,?_⟩
   repeat (go_big_quiet_step (fail))
   refine wpQuiet_nil ?_
   clear hsm hc0 hfk hz
   have p0:=hD5.var.cell 0
   have p1:=hD5.var.cell 1
   simp at p0 p1
   have pf:=hD5.var.frozen
   have pl:=hD5.var.lt
   have q0:=hD5.res.cell 0
   have q1:=hD5.res.cell 1
   simp at q0 q1
   have qf:=hD5.res.frozen
   have ql:=hD5.res.lt
   have HF:=hide (hD5.fin (by first | omega | (simp; done) | (simp; omega)) (by first | omega | (simp; done) | (simp; omega)))
   clear hD5
   go_wp2_with fail
   refine bodyPost_ret (v:= .agg #[.slice (some ⟨b,0,none⟩) ns.length c1,.slice A2 ps.length c2]) (by simp [results,Tryz.results157,go_sem,q0,q1]) rfl ?_
   exact HF.out
 have b0:(x==0)=false:=by rw [beq_eq_false_iff_ne]; exact h0
 by_cases h1:x=1
 ·subst h1
  obtain ⟨b,c1',he,hbg,hbw,hb3,hnc⟩:=hD.form1 hnd
  simp only [Value.slice.injEq,true_and] at he
  obtain ⟨rfl,rfl⟩:=he
  have hn1':=hnc 1 _ rfl
  clear hnc
  obtain ⟨lw,e1⟩:∃lw,IntKind.i64.wrap (nd.low-1)=lw:=⟨_,rfl⟩
  have p0:=hD.var.cell 0
  have p1:=hD.var.cell 1
  simp at p0 p1
  have pf:=hD.var.frozen
  have pl:=hD.var.lt
  go_wp2_with fail
  refine wp_region_phT [(w1.heap.size,0),(b,k*3+1)] (.two [0,1,2,3,4,5,6,7,8,9,10,11,12,13,14,15,17] 16 (.one [] 18 (.one [19] 20 (.one [21,22] 23 (.last [])))) 18 (.one [] 16 (.one [19] 20 (.one [21,22] 23 (.last []))))) (by kernel_rfl) (by kernel_rfl) (by intro c a w d v h; cases d <;> exact h) ?_
  simp only [wpPhT,pickL,nthO]
  repeat (go_big_quiet_step (fail))
  refine wpQuiet_nil ?_
  refine ⟨?_,?_⟩
  ·have hDA:=hD.more ((Ext.alloc w3 (.cells #[.int .i64 lw,.int .i64 nd.low,.int .i64 100000000,.int .i64 100000001] 2)).drew)
   have hR:=(Row.new w3 2 [.int .i64 lw,.int .i64 nd.low,.int .i64 100000000,.int .i64 100000001]).drew
   have hal3:=hD.src.lt
   have hv3:=hD.var.lt
   go_wp2_with fail
   refine ⟨SameC.of_ext ((Ext.alloc _ _).drew) (by simp; omega),wpQuiet_nil ?_⟩
   go_wp2_with fail
   refine (c_next 4 hDA.src (by omega) (by omega)).mono ?_
   rintro e w4 ⟨y,rfl,hy0,hy1,hs4,ho4⟩
   have hD4:=hDA.draw hs4 ho4
   have hR4:=hR.only ho4 (by omega)
   obtain ⟨j,rfl⟩:=Int.eq_ofNat_of_zero_le hy0
   have hj:j<4:=by omega
   obtain ⟨z,hz,hzs⟩:∃z:Int,w4.cell? ⟨w3.heap.size,j,none⟩=some (.int .i64 z)∧True:=by
    rw [hR4.cell]; rcases (show j=0∨j=1∨j=2∨j=3 by omega) with rfl | rfl | rfl | rfl <;> exact ⟨_,rfl,by first | trivial | decide⟩
   have hsm:SameC [(w1.heap.size,0),(b,k*3+1)] w3 w4:=(SameC.of_ext (Ext.alloc w3 (.cells #[.int .i64 lw,.int .i64 nd.low,.int .i64 100000000,.int .i64 100000001] 2)).drew (by simp; omega)).trans (SameC.of_only ho4 (by simp; omega))
   have hb4:=hR4.lt
   clear hDA hR hR4 hs4 ho4
   obtain ⟨b5,c5,he,hb5,-,hf5,hc5,hD5⟩:=hD4.setNode (u:= .int .i64 z) (y:=⟨nd.name,nd.low,z⟩) hnd (j:=2) (by omega) rfl (hD4.nm nd (List.mem_of_getElem? hnd))
   simp only [Value.slice.injEq,Option.some.injEq,Addr.mk.injEq,and_true,true_and] at he
   obtain ⟨rfl,rfl⟩:=he
   have hc0:=hc5 2 _ rfl
   have hfk:=hf5 (k*3+2)
   clear hc5 hf5
   have hlen:(ns.set k ⟨nd.name,nd.low,z⟩).length=ns.length:=by simp
   go_wp2_with fail
   refine ⟨hsm,?_⟩
   repeat (go_big_quiet_step (fail))
   refine wpQuiet_nil ?_
   go_wp2_with fail
   refine ⟨hsm,?_⟩
   repeat (go_big_quiet_step (fail))
   refine wpQuiet_nil ?_
   go_wp2_with fail
   refine ⟨hsm.setCell (by first | (simp; done) | (simp; omega)) _,?_⟩
   repeat (go_big_quiet_step (fail))
   refine wpQuiet_nil ?_
   clear hsm hc0 hfk hz hn1'
   have p0:=hD5.var.cell 0
   have p1:=hD5.var.cell 1
   simp at p0 p1
   have pf:=hD5.var.frozen
   have pl:=hD5.var.lt
   have q0:=hD5.res.cell 0
   have q1:=hD5.res.cell 1
   simp at q0 q1
   have qf:=hD5.res.frozen
   have ql:=hD5.res.lt
   have HF:=hide (hD5.fin (by first | omega | (simp; done) | (simp; omega)) (by first | omega | (simp; done) | (simp; omega)))
   clear hD5
   go_wp2_with fail
   refine bodyPost_ret (v:= .agg #[.slice (some ⟨b,0,none⟩) ns.length c1,.slice A2 ps.length c2]) (by simp [results,Tryz.results157,go_sem,q0,q1]) rfl ?_
   exact HF.out
  ·have hDA:=hD.more (Ext.refl w3).drew
   have hal3:=hD.src.lt
   have hv3:=hD.var.lt
   go_wp2_with fail
   refine (c_next 4 hDA.src (by omega) (by omega)).mono ?_
   rintro e w4' ⟨y,rfl,hy0,hy1,hs4,ho4⟩
   have hD4':=hDA.draw hs4 ho4
   obtain ⟨j,rfl⟩:=Int.eq_ofNat_of_zero_le hy0
   have hj:j<4:=by omega
   have hR4:=Row.new w4' 2 [.int .i64 lw,.int .i64 nd.low,.int .i64 100000000,.int .i64 100000001]
   have hD4:=hD4'.more (Ext.alloc w4' (.cells #[.int .i64 lw,.int .i64 nd.low,.int .i64 100000000,.int .i64 100000001] 2))
   have hsz:w3.heap.size≤w4'.heap.size:=ho4.size
   have hsm0:SameC [(w1.heap.size,0),(b,k*3+1)] w3 w4':=(SameC.refl _ w3).drew.trans (SameC.of_only ho4 (by simp; omega))
   have hsm:SameC [(w1.heap.size,0),(b,k*3+1)] w3 (w4'.alloc (.cells #[.int .i64 lw,.int .i64 nd.low,.int .i64 100000000,.int .i64 100000001] 2)):=hsm0.trans (SameC.of_ext (Ext.alloc _ _) (by simp; omega))
   go_wp2_with fail
   refine ⟨hsm0,wpQuiet_nil ?_⟩
   go_wp2_with fail
   obtain ⟨w4,HW4⟩:∃w4,Hid (w4'.alloc (.cells #[.int .i64 lw,.int .i64 nd.low,.int .i64 100000000,.int .i64 100000001] 2)=w4):=⟨_,hide rfl⟩
   rw [HW4.out] at hR4 hD4 hsm ⊢
   obtain ⟨z,hz,hzs⟩:∃z:Int,w4.cell? ⟨w4'.heap.size,j,none⟩=some (.int .i64 z)∧True:=by
    rw [hR4.cell]; rcases (show j=0∨j=1∨j=2∨j=3 by omega) with rfl | rfl | rfl | rfl <;> exact ⟨_,rfl,by first | trivial | decide⟩
   have hb4:=hR4.lt
   clear hDA hR4 hs4 ho4 hD4' hsm0 hsz
   obtain ⟨b5,c5,he,hb5,-,hf5,hc5,hD5⟩:=hD4.setNode (u:= .int .i64 z) (y:=⟨nd.name,nd.low,z⟩) hnd (j:=2) (by omega) rfl (hD4.nm nd (List.mem_of_getElem? hnd))
   simp only [Value.slice.injEq,Option.some.injEq,Addr.mk.injEq,and_true,true_and] at he
   obtain ⟨rfl,rfl⟩:=he
   have hc0:=hc5 2 _ rfl
   have hfk:=hf5 (k*3+2)
   clear hc5 hf5
   have hlen:(ns.set k ⟨nd.name,nd.low,z⟩).length=ns.length:=by simp
   go_wp2_with fail
   refine ⟨hsm,?_⟩
   repeat (go_big_quiet_step (fail))
   refine wpQuiet_nil ?_
   go_wp2_with fail
   refine ⟨hsm,?_⟩
   repeat (go_big_quiet_step (fail))
   refine wpQuiet_nil ?_
   go_wp2_with fail
   refine ⟨hsm.setCell (by first | (simp; done) | (simp; omega)) _,?_⟩
   repeat (go_big_quiet_step (fail))
   refine wpQuiet_nil ?_
   clear hsm hc0 hfk hz hn1'
   have p0:=hD5.var.cell 0
   have p1:=hD5.var.cell 1
   simp at p0 p1
   have pf:=hD5.var.frozen
   have pl:=hD5.var.lt
   have q0:=hD5.res.cell 0
   have q1:=hD5.res.cell 1
   simp at q0 q1
   have qf:=hD5.res.frozen
   have ql:=hD5.res.lt
   have HF:=hide (hD5.fin (by first | omega | (simp; done) | (simp; omega)) (by first | omega | (simp; done) | (simp; omega)))
   clear hD5
   go_wp2_with fail
   refine bodyPost_ret (v:= .agg #[.slice (some ⟨b,0,none⟩) ns.length c1,.slice A2 ps.length c2]) (by simp [results,Tryz.results157,go_sem,q0,q1]) rfl ?_
   exact HF.out
 have b1:(x==1)=false:=by rw [beq_eq_false_iff_ne]; exact h1
 by_cases h2:x=2
 ·subst h2
  have p0:=hD.var.cell 0
  have p1:=hD.var.cell 1
  simp at p0 p1
  have pf:=hD.var.frozen
  have pl:=hD.var.lt
  go_wp2_with (at_builtin; go_must (refine wpList_append_grow rfl _ _ 25 rfl (w.heap.size+1) 149 _ 5 40 Tryz.underlying25 pipe_info rfl (by decide) Pipe.cells pipe_len pipe_one' _ _ rfl (hD.o2.ext (Ext.alloc _ _)) _ 1 1 [⟨k,k,1,0,1⟩] rfl (new_one pipe_len w3 149 ⟨k,k,1,0,1⟩) (by simp; omega) (by omega) (by first | exact Nat.le_refl _ | omega | (simp; done) | (simp; omega)) ?_))
  intro v4 w4 ho4 hg4
  have hl4:(ps++[(⟨k,k,1,0,1⟩:Pipe)]).length≤13:=by simp; omega
  generalize ps++[(⟨k,k,1,0,1⟩:Pipe)]=ps4 at *
  obtain ⟨A4,c4,rfl,-,-⟩:=ho4.form
  have hDm:=hD.more (Ext.alloc w3 (.cells (Pipe.cells ⟨k,k,1,0,1⟩).toArray 149))
  have hr4:=hDm.var.grown hg4 (fun e=>hDm.o2.not_row hDm.var (by decide) _ e rfl)
  have r0:=hr4.cell 0
  have r1:=hr4.cell 1
  simp at r0 r1
  have rf:=hr4.frozen
  have rl:=hr4.lt
  have hD4:=hDm.app2 hg4 ho4
  clear hDm hr4 ho4 hg4 p0 p1 pf pl hD
  have p0:=hD4.var.cell 0
  have p1:=hD4.var.cell 1
  simp at p0 p1
  have pf:=hD4.var.frozen
  have pl:=hD4.var.lt
  have q0:=hD4.res.cell 0
  have q1:=hD4.res.cell 1
  simp at q0 q1
  have qf:=hD4.res.frozen
  have ql:=hD4.res.lt
  have HF:=hide (hD4.fin (by first | omega | (simp; done) | (simp; omega)) (by first | omega | (simp; done) | (simp; omega)))
  clear hD4
  go_wp2_with fail
  refine bodyPost_ret (v:= .agg #[.slice A1 ns.length c1,.slice A4 ps4.length c4]) (by simp [results,Tryz.results157,go_sem,q0,q1]) rfl ?_
  exact HF.out
 have b2:(x==2)=false:=by rw [beq_eq_false_iff_ne]; exact h2
 by_cases h3:x=3
 ·subst h3
  have p0:=hD.var.cell 0
  have p1:=hD.var.cell 1
  simp at p0 p1
  have pf:=hD.var.frozen
  have pl:=hD.var.lt
  go_wp2_with (at_builtin; go_must (refine wpList_append_grow rfl _ _ 25 rfl (w.heap.size+1) 149 _ 5 40 Tryz.underlying25 pipe_info rfl (by decide) Pipe.cells pipe_len pipe_one' _ _ rfl (hD.o2.ext (Ext.alloc _ _)) _ 1 1 [⟨k,ns.length,1,0,1⟩] rfl (new_one pipe_len w3 149 ⟨k,ns.length,1,0,1⟩) (by simp; omega) (by omega) (by first | exact Nat.le_refl _ | omega | (simp; done) | (simp; omega)) ?_))
  intro v4 w4 ho4 hg4
  have hl4:(ps++[(⟨k,ns.length,1,0,1⟩:Pipe)]).length≤13:=by simp; omega
  generalize ps++[(⟨k,ns.length,1,0,1⟩:Pipe)]=ps4 at *
  obtain ⟨A4,c4,rfl,-,-⟩:=ho4.form
  have hDm:=hD.more (Ext.alloc w3 (.cells (Pipe.cells ⟨k,ns.length,1,0,1⟩).toArray 149))
  have hr4:=hDm.var.grown hg4 (fun e=>hDm.o2.not_row hDm.var (by decide) _ e rfl)
  have r0:=hr4.cell 0
  have r1:=hr4.cell 1
  simp at r0 r1
  have rf:=hr4.frozen
  have rl:=hr4.lt
  have hD4:=hDm.app2 hg4 ho4
  clear hDm hr4 ho4 hg4 p0 p1 pf pl hD
  have p0:=hD4.var.cell 0
  have p1:=hD4.var.cell 1
  simp at p0 p1
  have pf:=hD4.var.frozen
  have pl:=hD4.var.lt
  have q0:=hD4.res.cell 0
  have q1:=hD4.res.cell 1
  simp at q0 q1
  have qf:=hD4.res.frozen
  have ql:=hD4.res.lt
  have HF:=hide (hD4.fin (by first | omega | (simp; done) | (simp; omega)) (by first | omega | (simp; done) | (simp; omega)))
  clear hD4
  go_wp2_with fail
  refine bodyPost_ret (v:= .agg #[.slice A1 ns.length c1,.slice A4 ps4.length c4]) (by simp [results,Tryz.results157,go_sem,q0,q1]) rfl ?_
  exact HF.out
 have b3:(x==3)=false:=by rw [beq_eq_false_iff_ne]; exact h3
 by_cases h4:x=4
 ·subst h4
  by_cases hp0:ps.length=0
  ·rw [hp0] at hD
   have p0:=hD.var.cell 0
   have p1:=hD.var.cell 1
   simp at p0 p1
   have pf:=hD.var.frozen
   have pl:=hD.var.lt
   have q0:=hD.res.cell 0
   have q1:=hD.res.cell 1
   simp at q0 q1
   have qf:=hD.res.frozen
   have ql:=hD.res.lt
   have HF:=hide (hD.fin (by first | omega | (simp; done) | (simp; omega)) (by first | omega | (simp; done) | (simp; omega)))
   clear hD
   go_wp2_with fail
   refine bodyPost_ret (v:= .agg #[.slice A1 ns.length c1,.slice A2 0 c2]) (by simp [results,Tryz.results157,go_sem,q0,q1]) rfl ?_
   exact HF.out
  ·obtain ⟨pp,hpp⟩:∃pp,ps[0]? =some pp:=⟨_,List.getElem?_eq_getElem (by omega)⟩
   obtain ⟨b,c2',he,hbg⟩:=hD.form2 hpp
   simp only [Value.slice.injEq,true_and] at he
   obtain ⟨rfl,rfl⟩:=he
   have hp1:decide (0<ps.length)=true:=decide_eq_true (by omega)
   have p0:=hD.var.cell 0
   have p1:=hD.var.cell 1
   simp at p0 p1
   have pf:=hD.var.frozen
   have pl:=hD.var.lt
   go_wp2_with fail
   refine wp_region_phT [(w1.heap.size,1)] (.two [0,1,3] 2 (.one [] 4 (.one [5] 6 (.one [7,8] 9 (.last [])))) 4 (.one [] 2 (.one [5] 6 (.one [7,8] 9 (.last []))))) (by kernel_rfl) (by kernel_rfl) (by intro c a w d v h; cases d <;> exact h) ?_
   simp only [wpPhT,pickL,nthO]
   repeat (go_big_quiet_step (fail))
   refine wpQuiet_nil ?_
   refine ⟨?_,?_⟩
   ·have hDA:=hD.more ((Ext.alloc w3 (.cells #[.int .i64 0,.int .i64 1000,.int .i64 1001] 2)).drew)
    have hR:=(Row.new w3 2 [.int .i64 0,.int .i64 1000,.int .i64 1001]).drew
    have hal3:=hD.src.lt
    have hv3:=hD.var.lt
    go_wp2_with fail
    refine ⟨SameC.of_ext ((Ext.alloc _ _).drew) (by simp; omega),wpQuiet_nil ?_⟩
    go_wp2_with fail
    refine (c_next 3 hDA.src (by omega) (by omega)).mono ?_
    rintro e w4 ⟨y,rfl,hy0,hy1,hs4,ho4⟩
    have hD4:=hDA.draw hs4 ho4
    have hR4:=hR.only ho4 (by omega)
    obtain ⟨j,rfl⟩:=Int.eq_ofNat_of_zero_le hy0
    have hj:j<3:=by omega
    obtain ⟨z,hz,hzs⟩:∃z:Int,w4.cell? ⟨w3.heap.size,j,none⟩=some (.int .i64 z)∧True:=by
     rw [hR4.cell]; rcases (show j=0∨j=1∨j=2 by omega) with rfl | rfl | rfl <;> exact ⟨_,rfl,by first | trivial | decide⟩
    have hsm:SameC [(w1.heap.size,1)] w3 w4:=(SameC.of_ext (Ext.alloc w3 (.cells #[.int .i64 0,.int .i64 1000,.int .i64 1001] 2)).drew (by simp; omega)).trans (SameC.of_only ho4 (by simp; omega))
    have hb4:=hR4.lt
    clear hDA hR hR4 hs4 ho4
    obtain ⟨b5,c5,he,hb5,-,hf5,hc5,hD5⟩:=hD4.setPipe (u:= .int .i64 z) (y:=⟨pp.src,pp.dst,z,pp.volume,pp.limit⟩) hpp (j:=2) (by omega) rfl
    simp only [Value.slice.injEq,Option.some.injEq,Addr.mk.injEq,and_true,true_and] at he
    obtain ⟨rfl,rfl⟩:=he
    have hc0:=hc5 2 _ rfl
    simp only [Nat.zero_mul,Nat.zero_add] at hc0 hD5
    have hfk:=hf5 2
    clear hc5 hf5
    have hlen:(ps.set 0 ⟨pp.src,pp.dst,z,pp.volume,pp.limit⟩).length=ps.length:=by simp
    go_wp2_with fail
    refine ⟨hsm,?_⟩
    repeat (go_big_quiet_step (fail))
    refine wpQuiet_nil ?_
    go_wp2_with fail
    refine ⟨hsm,?_⟩
    repeat (go_big_quiet_step (fail))
    refine wpQuiet_nil ?_
    go_wp2_with fail
    refine ⟨hsm.setCell (by first | (simp; done) | (simp; omega)) _,?_⟩
    repeat (go_big_quiet_step (fail))
    refine wpQuiet_nil ?_
    clear hsm hc0 hfk hz
    have p0:=hD5.var.cell 0
    have p1:=hD5.var.cell 1
    simp at p0 p1
    have pf:=hD5.var.frozen
    have pl:=hD5.var.lt
    have q0:=hD5.res.cell 0
    have q1:=hD5.res.cell 1
    simp at q0 q1
    have qf:=hD5.res.frozen
    have ql:=hD5.res.lt
    have HF:=hide (hD5.fin (by first | omega | (simp; done) | (simp; omega)) (by first | omega | (simp; done) | (simp; omega)))
    clear hD5
    go_wp2_with fail
    refine bodyPost_ret (v:= .agg #[.slice A1 ns.length c1,.slice (some ⟨b,0,none⟩) ps.length c2]) (by simp [results,Tryz.results157,go_sem,q0,q1]) rfl ?_
    exact HF.out
   ·have hDA:=hD.more (Ext.refl w3).drew
    have hal3:=hD.src.lt
    have hv3:=hD.var.lt
    go_wp2_with fail
    refine (c_next 3 hDA.src (by omega) (by omega)).mono ?_
    rintro e w4' ⟨y,rfl,hy0,hy1,hs4,ho4⟩
    have hD4':=hDA.draw hs4 ho4
    obtain ⟨j,rfl⟩:=Int.eq_ofNat_of_zero_le hy0
    have hj:j<3:=by omega
    have hR4:=Row.new w4' 2 [.int .i64 0,.int .i64 1000,.int .i64 1001]
    have hD4:=hD4'.more (Ext.alloc w4' (.cells #[.int .i64 0,.int .i64 1000,.int .i64 1001] 2))
    have hsz:w3.heap.size≤w4'.heap.size:=ho4.size
    have hsm0:SameC [(w1.heap.size,1)] w3 w4':=(SameC.refl _ w3).drew.trans (SameC.of_only ho4 (by simp; omega))
    have hsm:SameC [(w1.heap.size,1)] w3 (w4'.alloc (.cells #[.int .i64 0,.int .i64 1000,.int .i64 1001] 2)):=hsm0.trans (SameC.of_ext (Ext.alloc _ _) (by simp; omega))
    go_wp2_with fail
    refine ⟨hsm0,wpQuiet_nil ?_⟩
    go_wp2_with fail
    obtain ⟨w4,HW4⟩:∃w4,Hid (w4'.alloc (.cells #[.int .i64 0,.int .i64 1000,.int .i64 1001] 2)=w4):=⟨_,hide rfl⟩
    rw [HW4.out] at hR4 hD4 hsm ⊢
    obtain ⟨z,hz,hzs⟩:∃z:Int,w4.cell? ⟨w4'.heap.size,j,none⟩=some (.int .i64 z)∧True:=by
     rw [hR4.cell]; rcases (show j=0∨j=1∨j=2 by omega) with rfl | rfl | rfl <;> exact ⟨_,rfl,by first | trivial | decide⟩
    have hb4:=hR4.lt
    clear hDA hR4 hs4 ho4 hD4' hsm0 hsz
    obtain ⟨b5,c5,he,hb5,-,hf5,hc5,hD5⟩:=hD4.setPipe (u:= .int .i64 z) (y:=⟨pp.src,pp.dst,z,pp.volume,pp.limit⟩) hpp (j:=2) (by omega) rfl
    simp only [Value.slice.injEq,Option.some.injEq,Addr.mk.injEq,and_true,true_and] at he
    obtain ⟨rfl,rfl⟩:=he
    have hc0:=hc5 2 _ rfl
    simp only [Nat.zero_mul,Nat.zero_add] at hc0 hD5
    have hfk:=hf5 2
    clear hc5 hf5
    have hlen:(ps.set 0 ⟨pp.src,pp.dst,z,pp.volume,pp.limit⟩).length=ps.length:=by simp
    go_wp2_with fail
    refine ⟨hsm,?_⟩
    repeat (go_big_quiet_step (fail))
    refine wpQuiet_nil ?_
    go_wp2_with fail
    refine ⟨hsm,?_⟩
    repeat (go_big_quiet_step (fail))
    refine wpQuiet_nil ?_
    go_wp2_with fail
    refine ⟨hsm.setCell (by first | (simp; done) | (simp; omega)) _,?_⟩
    repeat (go_big_quiet_step (fail))
    refine wpQuiet_nil ?_
    clear hsm hc0 hfk hz
    have p0:=hD5.var.cell 0
    have p1:=hD5.var.cell 1
    simp at p0 p1
    have pf:=hD5.var.frozen
    have pl:=hD5.var.lt
    have q0:=hD5.res.cell 0
    have q1:=hD5.res.cell 1
    simp at q0 q1
    have qf:=hD5.res.frozen
    have ql:=hD5.res.lt
    have HF:=hide (hD5.fin (by first | omega | (simp; done) | (simp; omega)) (by first | omega | (simp; done) | (simp; omega)))
    clear hD5
    go_wp2_with fail
    refine bodyPost_ret (v:= .agg #[.slice A1 ns.length c1,.slice (some ⟨b,0,none⟩) ps.length c2]) (by simp [results,Tryz.results157,go_sem,q0,q1]) rfl ?_
    exact HF.out
 have b4:(x==4)=false:=by rw [beq_eq_false_iff_ne]; exact h4
 by_cases h5:x=5
 ·subst h5
  by_cases hp0:ps.length=0
  ·rw [hp0] at hD
   have p0:=hD.var.cell 0
   have p1:=hD.var.cell 1
   simp at p0 p1
   have pf:=hD.var.frozen
   have pl:=hD.var.lt
   have q0:=hD.res.cell 0
   have q1:=hD.res.cell 1
   simp at q0 q1
   have qf:=hD.res.frozen
   have ql:=hD.res.lt
   have HF:=hide (hD.fin (by first | omega | (simp; done) | (simp; omega)) (by first | omega | (simp; done) | (simp; omega)))
   clear hD
   go_wp2_with fail
   refine bodyPost_ret (v:= .agg #[.slice A1 ns.length c1,.slice A2 0 c2]) (by simp [results,Tryz.results157,go_sem,q0,q1]) rfl ?_
   exact HF.out
  ·obtain ⟨pp,hpp⟩:∃pp,ps[0]? =some pp:=⟨_,List.getElem?_eq_getElem (by omega)⟩
   obtain ⟨b,c2',he,hbg⟩:=hD.form2 hpp
   simp only [Value.slice.injEq,true_and] at he
   obtain ⟨rfl,rfl⟩:=he
   have hp1:decide (0<ps.length)=true:=decide_eq_true (by omega)
   have p0:=hD.var.cell 0
   have p1:=hD.var.cell 1
   simp at p0 p1
   have pf:=hD.var.frozen
   have pl:=hD.var.lt
   go_wp2_with fail
   refine wp_region_phT [(w1.heap.size,1)] (.two [0,1,3] 2 (.one [] 4 (.one [5] 6 (.one [7,8] 9 (.last [])))) 4 (.one [] 2 (.one [5] 6 (.one [7,8] 9 (.last []))))) (by kernel_rfl) (by kernel_rfl) (by intro c a w d v h; cases d <;> exact h) ?_
   simp only [wpPhT,pickL,nthO]
   repeat (go_big_quiet_step (fail))
   refine wpQuiet_nil ?_
   refine ⟨?_,?_⟩
   ·have hDA:=hD.more ((Ext.alloc w3 (.cells #[.int .i64 0,.int .i64 30000,.int .i64 30001] 2)).drew)
    have hR:=(Row.new w3 2 [.int .i64 0,.int .i64 30000,.int .i64 30001]).drew
    have hal3:=hD.src.lt
    have hv3:=hD.var.lt
    go_wp2_with fail
    refine ⟨SameC.of_ext ((Ext.alloc _ _).drew) (by simp; omega),wpQuiet_nil ?_⟩
    go_wp2_with fail
    refine (c_next 3 hDA.src (by omega) (by omega)).mono ?_
    rintro e w4 ⟨y,rfl,hy0,hy1,hs4,ho4⟩
    have hD4:=hDA.draw hs4 ho4
    have hR4:=hR.only ho4 (by omega)
    obtain ⟨j,rfl⟩:=Int.eq_ofNat_of_zero_le hy0
    have hj:j<3:=by omega
    obtain ⟨z,hz,hzs⟩:∃z:Int,w4.cell? ⟨w3.heap.size,j,none⟩=some (.int .i64 z)∧True:=by
     rw [hR4.cell]; rcases (show j=0∨j=1∨j=2 by omega) with rfl | rfl | rfl <;> exact ⟨_,rfl,by first | trivial | decide⟩
    have hsm:SameC [(w1.heap.size,1)] w3 w4:=(SameC.of_ext (Ext.alloc w3 (.cells #[.int .i64 0,.int .i64 30000,.int .i64 30001] 2)).drew (by simp; omega)).trans (SameC.of_only ho4 (by simp; omega))
    have hb4:=hR4.lt
    clear hDA hR hR4 hs4 ho4
    obtain ⟨b5,c5,he,hb5,-,hf5,hc5,hD5⟩:=hD4.setPipe (u:= .int .i64 z) (y:=⟨pp.src,pp.dst,pp.k,pp.volume,z⟩) hpp (j:=4) (by omega) rfl
    simp only [Value.slice.injEq,Option.some.injEq,Addr.mk.injEq,and_true,true_and] at he
    obtain ⟨rfl,rfl⟩:=he
    have hc0:=hc5 4 _ rfl
    simp only [Nat.zero_mul,Nat.zero_add] at hc0 hD5
    have hfk:=hf5 4
    clear hc5 hf5
    have hlen:(ps.set 0 ⟨pp.src,pp.dst,pp.k,pp.volume,z⟩).length=ps.length:=by simp
    go_wp2_with fail
    refine ⟨hsm,?_⟩
    repeat (go_big_quiet_step (fail))
    refine wpQuiet_nil ?_
    go_wp2_with fail
    refine ⟨hsm,?_⟩
    repeat (go_big_quiet_step (fail))
    refine wpQuiet_nil ?_
    go_wp2_with fail
    refine ⟨hsm.setCell (by first | (simp; done) | (simp; omega)) _,?_⟩
    repeat (go_big_quiet_step (fail))
    refine wpQuiet_nil ?_
    clear hsm hc0 hfk hz
    have p0:=hD5.var.cell 0
    have p1:=hD5.var.cell 1
    simp at p0 p1
    have pf:=hD5.var.frozen
    have pl:=hD5.var.lt
    have q0:=hD5.res.cell 0
    have q1:=hD5.res.cell 1
    simp at q0 q1
    have qf:=hD5.res.frozen
    have ql:=hD5.res.lt
    have HF:=hide (hD5.fin (by first | omega | (simp; done) | (simp; omega)) (by first | omega | (simp; done) | (simp; omega)))
    clear hD5
    go_wp2_with fail
    refine bodyPost_ret (v:= .agg #[.slice A1 ns.length c1,.slice (some ⟨b,0,none⟩) ps.length c2]) (by simp [results,Tryz.results157,go_sem,q0,q1]) rfl ?_
    exact HF.out
   ·have hDA:=hD.more (Ext.refl w3).drew
    have hal3:=hD.src.lt
    have hv3:=hD.var.lt
    go_wp2_with fail
    refine (c_next 3 hDA.src (by omega) (by omega)).mono ?_
    rintro e w4' ⟨y,rfl,hy0,hy1,hs4,ho4⟩
    have hD4':=hDA.draw hs4 ho4
    obtain ⟨j,rfl⟩:=Int.eq_ofNat_of_zero_le hy0
    have hj:j<3:=by omega
    have hR4:=Row.new w4' 2 [.int .i64 0,.int .i64 30000,.int .i64 30001]
    have hD4:=hD4'.more (Ext.alloc w4' (.cells #[.int .i64 0,.int .i64 30000,.int .i64 30001] 2))
    have hsz:w3.heap.size≤w4'.heap.size:=ho4.size
    have hsm0:SameC [(w1.heap.size,1)] w3 w4':=(SameC.refl _ w3).drew.trans (SameC.of_only ho4 (by simp; omega))
    have hsm:SameC [(w1.heap.size,1)] w3 (w4'.alloc (.cells #[.int .i64 0,.int .i64 30000,.int .i64 30001] 2)):=hsm0.trans (SameC.of_ext (Ext.alloc _ _) (by simp; omega))
    go_wp2_with fail
    refine ⟨hsm0,wpQuiet_nil ?_⟩
    go_wp2_with fail
    obtain ⟨w4,HW4⟩:∃w4,Hid (w4'.alloc (.cells #[.int .i64 0,.int .i64 30000,.int .i64 30001] 2)=w4):=⟨_,hide rfl⟩
    rw [HW4.out] at hR4 hD4 hsm ⊢
    obtain ⟨z,hz,hzs⟩:∃z:Int,w4.cell? ⟨w4'.heap.size,j,none⟩=some (.int .i64 z)∧True:=by
     rw [hR4.cell]; rcases (show j=0∨j=1∨j=2 by omega) with rfl | rfl | rfl <;> exact ⟨_,rfl,by first | trivial | decide⟩
    have hb4:=hR4.lt
    clear hDA hR4 hs4 ho4 hD4' hsm0 hsz
    obtain ⟨b5,c5,he,hb5,-,hf5,hc5,hD5⟩:=hD4.setPipe (u:= .int .i64 z) (y:=⟨pp.src,pp.dst,pp.k,pp.volume,z⟩) hpp (j:=4) (by omega) rfl
    simp only [Value.slice.injEq,Option.some.injEq,Addr.mk.injEq,and_true,true_and] at he
    obtain ⟨rfl,rfl⟩:=he
    have hc0:=hc5 4 _ rfl
    simp only [Nat.zero_mul,Nat.zero_add] at hc0 hD5
    have hfk:=hf5 4
    clear hc5 hf5
    have hlen:(ps.set 0 ⟨pp.src,pp.dst,pp.k,pp.volume,z⟩).length=ps.length:=by simp
    go_wp2_with fail
    refine ⟨hsm,?_⟩
    repeat (go_big_quiet_step (fail))
    refine wpQuiet_nil ?_
    go_wp2_with fail
    refine ⟨hsm,?_⟩
    repeat (go_big_quiet_step (fail))
    refine wpQuiet_nil ?_
    go_wp2_with fail
    refine ⟨hsm.setCell (by first | (simp; done) | (simp; omega)) _,?_⟩
    repeat (go_big_quiet_step (fail))
    refine wpQuiet_nil ?_
    clear hsm hc0 hfk hz
    have p0:=hD5.var.cell 0
    have p1:=hD5.var.cell 1
    simp at p0 p1
    have pf:=hD5.var.frozen
    have pl:=hD5.var.lt
    have q0:=hD5.res.cell 0
    have q1:=hD5.res.cell 1
    simp at q0 q1
    have qf:=hD5.res.frozen
    have ql:=hD5.res.lt
    have HF:=hide (hD5.fin (by first | omega | (simp; done) | (simp; omega)) (by first | omega | (simp; done) | (simp; omega)))
    clear hD5
    go_wp2_with fail
    refine bodyPost_ret (v:= .agg #[.slice A1 ns.length c1,.slice (some ⟨b,0,none⟩) ps.length c2]) (by simp [results,Tryz.results157,go_sem,q0,q1]) rfl ?_
    exact HF.out
 have b5:(x==5)=false:=by rw [beq_eq_false_iff_ne]; exact h5
 by_cases h6:x=6
 ·subst h6
  have hD4:=hD.none1
  have p0:=hD.var.cell 0
  have p1:=hD.var.cell 1
  simp at p0 p1
  have pf:=hD.var.frozen
  have pl:=hD.var.lt
  have p0:=hD4.var.cell 0
  have p1:=hD4.var.cell 1
  simp at p0 p1
  have pf:=hD4.var.frozen
  have pl:=hD4.var.lt
  have q0:=hD4.res.cell 0
  have q1:=hD4.res.cell 1
  simp at q0 q1
  have qf:=hD4.res.frozen
  have ql:=hD4.res.lt
  have HF:=hide (hD4.fin (by first | omega | (simp; done) | (simp; omega)) (by first | omega | (simp; done) | (simp; omega)))
  clear hD4
  go_wp2_with fail
  refine bodyPost_ret (v:= .agg #[.slice none 0 0,.slice A2 ps.length c2]) (by simp [results,Tryz.results157,go_sem,q0,q1]) rfl ?_
  exact HF.out
 ·have b6:(x==6)=false:=by rw [beq_eq_false_iff_ne]; exact h6
  have p0:=hD.var.cell 0
  have p1:=hD.var.cell 1
  simp at p0 p1
  have pf:=hD.var.frozen
  have pl:=hD.var.lt
  have q0:=hD.res.cell 0
  have q1:=hD.res.cell 1
  simp at q0 q1
  have qf:=hD.res.frozen
  have ql:=hD.res.lt
  have HF:=hide (hD.fin (by first | omega | (simp; done) | (simp; omega)) (by first | omega | (simp; done) | (simp; omega)))
  clear hD
  go_wp2_with fail
  refine bodyPost_ret (v:= .agg #[.slice A1 ns.length c1,.slice A2 ps.length c2]) (by simp [results,Tryz.results157,go_sem,q0,q1]) rfl ?_
  exact HF.out
end
end Go.Proofs.YtinindjjapblcaaGreatDoor
