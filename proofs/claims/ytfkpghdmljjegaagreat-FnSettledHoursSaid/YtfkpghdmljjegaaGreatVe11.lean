/-
  The reference's draw of a network and a chord: the walk.
-/
import Derived.Test.YtfkpghdmljjegaaGreatVe10
namespace Go.Proofs.YtfkpghdmljjegaaGreat
open Go.RowKit
section
variable {w0 w wr wr':World} {a n c g:Nat} {A:Option Addr} {v1 v2 v3 v':Value} {ns:List Node} {ps qs:List Pipe}
def DrawnNet3 (w0:World) (a:Nat) (A:Option Addr) (n c:Nat) (w:World) (e:Ending) (w':World):Prop:=
 ∃(v1 v2:Value) (ns:List Node) (ps:List Pipe) (x:Int),e= .returned (.tuple #[.agg #[v1,v2],.int .i64 x])∧Src w0 w' a A n c∧Only a w w'∧OwnL w' (w.heap.size+1) 223 3 Node.cells v1 ns∧OwnL w' (w.heap.size+1) 181 5 Pipe.cells v2 ps∧ns.length≤7∧ps.length≤30∧Short ns
theorem ASt.fin3 (h:ASt w0 w a A n c g v1 v2 ns ps wr) (h2:ns.length≤7) (h3:ps.length≤30) (x:Int):
  DrawnNet3 w0 a A n c w (.returned (.tuple #[.agg #[v1,v2],.int .i64 x])) (putCells wr w.heap.size 0 [v1,v2]):=by
 have hl:=h.lt
 have hle:=h.src.le0
 exact ⟨v1,v2,ns,ps,x,rfl,h.src.put (by omega) (by omega) _ _,h.only.putNew (Nat.le_refl _) _ _,h.o1.put h.res (by decide) _ _,h.o2.put h.res (by decide) _ _,h2,h3,h.nm⟩
theorem ASt.turn (h:ASt w0 w a A n c g v1 v2 ns ps wr) {u1 u2:Value} {ns':List Node} {ps':List Pipe} (hs:Src w0 wr' a A n c) (ho:Only a wr wr')
  (o1:OwnL wr' (wr.heap.size+1) 223 3 Node.cells u1 ns') (o2:OwnL wr' (wr.heap.size+1) 181 5 Pipe.cells u2 ps') (hn:Short ns'):
  ASt w0 w a A n c g u1 u2 ns' ps' ((wr'.setCell ⟨g,0,none⟩ u1).setCell ⟨g,1,none⟩ u2):=by
 have hl:=h.lt
 have hgg:=h.hg
 have hle:=h.src.le0
 have hv:=h.var.lt
 have hr:=h.res.lt
 have hon:=h.only.trans ho
 refine ⟨hl,(hs.set (by show w0.heap.size≤g; omega) (by show g≠a; omega) _).set (by show w0.heap.size≤g; omega) (by show g≠a; omega) _,?_,?_,?_,hgg,?_,?_,hn⟩
 ·exact (hon.grown ((Only.refl g _).setCell rfl u1) (fun k hk=>by simp at hk; omega)).grown ((Only.refl g _).setCell rfl u2) (fun k hk=>by simp at hk; omega)
 ·exact ((h.res.only ho (by omega)).far (by show w.heap.size≠g; omega) _).far (by show w.heap.size≠g; omega) _
 ·exact ((h.var.only ho (by omega)).set_ 0 u1).set_ 1 u2
 ·exact ((o1.farK (p:=⟨g,0,none⟩) (by show g<wr.heap.size+1; omega) _).farK (p:=⟨g,1,none⟩) (by show g<wr.heap.size+1; omega) _).lowG (by omega)
 ·exact ((o2.farK (p:=⟨g,0,none⟩) (by show g<wr.heap.size+1; omega) _).farK (p:=⟨g,1,none⟩) (by show g<wr.heap.size+1; omega) _).lowG (by omega)
set_option maxHeartbeats 4000000 in
theorem c_l05DrawChord (h:Src w0 w a A n c):
  Calls Tryz.prog 259 #[.pointer (some ⟨a,0,none⟩)] w (DrawnNet3 w0 a A n c w):=by
 have hal:=h.lt
 have hle:=h.le0
 go_enter Tryz.func259,Tryz.ntmps259
 go_wp2_with fail
 refine (c_l05DrawLoops (h.more (Ext.alloc _ _))).mono ?_
 rintro e w1 ⟨v1,v2,ns,ps,rfl,hs1,ho1,o1,o2,hn7,hp,hnm⟩
 have hD0:=ASt.new hal hs1 ho1 (o1.lowG (by simp)) (o2.lowG (by simp)) hnm
 have hz1:=ho1.size
 simp at hz1
 obtain ⟨A1,c1,rfl,_⟩:=o1.form
 obtain ⟨A2,c2,rfl,_⟩:=o2.form
 clear hs1 ho1 o1 o2 hnm
 go_wp2_with fail
 refine (c_next 12 hD0.src (by omega) (by omega)).mono ?_
 rintro e w2 ⟨x2,rfl,hx2,hx2',hs2,ho2⟩
 have hD:=hD0.draw hs2 ho2
 clear hD0 hs2 ho2
 by_cases h0:x2=0
 ·subst h0
  clear hx2 hx2'
  have p0:=hD.var.cell 0
  have p1:=hD.var.cell 1
  simp at p0 p1
  have pf:=hD.var.frozen
  have pl:=hD.var.lt
  go_wp2_with fail
  refine (c_l02DrawAny hD.src).mono ?_
  rintro e w3 ⟨v1,v2,ns',ps',rfl,hs3,ho3,o1,o2,hn7',hp',hnm⟩
  have hD3:=hD.turn hs3 ho3 o1 o2 hnm
  have hv3:=hD.var.only ho3 (by have:=hD.lt; have:=hD.hg; omega)
  obtain ⟨A1',c1',rfl,_⟩:=o1.form
  obtain ⟨A2',c2',rfl,_⟩:=o2.form
  have r0:=hv3.cell 0
  have r1:=hv3.cell 1
  simp at r0 r1
  have rf:=hv3.frozen
  have rl:=hv3.lt
  clear hD hs3 ho3 o1 o2 hnm hv3 p0 p1 pf pl hn7 hp
  have hn7:=hn7'
  have hp:=hp'
  obtain ⟨w4,HW4⟩:∃w4,Hid (((w3.setCell ⟨w1.heap.size,0,none⟩ (.slice A1' ns'.length c1')).setCell ⟨w1.heap.size,1,none⟩ (.slice A2' ps'.length c2'))=w4):=⟨_,hide rfl⟩
  rw [HW4.out] at hD3
  have hD:=hD3
  clear hD3
  have p0:=hD.var.cell 0
  have p1:=hD.var.cell 1
  simp at p0 p1
  have pf:=hD.var.frozen
  have pl:=hD.var.lt
  go_wp2_with fail
  rw [HW4.out]
  obtain ⟨_,_,he1,hsl1⟩:=hD.o1.sl node_len (by omega)
  obtain ⟨_,_,he2,hsl2⟩:=hD.o2.sl pipe_len (by omega)
  simp only [Value.slice.injEq,true_and] at he1 he2
  obtain ⟨rfl,rfl⟩:=he1
  obtain ⟨rfl,rfl⟩:=he2
  refine (c_ChordsOf A1' A2' ns'.length c1' ps'.length c2' ns' ps' _ hsl1 hsl2 (fun x hx=>Nat.le_trans (hD.nm x hx) (by omega))).mono ?_
  rintro e w5 ⟨v5,E,z5,rfl,hE,hEl,hx5⟩
  obtain ⟨A5,c5,rfl,hs5⟩:=hE.sl intC_len (by omega)
  have hD5:=hD.more hx5
  have har:=hD.src.lt
  have hrw:=hD.res.lt
  clear hD hsl1 hsl2 hx5 p0 p1 pf pl
  by_cases hE0:E.length=0
  ·go_wp2_with fail
   have p0:=hD5.var.cell 0
   have p1:=hD5.var.cell 1
   simp at p0 p1
   have pf:=hD5.var.frozen
   have pl:=hD5.var.lt
   go_wp2_with fail
   refine wp_region_phC [(w1.heap.size,0),(w1.heap.size,1)] [([0,1,2,3,4],5),([],6)] [7] (by kernel_rfl) (by kernel_rfl) (by intro c a w d v h; cases d <;> exact h) ?_
   simp only [wpPhC,pickL,nthO]
   repeat (go_big_quiet_step (fail))
   refine wpQuiet_nil ?_
   go_wp2_with fail
   refine (c_l02DrawIndex ps'.length (by omega) (hD5.src.more (Ext.refl _).drew)).mono ?_
   rintro e w7 ⟨x7,rfl,hs7,ho7⟩
   have hD7:=hD5.draw hs7 ((Only.refl a w5).drew.trans ho7)
   have hsm:=(SameC.refl [(w1.heap.size,0),(w1.heap.size,1)] w5).drew.trans (SameC.of_only ho7 (by have:=hD5.var.lt; have:=hD5.hg; have:=hD5.lt; simp; omega))
   clear hD5 hs7 ho7 p0 p1 pf pl
   go_wp2_with fail
   refine ⟨hsm,?_⟩
   repeat (go_big_quiet_step (fail))
   refine wpQuiet_nil ?_
   have q0:=hD7.res.cell 0
   have q1:=hD7.res.cell 1
   simp at q0 q1
   have qf:=hD7.res.frozen
   have ql:=hD7.res.lt
   have HF:=hide (hD7.fin3 (by omega) (by omega) x7)
   have hgg:=hD7.hg
   clear hD7
   go_wp2_with fail
   refine ⟨(hsm.setCell (by simp; omega) _).setCell (by simp; omega) _,?_⟩
   repeat (go_big_quiet_step (fail))
   refine wpQuiet_nil ?_
   go_wp2_with fail
   refine bodyPost_ret (v:= .tuple #[.agg #[.slice A1' ns'.length c1',.slice A2' ps'.length c2'],.int .i64 x7]) (by simp [results,Tryz.results259,go_sem,q0,q1]) rfl ?_
   exact HF.out
  ·go_wp2_with fail
   refine (c_next 8 hD5.src (by omega) (by omega)).mono ?_
   rintro e w6 ⟨x6,rfl,hx6,hx6',hs6,ho6⟩
   have hD6:=hD5.draw hs6 ho6
   have hE6:=hE.only ho6 har
   have har6:=hD5.src.lt
   clear hD5 hs6 ho6 hE hs5
   by_cases h6:x6=0
   ·subst h6
    clear hx6 hx6'
    go_wp2_with fail
    have p0:=hD6.var.cell 0
    have p1:=hD6.var.cell 1
    simp at p0 p1
    have pf:=hD6.var.frozen
    have pl:=hD6.var.lt
    go_wp2_with fail
    refine wp_region_phC [(w1.heap.size,0),(w1.heap.size,1)] [([0,1,2,3,4],5),([],6)] [7] (by kernel_rfl) (by kernel_rfl) (by intro c a w d v h; cases d <;> exact h) ?_
    simp only [wpPhC,pickL,nthO]
    repeat (go_big_quiet_step (fail))
    refine wpQuiet_nil ?_
    go_wp2_with fail
    refine (c_l02DrawIndex ps'.length (by omega) (hD6.src.more (Ext.refl _).drew)).mono ?_
    rintro e w7 ⟨x7,rfl,hs7,ho7⟩
    have hD7:=hD6.draw hs7 ((Only.refl a w6).drew.trans ho7)
    have hsm:=(SameC.refl [(w1.heap.size,0),(w1.heap.size,1)] w6).drew.trans (SameC.of_only ho7 (by have:=hD6.var.lt; have:=hD6.hg; have:=hD6.lt; simp; omega))
    clear hD6 hs7 ho7 p0 p1 pf pl
    go_wp2_with fail
    refine ⟨hsm,?_⟩
    repeat (go_big_quiet_step (fail))
    refine wpQuiet_nil ?_
    have q0:=hD7.res.cell 0
    have q1:=hD7.res.cell 1
    simp at q0 q1
    have qf:=hD7.res.frozen
    have ql:=hD7.res.lt
    have HF:=hide (hD7.fin3 (by omega) (by omega) x7)
    have hgg:=hD7.hg
    clear hD7
    go_wp2_with fail
    refine ⟨(hsm.setCell (by simp; omega) _).setCell (by simp; omega) _,?_⟩
    repeat (go_big_quiet_step (fail))
    refine wpQuiet_nil ?_
    go_wp2_with fail
    refine bodyPost_ret (v:= .tuple #[.agg #[.slice A1' ns'.length c1',.slice A2' ps'.length c2'],.int .i64 x7]) (by simp [results,Tryz.results259,go_sem,q0,q1]) rfl ?_
    exact HF.out
   ·have b6:(x6==0)=false:=by rw [beq_eq_false_iff_ne]; exact h6
    have p0:=hD6.var.cell 0
    have p1:=hD6.var.cell 1
    simp at p0 p1
    have pf:=hD6.var.frozen
    have pl:=hD6.var.lt
    go_wp2_with fail
    refine wp_region_phT [(w1.heap.size,0),(w1.heap.size,1)] (.one [0,1,2,3,4] 5 (.two [6] 7 (.one [] 8 (.last [9])) 8 (.one [] 7 (.last [9])))) (by kernel_rfl) (by kernel_rfl) (by intro c a w d v h; cases d <;> exact h) ?_
    simp only [wpPhT,pickL,nthO]
    repeat (go_big_quiet_step (fail))
    refine wpQuiet_nil ?_
    go_wp2_with fail
    refine (c_next E.length (hD6.src.more (Ext.refl _).drew) (by omega) (by omega)).mono ?_
    rintro e w7 ⟨y,rfl,hy0,hy1,hs7,ho7⟩
    obtain ⟨y,rfl⟩:=Int.eq_ofNat_of_zero_le hy0
    have hyE:y<E.length:=by omega
    have hD7:=hD6.draw hs7 ((Only.refl a w6).drew.trans ho7)
    have hE7:=hE6.only ((Only.refl a w6).drew.trans ho7) har
    have hsm:=(SameC.refl [(w1.heap.size,0),(w1.heap.size,1)] w6).drew.trans (SameC.of_only ho7 (by have:=hD6.var.lt; have:=hD6.hg; have:=hD6.lt; simp; omega))
    obtain ⟨b5,o5,z7,rfl,hb5,-,hz7⟩:=(hE7.slE intC_len (by omega)).get hyE
    have hz70:=hz7 0 _ rfl
    simp only [Nat.add_zero,Nat.mul_one] at hz70
    have hb5w:=hE7.block_le (k:=b5) rfl
    clear hD6 hs7 ho7 p0 p1 pf pl hE6 hE7 hz7
    have hgg:=hD7.hg
    have hrl:=hD7.res.lt
    have hb5n:b5≠w.heap.size:=by omega
    have q0:=hD7.res.cell 0
    have q1:=hD7.res.cell 1
    simp at q0 q1
    have qf:=hD7.res.frozen
    have ql:=hD7.res.lt
    have HF:=hide (hD7.fin3 (by omega) (by omega) z7)
    clear hD7
    go_wp2_with fail
    refine ⟨hsm,?_⟩
    repeat (go_big_quiet_step (fail))
    refine wpQuiet_nil ?_
    refine ⟨?_,?_⟩
    ·go_wp2_with fail
     refine ⟨hsm,?_⟩
     repeat (go_big_quiet_step (fail))
     refine wpQuiet_nil ?_
     go_wp2_with fail
     refine ⟨(hsm.setCell (by simp; omega) _).setCell (by simp; omega) _,?_⟩
     repeat (go_big_quiet_step (fail))
     refine wpQuiet_nil ?_
     go_wp2_with fail
     refine bodyPost_ret (v:= .tuple #[.agg #[.slice A1' ns'.length c1',.slice A2' ps'.length c2'],.int .i64 z7]) (by simp [results,Tryz.results259,go_sem,q0,q1]) rfl ?_
     exact HF.out
    ·go_wp2_with fail
     refine ⟨(hsm.setCell (by simp; omega) _).setCell (by simp; omega) _,?_⟩
     repeat (go_big_quiet_step (fail))
     refine wpQuiet_nil ?_
     go_wp2_with fail
     refine ⟨(hsm.setCell (by simp; omega) _).setCell (by simp; omega) _,?_⟩
     repeat (go_big_quiet_step (fail))
     refine wpQuiet_nil ?_
     go_wp2_with fail
     refine bodyPost_ret (v:= .tuple #[.agg #[.slice A1' ns'.length c1',.slice A2' ps'.length c2'],.int .i64 z7]) (by simp [results,Tryz.results259,go_sem,q0,q1]) rfl ?_
     exact HF.out
 ·have b0:(x2==0)=false:=by rw [beq_eq_false_iff_ne]; exact h0
  have p0:=hD.var.cell 0
  have p1:=hD.var.cell 1
  simp at p0 p1
  have pf:=hD.var.frozen
  have pl:=hD.var.lt
  go_wp2_with fail
  obtain ⟨_,_,he1,hsl1⟩:=hD.o1.sl node_len (by omega)
  obtain ⟨_,_,he2,hsl2⟩:=hD.o2.sl pipe_len (by omega)
  simp only [Value.slice.injEq,true_and] at he1 he2
  obtain ⟨rfl,rfl⟩:=he1
  obtain ⟨rfl,rfl⟩:=he2
  refine (c_ChordsOf A1 A2 ns.length c1 ps.length c2 ns ps _ hsl1 hsl2 (fun x hx=>Nat.le_trans (hD.nm x hx) (by omega))).mono ?_
  rintro e w5 ⟨v5,E,z5,rfl,hE,hEl,hx5⟩
  obtain ⟨A5,c5,rfl,hs5⟩:=hE.sl intC_len (by omega)
  have hD5:=hD.more hx5
  have har:=hD.src.lt
  have hrw:=hD.res.lt
  clear hD hsl1 hsl2 hx5 p0 p1 pf pl
  by_cases hE0:E.length=0
  ·go_wp2_with fail
   have p0:=hD5.var.cell 0
   have p1:=hD5.var.cell 1
   simp at p0 p1
   have pf:=hD5.var.frozen
   have pl:=hD5.var.lt
   go_wp2_with fail
   refine wp_region_phC [(w1.heap.size,0),(w1.heap.size,1)] [([0,1,2,3,4],5),([],6)] [7] (by kernel_rfl) (by kernel_rfl) (by intro c a w d v h; cases d <;> exact h) ?_
   simp only [wpPhC,pickL,nthO]
   repeat (go_big_quiet_step (fail))
   refine wpQuiet_nil ?_
   go_wp2_with fail
   refine (c_l02DrawIndex ps.length (by omega) (hD5.src.more (Ext.refl _).drew)).mono ?_
   rintro e w7 ⟨x7,rfl,hs7,ho7⟩
   have hD7:=hD5.draw hs7 ((Only.refl a w5).drew.trans ho7)
   have hsm:=(SameC.refl [(w1.heap.size,0),(w1.heap.size,1)] w5).drew.trans (SameC.of_only ho7 (by have:=hD5.var.lt; have:=hD5.hg; have:=hD5.lt; simp; omega))
   clear hD5 hs7 ho7 p0 p1 pf pl
   go_wp2_with fail
   refine ⟨hsm,?_⟩
   repeat (go_big_quiet_step (fail))
   refine wpQuiet_nil ?_
   have q0:=hD7.res.cell 0
   have q1:=hD7.res.cell 1
   simp at q0 q1
   have qf:=hD7.res.frozen
   have ql:=hD7.res.lt
   have HF:=hide (hD7.fin3 (by omega) (by omega) x7)
   have hgg:=hD7.hg
   clear hD7
   go_wp2_with fail
   refine ⟨(hsm.setCell (by simp; omega) _).setCell (by simp; omega) _,?_⟩
   repeat (go_big_quiet_step (fail))
   refine wpQuiet_nil ?_
   go_wp2_with fail
   refine bodyPost_ret (v:= .tuple #[.agg #[.slice A1 ns.length c1,.slice A2 ps.length c2],.int .i64 x7]) (by simp [results,Tryz.results259,go_sem,q0,q1]) rfl ?_
   exact HF.out
  ·go_wp2_with fail
   refine (c_next 8 hD5.src (by omega) (by omega)).mono ?_
   rintro e w6 ⟨x6,rfl,hx6,hx6',hs6,ho6⟩
   have hD6:=hD5.draw hs6 ho6
   have hE6:=hE.only ho6 har
   have har6:=hD5.src.lt
   clear hD5 hs6 ho6 hE hs5
   by_cases h6:x6=0
   ·subst h6
    clear hx6 hx6'
    go_wp2_with fail
    have p0:=hD6.var.cell 0
    have p1:=hD6.var.cell 1
    simp at p0 p1
    have pf:=hD6.var.frozen
    have pl:=hD6.var.lt
    go_wp2_with fail
    refine wp_region_phC [(w1.heap.size,0),(w1.heap.size,1)] [([0,1,2,3,4],5),([],6)] [7] (by kernel_rfl) (by kernel_rfl) (by intro c a w d v h; cases d <;> exact h) ?_
    simp only [wpPhC,pickL,nthO]
    repeat (go_big_quiet_step (fail))
    refine wpQuiet_nil ?_
    go_wp2_with fail
    refine (c_l02DrawIndex ps.length (by omega) (hD6.src.more (Ext.refl _).drew)).mono ?_
    rintro e w7 ⟨x7,rfl,hs7,ho7⟩
    have hD7:=hD6.draw hs7 ((Only.refl a w6).drew.trans ho7)
    have hsm:=(SameC.refl [(w1.heap.size,0),(w1.heap.size,1)] w6).drew.trans (SameC.of_only ho7 (by have:=hD6.var.lt; have:=hD6.hg; have:=hD6.lt; simp; omega))
    clear hD6 hs7 ho7 p0 p1 pf pl
    go_wp2_with fail
    refine ⟨hsm,?_⟩
    repeat (go_big_quiet_step (fail))
    refine wpQuiet_nil ?_
    have q0:=hD7.res.cell 0
    have q1:=hD7.res.cell 1
    simp at q0 q1
    have qf:=hD7.res.frozen
    have ql:=hD7.res.lt
    have HF:=hide (hD7.fin3 (by omega) (by omega) x7)
    have hgg:=hD7.hg
    clear hD7
    go_wp2_with fail
    refine ⟨(hsm.setCell (by simp; omega) _).setCell (by simp; omega) _,?_⟩
    repeat (go_big_quiet_step (fail))
    refine wpQuiet_nil ?_
    go_wp2_with fail
    refine bodyPost_ret (v:= .tuple #[.agg #[.slice A1 ns.length c1,.slice A2 ps.length c2],.int .i64 x7]) (by simp [results,Tryz.results259,go_sem,q0,q1]) rfl ?_
    exact HF.out
   ·have b6:(x6==0)=false:=by rw [beq_eq_false_iff_ne]; exact h6
    have p0:=hD6.var.cell 0
    have p1:=hD6.var.cell 1
    simp at p0 p1
    have pf:=hD6.var.frozen
    have pl:=hD6.var.lt
    go_wp2_with fail
    refine wp_region_phT [(w1.heap.size,0),(w1.heap.size,1)] (.one [0,1,2,3,4] 5 (.two [6] 7 (.one [] 8 (.last [9])) 8 (.one [] 7 (.last [9])))) (by kernel_rfl) (by kernel_rfl) (by intro c a w d v h; cases d <;> exact h) ?_
    simp only [wpPhT,pickL,nthO]
    repeat (go_big_quiet_step (fail))
    refine wpQuiet_nil ?_
    go_wp2_with fail
    refine (c_next E.length (hD6.src.more (Ext.refl _).drew) (by omega) (by omega)).mono ?_
    rintro e w7 ⟨y,rfl,hy0,hy1,hs7,ho7⟩
    obtain ⟨y,rfl⟩:=Int.eq_ofNat_of_zero_le hy0
    have hyE:y<E.length:=by omega
    have hD7:=hD6.draw hs7 ((Only.refl a w6).drew.trans ho7)
    have hE7:=hE6.only ((Only.refl a w6).drew.trans ho7) har
    have hsm:=(SameC.refl [(w1.heap.size,0),(w1.heap.size,1)] w6).drew.trans (SameC.of_only ho7 (by have:=hD6.var.lt; have:=hD6.hg; have:=hD6.lt; simp; omega))
    obtain ⟨b5,o5,z7,rfl,hb5,-,hz7⟩:=(hE7.slE intC_len (by omega)).get hyE
    have hz70:=hz7 0 _ rfl
    simp only [Nat.add_zero,Nat.mul_one] at hz70
    have hb5w:=hE7.block_le (k:=b5) rfl
    clear hD6 hs7 ho7 p0 p1 pf pl hE6 hE7 hz7
    have hgg:=hD7.hg
    have hrl:=hD7.res.lt
    have hb5n:b5≠w.heap.size:=by omega
    have q0:=hD7.res.cell 0
    have q1:=hD7.res.cell 1
    simp at q0 q1
    have qf:=hD7.res.frozen
    have ql:=hD7.res.lt
    have HF:=hide (hD7.fin3 (by omega) (by omega) z7)
    clear hD7
    go_wp2_with fail
    refine ⟨hsm,?_⟩
    repeat (go_big_quiet_step (fail))
    refine wpQuiet_nil ?_
    refine ⟨?_,?_⟩
    ·go_wp2_with fail
     refine ⟨hsm,?_⟩
     repeat (go_big_quiet_step (fail))
     refine wpQuiet_nil ?_
     go_wp2_with fail
     refine ⟨(hsm.setCell (by simp; omega) _).setCell (by simp; omega) _,?_⟩
     repeat (go_big_quiet_step (fail))
     refine wpQuiet_nil ?_
     go_wp2_with fail
     refine bodyPost_ret (v:= .tuple #[.agg #[.slice A1 ns.length c1,.slice A2 ps.length c2],.int .i64 z7]) (by simp [results,Tryz.results259,go_sem,q0,q1]) rfl ?_
     exact HF.out
    ·go_wp2_with fail
     refine ⟨(hsm.setCell (by simp; omega) _).setCell (by simp; omega) _,?_⟩
     repeat (go_big_quiet_step (fail))
     refine wpQuiet_nil ?_
     go_wp2_with fail
     refine ⟨(hsm.setCell (by simp; omega) _).setCell (by simp; omega) _,?_⟩
     repeat (go_big_quiet_step (fail))
     refine wpQuiet_nil ?_
     go_wp2_with fail
     refine bodyPost_ret (v:= .tuple #[.agg #[.slice A1 ns.length c1,.slice A2 ps.length c2],.int .i64 z7]) (by simp [results,Tryz.results259,go_sem,q0,q1]) rfl ?_
     exact HF.out
end
end Go.Proofs.YtfkpghdmljjegaaGreat
