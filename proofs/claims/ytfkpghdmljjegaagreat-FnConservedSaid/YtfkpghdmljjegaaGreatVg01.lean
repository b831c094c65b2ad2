/-
  The reference's draw of a settlement that may be conserved.
-/
import Derived.Test.YtfkpghdmljjegaaGreatVe35
import Derived.Test.YtfkpghdmljjegaaGreatVe43
import Derived.Test.YtfkpghdmljjegaaGreatVg00
import Derived.Test.YtfkpghdmljjegaaGreatVe16
import Derived.Test.YtfkpghdmljjegaaGreatVe40
namespace Go.Proofs.YtfkpghdmljjegaaGreat
open Go.RowKit
def DrawnIC (w:World) (e:Ending) (w':World):Prop:=
 ∃(A0 A1 A2 A3 A4:Option Addr) (n0 c0 n1 c1 n2 c2 n3 c3 n4 c4:Nat) (g ch:List Int) (ps:List Posting),e= .returned (.agg #[.slice A0 n0 c0,.slice A1 n1 c1,.slice A2 n2 c2,.slice A3 n3 c3,.slice A4 n4 c4])∧SOut w.heap.size w' A2 A3 A4 n2 c2 n3 c3 n4 c4 g ch ps∧n2≤1000∧n3≤1000∧Ext w w'
structure ISt (w:World) (a:Nat) (A:Option Addr) (n c gX:Nat) (G0 G1 G2 G3 G4:Option Addr) (g0 f0 g1 f1 g2 f2 g3 f3 g4 f4:Nat) (g ch:List Int) (ps:List Posting) (wr:World):Prop where
 lt:w.heap.size+1≤a
 src:Src w wr a A n c
 res:Row wr w.heap.size 28 [.slice none 0 0,.slice none 0 0,.slice none 0 0,.slice none 0 0,.slice none 0 0]
 box:Row wr gX 28 [.slice G0 g0 f0,.slice G1 g1 f1,.slice G2 g2 f2,.slice G3 g3 f3,.slice G4 g4 f4]
 hg:a<gX
 out:SOut (a+1) wr G2 G3 G4 g2 f2 g3 f3 g4 f4 g ch ps
 apt2:∀b,blkOf G2 g2=some b→b≠gX
 apt3:∀b,blkOf G3 g3=some b→b≠gX
section
variable {w wr wr':World} {a n c gX:Nat} {A:Option Addr} {G0 G1 G2 G3 G4:Option Addr} {g0 f0 g1 f1 g2 f2 g3 f3 g4 f4:Nat} {g ch:List Int} {ps:List Posting}
theorem ISt.draw (h:ISt w a A n c gX G0 G1 G2 G3 G4 g0 f0 g1 f1 g2 f2 g3 f3 g4 f4 g ch ps wr) (hs:Src w wr' a A n c) (ho:Only a wr wr'):ISt w a A n c gX G0 G1 G2 G3 G4 g0 f0 g1 f1 g2 f2 g3 f3 g4 f4 g ch ps wr':=
 have hl:=h.lt
 have hg:=h.hg
 ⟨h.lt,hs,h.res.only ho (by omega),h.box.only ho (by omega),h.hg,h.out.turn (S:=fun b=>b=a) (Turn.of_only ho (fun _=>rfl)) (fun b hb=>by omega),h.apt2,h.apt3⟩
theorem ISt.more (h:ISt w a A n c gX G0 G1 G2 G3 G4 g0 f0 g1 f1 g2 f2 g3 f3 g4 f4 g ch ps wr) (hx:Ext wr wr'):ISt w a A n c gX G0 G1 G2 G3 G4 g0 f0 g1 f1 g2 f2 g3 f3 g4 f4 g ch ps wr':=h.draw (h.src.more hx) (Only.of_ext hx a)
theorem ISt.setGot (h:ISt w a A n c gX G0 G1 G2 G3 G4 g0 f0 g1 f1 g2 f2 g3 f3 g4 f4 g ch ps wr) {k:Nat} (hk:k<g2):
  ∃b off z,G2=some ⟨b,off,none⟩∧a<b∧b<wr.heap.size∧b≠gX∧wr.cell? ⟨b,off+k,none⟩=some (.int .i64 z)∧(∀i,wr.frozen? ⟨b,i,none⟩=false)∧∀u:Int,ISt w a A n c gX G0 G1 G2 G3 G4 g0 f0 g1 f1 g2 f2 g3 f3 g4 f4 (g.set k u) ch ps (wr.setCell ⟨b,off+k,none⟩ (.int .i64 u)):=by
 obtain ⟨b,off,z,hA,hlo,hb,hz,hc,hf,hset⟩:=h.out.setGot hk
 have hl:=h.lt
 have hbk:blkOf G2 g2=some b:=by rw [hA]; unfold blkOf; rw [if_neg (by omega)]; rfl
 have hne:=h.apt2 b hbk
 exact ⟨b,off,z,hA,by omega,hb,hne,hc,hf,fun u=>⟨h.lt,h.src.set (p:=⟨b,off+k,none⟩) (by show w.heap.size≤b; omega) (by show b≠a; omega) _,h.res.far (p:=⟨b,off+k,none⟩) (by show w.heap.size≠b; omega) _,h.box.far (p:=⟨b,off+k,none⟩) (fun e=>hne e.symm) _,h.hg,hset u,h.apt2,h.apt3⟩⟩
theorem ISt.setChg (h:ISt w a A n c gX G0 G1 G2 G3 G4 g0 f0 g1 f1 g2 f2 g3 f3 g4 f4 g ch ps wr) {k:Nat} (hk:k<g3):
  ∃b off z,G3=some ⟨b,off,none⟩∧a<b∧b<wr.heap.size∧b≠gX∧wr.cell? ⟨b,off+k,none⟩=some (.int .i64 z)∧(∀i,wr.frozen? ⟨b,i,none⟩=false)∧∀u:Int,ISt w a A n c gX G0 G1 G2 G3 G4 g0 f0 g1 f1 g2 f2 g3 f3 g4 f4 g (ch.set k u) ps (wr.setCell ⟨b,off+k,none⟩ (.int .i64 u)):=by
 obtain ⟨b,off,z,hA,hlo,hb,hz,hc,hf,hset⟩:=h.out.setChg hk
 have hl:=h.lt
 have hbk:blkOf G3 g3=some b:=by rw [hA]; unfold blkOf; rw [if_neg (by omega)]; rfl
 have hne:=h.apt3 b hbk
 exact ⟨b,off,z,hA,by omega,hb,hne,hc,hf,fun u=>⟨h.lt,h.src.set (p:=⟨b,off+k,none⟩) (by show w.heap.size≤b; omega) (by show b≠a; omega) _,h.res.far (p:=⟨b,off+k,none⟩) (by show w.heap.size≠b; omega) _,h.box.far (p:=⟨b,off+k,none⟩) (fun e=>hne e.symm) _,h.hg,hset u,h.apt2,h.apt3⟩⟩
theorem SOut.fin {lo:Nat} (h:SOut lo wr G2 G3 G4 g2 f2 g3 f3 g4 f4 g ch ps) (hlo:w.heap.size<lo) (hx:Ext w wr) (l2:g2≤1000) (l3:g3≤1000):
  DrawnIC w (.returned (.agg #[.slice G0 g0 f0,.slice G1 g1 f1,.slice G2 g2 f2,.slice G3 g3 f3,.slice G4 g4 f4])) (((((wr.setCell ⟨w.heap.size,0,none⟩ (.slice G0 g0 f0)).setCell ⟨w.heap.size,1,none⟩ (.slice G1 g1 f1)).setCell ⟨w.heap.size,2,none⟩ (.slice G2 g2 f2)).setCell ⟨w.heap.size,3,none⟩ (.slice G3 g3 f3)).setCell ⟨w.heap.size,4,none⟩ (.slice G4 g4 f4)):=
 have tS:=Turn.fiveS (g:=w.heap.size) wr (.slice G0 g0 f0) (.slice G1 g1 f1) (.slice G2 g2 f2) (.slice G3 g3 f3) (.slice G4 g4 f4)
 ⟨G0,G1,G2,G3,G4,g0,f0,g1,f1,g2,f2,g3,f3,g4,f4,g,ch,ps,rfl,(h.turn tS (fun b hb=>by omega)).low (by omega),l2,l3,hx.turn tS (fun b hb=>by omega)⟩
end
theorem bad_out {w W5:World} {g:Nat} (hx:Ext w W5) (hz:w.heap.size<W5.heap.size) (hg:W5.heap.size=g):
  DrawnIC w (.returned (.agg #[.slice none 0 0,.slice none 0 0,.slice (some ⟨g,0,none⟩) 2 2,.slice (some ⟨g+1,0,none⟩) 1 1,.slice none 0 0])) ((((((((W5.alloc (.cells #[.int .i64 1,.int .i64 (-1)] 2)).alloc (.cells #[.int .i64 0] 2)).setCell ⟨w.heap.size,0,none⟩ (.slice none 0 0)).setCell ⟨w.heap.size,1,none⟩ (.slice none 0 0)).setCell ⟨w.heap.size,2,none⟩ (.slice (some ⟨g,0,none⟩) 2 2)).setCell ⟨w.heap.size,3,none⟩ (.slice (some ⟨g+1,0,none⟩) 1 1)).setCell ⟨w.heap.size,4,none⟩ (.slice none 0 0))):=by
 subst hg
 have r1:RowOf (W5.alloc (.cells #[.int .i64 1,.int .i64 (-1)] 2)) W5.heap.size 2 intC [1,-1]:=Row.new W5 2 [.int .i64 1,.int .i64 (-1)]
 have r2:RowOf ((W5.alloc (.cells #[.int .i64 1,.int .i64 (-1)] 2)).alloc (.cells #[.int .i64 0] 2)) (W5.heap.size+1) 2 intC [0]:=Row.newG (W:=W5.alloc (.cells #[.int .i64 1,.int .i64 (-1)] 2)) 2 [.int .i64 0] (by simp)
 have r1':=RowOf.ext r1 (Ext.alloc _ (.cells #[.int .i64 0] 2))
 have hs:SOut W5.heap.size ((W5.alloc (.cells #[.int .i64 1,.int .i64 (-1)] 2)).alloc (.cells #[.int .i64 0] 2)) (some ⟨W5.heap.size,0,none⟩) (some ⟨W5.heap.size+1,0,none⟩) none 2 2 1 1 0 0 [1,-1] [0] []:=by
  refine ⟨RowOf.slice r1' intC_len rfl (by simp),RowOf.slice r2 intC_len rfl (by simp),SliceOf.nil.2 (by decide),fun b hb=> ?_,fun b hb=> ?_,fun b hb=>by simp [blkOf] at hb,⟨fun b hb=> ?_,fun b hb=> ?_,fun b hb h3=> ?_,fun b hb h4=>by simp [blkOf] at h4,fun b hb h4=>by simp [blkOf] at h4⟩⟩
  ·have:=blk_is hb; omega
  ·have:=blk_is hb; omega
  ·obtain rfl:=blk_is hb; exact ⟨_,_,r1'⟩
  ·obtain rfl:=blk_is hb; exact ⟨_,_,r2⟩
  ·have h1:=blk_is hb; have h2:=blk_is h3; omega
 exact hs.fin hz ((hx.and_alloc _).and_alloc _) (by omega) (by omega)
set_option maxRecDepth 8000 in
set_option maxHeartbeats 4000000 in
theorem c_DrawIsConserved (A:Option Addr) (n c:Nat) (bs:List Int) (w:World) (hbs:SliceOf w 1 byteC A n c bs) (hbd:∀z∈bs,0≤z∧z≤255) (hn:n≤1048576):
  Calls Tryz.prog 15 #[.slice A n c] w (DrawnIC w):=by
 have HD:=hide hbd
 clear hbd
 have hR:=Row.new w 28 [.slice none 0 0,.slice none 0 0,.slice none 0 0,.slice none 0 0,.slice none 0 0]
 have hx0:Ext w (w.alloc (.cells #[.slice none 0 0,.slice none 0 0,.slice none 0 0,.slice none 0 0,.slice none 0 0] 28)):=Ext.alloc _ _
 go_enter Tryz.func15,Tryz.ntmps15
 go_wp2_with fail
 refine (c_l01From A n c bs _ (hbs.ext hx0) HD.out).mono ?_
 rintro e w1 ⟨a,rfl,ha,ha1,hs1,hx1⟩
 have hX1:=hx0.trans hx1
 have hz:w.heap.size+1≤a:=by simp at ha; omega
 have hS:Src w w1 a A n c:=⟨⟨bs,hbs,HD.out⟩,hn,by omega,hX1,hs1⟩
 have hR1:=hR.ext hx1
 have hSl:=hS.lt
 clear ha ha1 hs1 hx0 hx1 hR
 go_wp2_with fail
 refine (c_DrawSettleHour A n c bs _ (hbs.ext hX1) HD.out hn).mono ?_
 rintro e w2 ⟨A1,A2,n1,c1,n2,c2,ns,ps,A3,n3,c3,xs,A4,n4,c4,L,h,A5,n5,c5,rd,band,percent,price,K,kn,kc,ts,rfl,hat,hx2⟩
 have HNM:=hide hat.hr.nm
 obtain ⟨W3,HW3⟩:∃W3,Hid ((w2.alloc (.cells #[.slice A1 n1 c1,.slice A2 n2 c2] 45)).alloc (.cells #[.int .i64 band,.int .i64 percent,.int .i64 price,.slice K kn kc] 73)=W3):=⟨_,hide rfl⟩
 have hx3:Ext w2 W3:=by rw [←HW3.out]; exact (Ext.alloc _ _).and_alloc _
 have hx13:=hx2.trans hx3
 have hS3:=hS.more hx13
 have hR3:=hR1.ext hx13
 have hz13:=hx13.size
 obtain ⟨RR,HRR⟩:∃RR,Hid (shV n1 ns ps xs L h rd band percent price ts=RR):=⟨_,hide rfl⟩
 have a1:=hat.hr.s1.ext hx3
 have a2:=hat.hr.s2.ext hx3
 have a3:=hat.hr.s3.ext hx3
 have a4:=hat.hr.s4.ext hx3
 have a5:=hat.rd.ext hx3
 have a6:=hat.tm.ext hx3
 clear hat hx3 hx13 hx2 hS hR1 hX1 hbs
 go_wp2_with fail
 rw [HW3.out]
 refine (c_specSettleHour A1 A2 n1 c1 n2 c2 ns ps A3 n3 c3 xs A4 n4 c4 L h A5 n5 c5 rd band percent price K kn kc ts _ a1 a2 a3 a4 a5 a6 HNM.out).mono ?_
 rw [HRR.out]
 rintro e w4 ⟨G0,G1,G2,G3,G4,g0,f0,g1,f1,g2,f2,g3,f3,g4,f4,X,z,rfl,hX,hx4,HPX,hlo,hW⟩
 obtain ⟨rfl,rfl⟩:X=RR.1∧z=RR.2:=by have:=HPX.out; exact ⟨congrArg Prod.fst this,congrArg Prod.snd this⟩
 obtain ⟨gX,hgX⟩:∃gX,w4.heap.size=gX:=⟨_,rfl⟩
 obtain ⟨W5,HW5⟩:∃W5,Hid (w4.alloc (.cells #[.slice G0 g0 f0,.slice G1 g1 f1,.slice G2 g2 f2,.slice G3 g3 f3,.slice G4 g4 f4] 28)=W5):=⟨_,hide rfl⟩
 have hxb:Ext w4 W5:=by rw [←HW5.out]; exact Ext.alloc _ _
 have hSX:Row W5 gX 28 [.slice G0 g0 f0,.slice G1 g1 f1,.slice G2 g2 f2,.slice G3 g3 f3,.slice G4 g4 f4]:=by rw [←HW5.out, ←hgX]; exact Row.new w4 28 [.slice G0 g0 f0,.slice G1 g1 f1,.slice G2 g2 f2,.slice G3 g3 f3,.slice G4 g4 f4]
 have hz4:=hx4.size
 have hO:=(SOut.of hX hlo hW).more hxb
 have hI:ISt w a A n c gX G0 G1 G2 G3 G4 g0 f0 g1 f1 g2 f2 g3 f3 g4 f4 RR.1.got RR.1.chg RR.1.psn W5:=⟨hz,hS3.more (hx4.trans hxb),hR3.ext (hx4.trans hxb),hSX,by omega,hO.low (by omega),fun b hb=>by have:=hX.s2.blk hb; omega,fun b hb=>by have:=hX.s3.blk hb; omega⟩
 by_cases hz0:RR.2=0
 ·have hk:HrOk n1 ns ps xs L h:=(shC_ok (by
   have e:=HRR.out
   unfold shV at e
   split at e
   ·rename_i h0; exact h0
   ·rename_i h0; rw [←e] at hz0; exact absurd hz0 h0)).2.2.2
  have hX1:RR.1=stlH ps n1 xs L h rd band percent price ts:=by
   have e:=HRR.out
   unfold shV at e
   split at e
   ·rw [←e]
   ·rename_i h0; rw [←e] at hz0; exact absurd hz0 h0
  have l2:g2≤1000:=by rw [hX.s2.len,hX1]; exact (stl_lens hk).1
  have l16:g3=16:=by rw [hX.s3.len,hX1]; exact stl_chg _ _ _ _ _ _ _ _ _ _
  have l3:g3≤1000:=by omega
  have h2g:2<g3:=by omega
  have h3g:3<g3:=by omega
  clear l16
  rw [hz0]
  clear hX1 hk hz0 HRR HPX hO hSX hS3 hR3 hx4 hxb hlo hW hX a1 a2 a3 a4 a5 a6
  generalize RR.1.got=gl at *
  generalize RR.1.chg=cl at *
  generalize RR.1.psn=pl at *
  have hIl:=hI.src.lt
  go_wp2_with fail
  rw [HW5.out]
  refine (c_next 4 hI.src (by omega) (by omega)).mono ?_
  rintro e w6 ⟨x6,rfl,hx6,hx6',hs6,ho6⟩
  have hI6:=hI.draw hs6 ho6
  clear hI hs6 ho6 hIl
  rcases (by omega:x6=0∨x6=1∨x6=2∨x6=3) with rfl | rfl | rfl | rfl
  ·by_cases hg:0<g2
   ·have hgb:decide ((0:Int)<(g2:Int))=true:=decide_eq_true (by omega)
    obtain ⟨b,off,z,hG2,hb,hbl,hbx,hc,hf,hset⟩:=hI6.setGot (k:=0) hg
    subst hG2
    have hI7:=hset (wrap64 (z+1))
    simp only [Nat.add_zero] at hc hI7
    have hbw:b≠w.heap.size:=by have:=hI6.lt; omega
    have hbx':=hbx.symm
    have hbw':=hbw.symm
    clear hset
    have HF:=hide ((hI7).out.fin (G0:=G0) (G1:=G1) (g0:=g0) (f0:=f0) (g1:=g1) (f1:=f1) (w:=w) (by have:=(hI7).lt; omega) (hI7).src.ext l2 l3)
    have p0:=((hI6).box).cell 0
    have p1:=((hI6).box).cell 1
    have p2:=((hI6).box).cell 2
    have p3:=((hI6).box).cell 3
    have p4:=((hI6).box).cell 4
    simp at p0 p1 p2 p3 p4
    have plt:=((hI6).box).lt
    have r0:=((hI6).res).cell 0
    have r1:=((hI6).res).cell 1
    have r2:=((hI6).res).cell 2
    have r3:=((hI6).res).cell 3
    have r4:=((hI6).res).cell 4
    simp at r0 r1 r2 r3 r4
    have rf:=((hI6).res).frozen
    have rl:=((hI6).res).lt
    have hRr:=(hI7).res
    have hRF:=five_rowS (u0:= .slice G0 g0 f0) (u1:= .slice G1 g1 f1) (u2:= .slice (some ⟨b,off,none⟩) g2 f2) (u3:= .slice G3 g3 f3) (u4:= .slice G4 g4 f4) hRr
    have q0:=hRF.cell 0
    have q1:=hRF.cell 1
    have q2:=hRF.cell 2
    have q3:=hRF.cell 3
    have q4:=hRF.cell 4
    simp at q0 q1 q2 q3 q4
    clear hRF
    have hgx:=(hI6).hg
    have hgw:=(hI6).lt
    clear hRr
    clear hI6
    try clear hI7
    go_wp2_with fail
    refine bodyPost_ret (v:= .agg #[.slice G0 g0 f0,.slice G1 g1 f1,.slice (some ⟨b,off,none⟩) g2 f2,.slice G3 g3 f3,.slice G4 g4 f4]) (by simp [results,Tryz.results15,go_sem,q0,q1,q2,q3,q4]) rfl ?_
    exact HF.out
   ·have hgb:decide ((0:Int)<(g2:Int))=false:=decide_eq_false (by omega)
    have HF:=hide ((hI6).out.fin (G0:=G0) (G1:=G1) (g0:=g0) (f0:=f0) (g1:=g1) (f1:=f1) (w:=w) (by have:=(hI6).lt; omega) (hI6).src.ext l2 l3)
    have p0:=((hI6).box).cell 0
    have p1:=((hI6).box).cell 1
    have p2:=((hI6).box).cell 2
    have p3:=((hI6).box).cell 3
    have p4:=((hI6).box).cell 4
    simp at p0 p1 p2 p3 p4
    have plt:=((hI6).box).lt
    have r0:=((hI6).res).cell 0
    have r1:=((hI6).res).cell 1
    have r2:=((hI6).res).cell 2
    have r3:=((hI6).res).cell 3
    have r4:=((hI6).res).cell 4
    simp at r0 r1 r2 r3 r4
    have rf:=((hI6).res).frozen
    have rl:=((hI6).res).lt
    have hRr:=(hI6).res
    have hRF:=five_rowS (u0:= .slice G0 g0 f0) (u1:= .slice G1 g1 f1) (u2:= .slice G2 g2 f2) (u3:= .slice G3 g3 f3) (u4:= .slice G4 g4 f4) hRr
    have q0:=hRF.cell 0
    have q1:=hRF.cell 1
    have q2:=hRF.cell 2
    have q3:=hRF.cell 3
    have q4:=hRF.cell 4
    simp at q0 q1 q2 q3 q4
    clear hRF
    have hgx:=(hI6).hg
    have hgw:=(hI6).lt
    clear hRr
    clear hI6
    try clear hI6
    go_wp2_with fail
    refine bodyPost_ret (v:= .agg #[.slice G0 g0 f0,.slice G1 g1 f1,.slice G2 g2 f2,.slice G3 g3 f3,.slice G4 g4 f4]) (by simp [results,Tryz.results15,go_sem,q0,q1,q2,q3,q4]) rfl ?_
    exact HF.out
  ·obtain ⟨b,off,z,hG3,hb,hbl,hbx,hc,hf,hset⟩:=hI6.setChg (k:=2) (by omega)
   subst hG3
   have hI7:=hset (wrap64 (z+1))
   have hbw:b≠w.heap.size:=by have:=hI6.lt; omega
   have hbx':=hbx.symm
   have hbw':=hbw.symm
   clear hset
   have HF:=hide ((hI7).out.fin (G0:=G0) (G1:=G1) (g0:=g0) (f0:=f0) (g1:=g1) (f1:=f1) (w:=w) (by have:=(hI7).lt; omega) (hI7).src.ext l2 l3)
   have p0:=((hI6).box).cell 0
   have p1:=((hI6).box).cell 1
   have p2:=((hI6).box).cell 2
   have p3:=((hI6).box).cell 3
   have p4:=((hI6).box).cell 4
   simp at p0 p1 p2 p3 p4
   have plt:=((hI6).box).lt
   have r0:=((hI6).res).cell 0
   have r1:=((hI6).res).cell 1
   have r2:=((hI6).res).cell 2
   have r3:=((hI6).res).cell 3
   have r4:=((hI6).res).cell 4
   simp at r0 r1 r2 r3 r4
   have rf:=((hI6).res).frozen
   have rl:=((hI6).res).lt
   have hRr:=(hI7).res
   have hRF:=five_rowS (u0:= .slice G0 g0 f0) (u1:= .slice G1 g1 f1) (u2:= .slice G2 g2 f2) (u3:= .slice (some ⟨b,off,none⟩) g3 f3) (u4:= .slice G4 g4 f4) hRr
   have q0:=hRF.cell 0
   have q1:=hRF.cell 1
   have q2:=hRF.cell 2
   have q3:=hRF.cell 3
   have q4:=hRF.cell 4
   simp at q0 q1 q2 q3 q4
   clear hRF
   have hgx:=(hI6).hg
   have hgw:=(hI6).lt
   clear hRr
   clear hI6
   try clear hI7
   go_wp2_with fail
   refine bodyPost_ret (v:= .agg #[.slice G0 g0 f0,.slice G1 g1 f1,.slice G2 g2 f2,.slice (some ⟨b,off,none⟩) g3 f3,.slice G4 g4 f4]) (by simp [results,Tryz.results15,go_sem,q0,q1,q2,q3,q4]) rfl ?_
   exact HF.out
  ·have hIl:=hI6.src.lt
   go_wp2_with fail
   refine (c_next 4 hI6.src (by omega) (by omega)).mono ?_
   rintro e w7 ⟨x7,rfl,hx7,hx7',hs7,ho7⟩
   have hI7:=hI6.draw hs7 ho7
   clear hI6 hs7 ho7 hIl
   by_cases h7:x7=0
   ·subst h7
    have hI0:=hI7
    clear hI7
    obtain ⟨b,off,z,hG3,hb,hbl,hbx,hc,hf,-⟩:=(hI0).setChg (k:=2) (by omega)
    subst hG3
    have p0:=((hI0).box).cell 0
    have p1:=((hI0).box).cell 1
    have p2:=((hI0).box).cell 2
    have p3:=((hI0).box).cell 3
    have p4:=((hI0).box).cell 4
    simp at p0 p1 p2 p3 p4
    have plt:=((hI0).box).lt
    go_wp2_with fail
    refine wp_region_phZ [(gX,3),(b,off+2)] [([0,1,2,3,4,5,6,7],8)] [9,10] 11 (by kernel_rfl) (by kernel_rfl) (by intro c a w d v h; cases d <;> exact h) ?_
    simp only [wpPhZ,pickL,nthO]
    repeat (go_big_quiet_step (fail))
    refine wpQuiet_nil ?_
    have hId:=(hI0).more (Ext.refl _).drew
    have hlX:=(hI0).hg
    clear hI0
    go_wp2_with fail
    refine (c_next 2 hId.src (by omega) (by omega)).mono ?_
    rintro e w8 ⟨x8,rfl,hx8,hx8',hs8,ho8⟩
    have hI8:=hId.draw hs8 ho8
    obtain ⟨b',off',z',hA,hb',hbl',hbx',hc',hf',hset⟩:=hI8.setChg (k:=2) (by omega)
    have hbb:b=b'∧off=off':=by simpa using hA
    obtain ⟨rfl,rfl⟩:=hbb
    have hsm:SameC [(gX,3),(b,off+2)] w7 w8:=(SameC.refl _ _).drew.trans (SameC.of_only ho8 (by simp; omega))
    have hI9:=hset (wrap64 (wrap64 (z+1000000000)+x8))
    clear p0 p1 p2 p3 p4 plt
    have p0:=(hI8.box).cell 0
    have p1:=(hI8.box).cell 1
    have p2:=(hI8.box).cell 2
    have p3:=(hI8.box).cell 3
    have p4:=(hI8.box).cell 4
    simp at p0 p1 p2 p3 p4
    have plt:=(hI8.box).lt
    clear hset hI8 hId hs8 ho8 hA hc hf
    go_wp2_with fail
    refine ⟨hsm,?_⟩
    repeat (go_big_quiet_step (fail))
    refine wpQuiet_nil ?_
    clear hsm
    go_wp2_with fail
    clear p0 p1 p2 p3 p4 plt
    clear hc' hf'
    clear hb hbl hbx hb' hbl' hbx'
    obtain ⟨w9,HW9⟩:∃w9,Hid (w8.setCell ⟨b,off+2,none⟩ (.int .i64 (wrap64 (wrap64 (z+1000000000)+x8)))=w9):=⟨_,hide rfl⟩
    rw [HW9.out] at hI9 ⊢
    have hI0:=hI9
    clear hI9
    obtain ⟨b1,off1,z1,hG3,hb,hbl,hbx,hc,hf,-⟩:=hI0.setChg (k:=3) (by omega)
    obtain ⟨rfl,rfl⟩:b=b1∧off=off1:=by simpa using hG3
    have hgx:=hI0.hg
    have hgw:=hI0.lt
    have hbw:b≠w.heap.size:=by omega
    have hbx':=hbx.symm
    have hbw':=hbw.symm
    have p0:=(hI0.box).cell 0
    have p1:=(hI0.box).cell 1
    have p2:=(hI0.box).cell 2
    have p3:=(hI0.box).cell 3
    have p4:=(hI0.box).cell 4
    simp at p0 p1 p2 p3 p4
    have plt:=(hI0.box).lt
    go_wp2_with fail
    refine wp_region_phZ [(gX,3),(b,off+3)] [([0,1,2,3,4,5,6,7],8)] [9,10] 11 (by kernel_rfl) (by kernel_rfl) (by intro c a w d v h; cases d <;> exact h) ?_
    simp only [wpPhZ,pickL,nthO]
    repeat (go_big_quiet_step (fail))
    refine wpQuiet_nil ?_
    have hId:=hI0.more (Ext.refl _).drew
    clear hI0
    go_wp2_with fail
    refine (c_next 2 hId.src (by omega) (by omega)).mono ?_
    rintro e wA ⟨x9,rfl,hx9,hx9',hs9,ho9⟩
    have hIA:=hId.draw hs9 ho9
    obtain ⟨b2,off2,z2,hA,hb',hbl',hbx2,hc',hf',hset⟩:=hIA.setChg (k:=3) (by omega)
    obtain ⟨rfl,rfl⟩:b=b2∧off=off2:=by simpa using hA
    have hsm:SameC [(gX,3),(b,off+3)] w9 wA:=(SameC.refl _ _).drew.trans (SameC.of_only ho9 (by simp; omega))
    have hIB:=hset (wrap64 (wrap64 (z1-1000000000)-x9))
    clear p0 p1 p2 p3 p4 plt
    clear hset hId hs9 ho9 hA hG3 hc hf hbl hb HW9
    go_wp2_with fail
    refine ⟨hsm,?_⟩
    repeat (go_big_quiet_step (fail))
    refine wpQuiet_nil ?_
    clear hsm
    have HF:=hide ((hIB).out.fin (G0:=G0) (G1:=G1) (g0:=g0) (f0:=f0) (g1:=g1) (f1:=f1) (w:=w) (by have:=(hIB).lt; omega) (hIB).src.ext l2 l3)
    have p0:=((hIA).box).cell 0
    have p1:=((hIA).box).cell 1
    have p2:=((hIA).box).cell 2
    have p3:=((hIA).box).cell 3
    have p4:=((hIA).box).cell 4
    simp at p0 p1 p2 p3 p4
    have plt:=((hIA).box).lt
    have r0:=((hIA).res).cell 0
    have r1:=((hIA).res).cell 1
    have r2:=((hIA).res).cell 2
    have r3:=((hIA).res).cell 3
    have r4:=((hIA).res).cell 4
    simp at r0 r1 r2 r3 r4
    have rf:=((hIA).res).frozen
    have rl:=((hIA).res).lt
    have hRr:=(hIB).res
    have hRF:=five_rowS (u0:= .slice G0 g0 f0) (u1:= .slice G1 g1 f1) (u2:= .slice G2 g2 f2) (u3:= .slice (some ⟨b,off,none⟩) g3 f3) (u4:= .slice G4 g4 f4) hRr
    have q0:=hRF.cell 0
    have q1:=hRF.cell 1
    have q2:=hRF.cell 2
    have q3:=hRF.cell 3
    have q4:=hRF.cell 4
    simp at q0 q1 q2 q3 q4
    clear hRF
    have hgx:=(hIA).hg
    have hgw:=(hIA).lt
    clear hRr
    clear hIA
    try clear hIB
    go_wp2_with fail
    refine bodyPost_ret (v:= .agg #[.slice G0 g0 f0,.slice G1 g1 f1,.slice G2 g2 f2,.slice (some ⟨b,off,none⟩) g3 f3,.slice G4 g4 f4]) (by simp [results,Tryz.results15,go_sem,q0,q1,q2,q3,q4]) rfl ?_
    exact HF.out
   ·have hb7:(x7==0)=false:=beq_eq_false_iff_ne.2 h7
    have HF:=hide ((hI7).out.fin (G0:=G0) (G1:=G1) (g0:=g0) (f0:=f0) (g1:=g1) (f1:=f1) (w:=w) (by have:=(hI7).lt; omega) (hI7).src.ext l2 l3)
    have p0:=((hI7).box).cell 0
    have p1:=((hI7).box).cell 1
    have p2:=((hI7).box).cell 2
    have p3:=((hI7).box).cell 3
    have p4:=((hI7).box).cell 4
    simp at p0 p1 p2 p3 p4
    have plt:=((hI7).box).lt
    have r0:=((hI7).res).cell 0
    have r1:=((hI7).res).cell 1
    have r2:=((hI7).res).cell 2
    have r3:=((hI7).res).cell 3
    have r4:=((hI7).res).cell 4
    simp at r0 r1 r2 r3 r4
    have rf:=((hI7).res).frozen
    have rl:=((hI7).res).lt
    have hRr:=(hI7).res
    have hRF:=five_rowS (u0:= .slice G0 g0 f0) (u1:= .slice G1 g1 f1) (u2:= .slice G2 g2 f2) (u3:= .slice G3 g3 f3) (u4:= .slice G4 g4 f4) hRr
    have q0:=hRF.cell 0
    have q1:=hRF.cell 1
    have q2:=hRF.cell 2
    have q3:=hRF.cell 3
    have q4:=hRF.cell 4
    simp at q0 q1 q2 q3 q4
    clear hRF
    have hgx:=(hI7).hg
    have hgw:=(hI7).lt
    clear hRr
    clear hI7
    try clear hI7
    go_wp2_with fail
    refine bodyPost_ret (v:= .agg #[.slice G0 g0 f0,.slice G1 g1 f1,.slice G2 g2 f2,.slice G3 g3 f3,.slice G4 g4 f4]) (by simp [results,Tryz.results15,go_sem,q0,q1,q2,q3,q4]) rfl ?_
    exact HF.out
  ·have HF:=hide ((hI6).out.fin (G0:=G0) (G1:=G1) (g0:=g0) (f0:=f0) (g1:=g1) (f1:=f1) (w:=w) (by have:=(hI6).lt; omega) (hI6).src.ext l2 l3)
   have p0:=((hI6).box).cell 0
   have p1:=((hI6).box).cell 1
   have p2:=((hI6).box).cell 2
   have p3:=((hI6).box).cell 3
   have p4:=((hI6).box).cell 4
   simp at p0 p1 p2 p3 p4
   have plt:=((hI6).box).lt
   have r0:=((hI6).res).cell 0
   have r1:=((hI6).res).cell 1
   have r2:=((hI6).res).cell 2
   have r3:=((hI6).res).cell 3
   have r4:=((hI6).res).cell 4
   simp at r0 r1 r2 r3 r4
   have rf:=((hI6).res).frozen
   have rl:=((hI6).res).lt
   have hRr:=(hI6).res
   have hRF:=five_rowS (u0:= .slice G0 g0 f0) (u1:= .slice G1 g1 f1) (u2:= .slice G2 g2 f2) (u3:= .slice G3 g3 f3) (u4:= .slice G4 g4 f4) hRr
   have q0:=hRF.cell 0
   have q1:=hRF.cell 1
   have q2:=hRF.cell 2
   have q3:=hRF.cell 3
   have q4:=hRF.cell 4
   simp at q0 q1 q2 q3 q4
   clear hRF
   have hgx:=(hI6).hg
   have hgw:=(hI6).lt
   clear hRr
   clear hI6
   try clear hI6
   go_wp2_with fail
   refine bodyPost_ret (v:= .agg #[.slice G0 g0 f0,.slice G1 g1 f1,.slice G2 g2 f2,.slice G3 g3 f3,.slice G4 g4 f4]) (by simp [results,Tryz.results15,go_sem,q0,q1,q2,q3,q4]) rfl ?_
   exact HF.out
 ·have hb:(RR.2 != 0)=true:=by rw [bne_iff_ne]; exact hz0
  subst hgX
  have hR4:=hR3.ext hx4
  have hXb:=hS3.ext.trans (hx4.trans hxb)
  have hz5:W5.heap.size=w4.heap.size+1:=by rw [←HW5.out]; simp
  have hRr:=((hR4.ext hxb).ext (Ext.alloc W5 (.cells #[.int .i64 1,.int .i64 (-1)] 2))).ext (Ext.alloc _ (.cells #[.int .i64 0] 2))
  have HF:=hide (bad_out hXb (by omega) hz5)
  have r0:=(hR4).cell 0
  have r1:=(hR4).cell 1
  have r2:=(hR4).cell 2
  have r3:=(hR4).cell 3
  have r4:=(hR4).cell 4
  simp at r0 r1 r2 r3 r4
  have rf:=(hR4).frozen
  have rl:=(hR4).lt
  have HRr:=hide hRr
  have hRl:Row (((w4.alloc (.cells #[.slice G0 g0 f0,.slice G1 g1 f1,.slice G2 g2 f2,.slice G3 g3 f3,.slice G4 g4 f4] 28)).alloc (.cells #[.int .i64 1,.int .i64 (-1)] 2)).alloc (.cells #[.int .i64 0] 2)) w.heap.size 28 [.slice none 0 0,.slice none 0 0,.slice none 0 0,.slice none 0 0,.slice none 0 0]:=((hR4.ext (Ext.alloc _ _)).ext (Ext.alloc _ _)).ext (Ext.alloc _ _)
  clear rf r0 r1 r2 r3 r4
  have rf:=hRl.frozen
  have r0:=hRl.cell 0
  have r1:=hRl.cell 1
  have r2:=hRl.cell 2
  have r3:=hRl.cell 3
  have r4:=hRl.cell 4
  simp only [List.getElem?_cons_zero,List.getElem?_cons_succ] at r0 r1 r2 r3 r4
  clear hRl
  clear hI hO hSX hS3 hR3 hx4 hxb hlo hW hX a1 a2 a3 a4 a5 a6 hRr hR4 hXb hz5 hz0 HRR HPX hz4
  go_wp2_with fail
  rw [HW5.out]
  have hRr:=HRr.out
  have hRF:=five_rowS (u0:= .slice none 0 0) (u1:= .slice none 0 0) (u2:= .slice (some ⟨w4.heap.size+1,0,none⟩) 2 2) (u3:= .slice (some ⟨w4.heap.size+1+1,0,none⟩) 1 1) (u4:= .slice none 0 0) hRr
  have q0:=hRF.cell 0
  have q1:=hRF.cell 1
  have q2:=hRF.cell 2
  have q3:=hRF.cell 3
  have q4:=hRF.cell 4
  simp at q0 q1 q2 q3 q4
  clear hRF
  refine bodyPost_ret (v:= .agg #[.slice none 0 0,.slice none 0 0,.slice (some ⟨w4.heap.size+1,0,none⟩) 2 2,.slice (some ⟨w4.heap.size+1+1,0,none⟩) 1 1,.slice none 0 0]) (by simp [results,Tryz.results15,go_sem,q0,q1,q2,q3,q4]) rfl ?_
  exact HF.out
end Go.Proofs.YtfkpghdmljjegaaGreat
