/-
  The reference's draw of terms.
-/
import Derived.Test.YtfkpghdmljjegaaGreatVe20
import Derived.Test.YtfkpghdmljjegaaGreatVe01
import Derived.Test.YtfkpghdmljjegaaGreatVe07
import Derived.Test.YtfkpghdmljjegaaGreatVe18
namespace Go.Proofs.YtfkpghdmljjegaaGreat
open Go.RowKit
theorem SrcAt.kept {w w':World} {a n c base:Nat} {A:Option Addr} (h:SrcAt w a A n c) (hx:Kept base w w') (hb:a<base):SrcAt w' a A n c:=
 let ⟨p,s,hr,r⟩:=h; ⟨p,s,hr.kept hx hb,r⟩
def DrawnTerms (a:Nat) (A:Option Addr) (n c:Nat) (w:World) (e:Ending) (w':World):Prop:=
 ∃(band percent price:Int) (A':Option Addr) (n' c' g:Nat) (ts:List Tier),e= .returned (.agg #[.int .i64 band,.int .i64 percent,.int .i64 price,.slice A' n' c'])∧n'≤c'∧c'≤9223372036854775807∧w.heap.size≤g∧
  OwnS w' g 70 Tier.cells A' n' ts∧SrcAt w' a A n c∧Only a w w'
structure DSt (w0 w:World) (a:Nat) (A:Option Addr) (n c b3:Nat) (x1 x2 x3:Int) (wr:World) (v:Value) (L:List Tier):Prop where
 le0:w0.heap.size≤a
 lt1:a<w.heap.size
 lt2:w.heap.size<b3
 size:b3<wr.heap.size
 ext:Ext w0 wr
 src:SrcAt wr a A n c
 only:Only a w wr
 row2:Row wr w.heap.size 73 [.int .i64 0,.int .i64 0,.int .i64 0,.slice none 0 0]
 row3:Row wr b3 73 [.int .i64 x1,.int .i64 x2,.int .i64 x3,.slice none 0 0]
 own:OwnL wr (b3+1) 70 2 Tier.cells v L
section
variable {w0 w wr wr':World} {a n c b3:Nat} {A:Option Addr} {x1 x2 x3:Int} {v v':Value} {L L':List Tier}
theorem DSt.draw (h:DSt w0 w a A n c b3 x1 x2 x3 wr v L) (ho:Only a wr wr') (hs:SrcAt wr' a A n c):DSt w0 w a A n c b3 x1 x2 x3 wr' v L:=
 ⟨h.le0,h.lt1,h.lt2,Nat.lt_of_lt_of_le h.size ho.size,h.ext.only ho h.le0,hs,h.only.trans ho,h.row2.only ho (by have:=h.lt1; omega),h.row3.only ho (by have:=h.lt1; have:=h.lt2; omega),h.own.only ho (by have:=h.lt1; have:=h.lt2; omega)⟩
theorem DSt.more (h:DSt w0 w a A n c b3 x1 x2 x3 wr v L) (hx:Ext wr wr'):DSt w0 w a A n c b3 x1 x2 x3 wr' v L:=h.draw (Only.of_ext hx a) (h.src.ext hx)
theorem DSt.app (h:DSt w0 w a A n c b3 x1 x2 x3 wr v L) (hx:Kept (b3+1) wr wr') (ho:OwnL wr' (b3+1) 70 2 Tier.cells v' L'):DSt w0 w a A n c b3 x1 x2 x3 wr' v' L':=by
 obtain ⟨l0,l1,l2,sz,ex,sr,on,r2,r3,_⟩:=h
 exact ⟨l0,l1,l2,hx.size,⟨hx.os.trans ex.os,hx.tape.trans ex.tape,hx.output.trans ex.output,by have:=hx.size; omega,fun k hk=>(hx.block k (by omega)).trans (ex.block k hk)⟩,sr.kept hx (by omega),on.kept hx (by omega),r2.kept hx (by omega),r3.kept hx (by omega),ho⟩
theorem DSt.set3 (h:DSt w0 w a A n c b3 x1 x2 x3 wr v L) (i:Nat) (u:Value) {y1 y2 y3:Int} (he:[.int .i64 x1,.int .i64 x2,.int .i64 x3,.slice none 0 0].set i u=[.int .i64 y1,.int .i64 y2,.int .i64 y3,.slice none 0 0]):DSt w0 w a A n c b3 y1 y2 y3 (wr.setCell ⟨b3,i,none⟩ u) v L:=by
 obtain ⟨l0,l1,l2,sz,ex,sr,on,r2,r3,ow⟩:=h
 have ho:Only b3 wr (wr.setCell ⟨b3,i,none⟩ u):=(Only.refl b3 wr).setCell rfl u
 refine ⟨l0,l1,l2,Nat.lt_of_lt_of_le sz ho.size,ex.setCell (p:=⟨b3,i,none⟩) (by show w0.heap.size≤b3; omega) u,sr.only ho (by omega),?_,r2.only ho (by omega),he ▸ r3.set_ i u,ow.only ho (by omega)⟩
 exact ⟨ho.os.trans on.os,ho.tape.trans on.tape,ho.output.trans on.output,Nat.le_trans on.size ho.size,fun k hk hne=>(ho.block k (Nat.lt_of_lt_of_le hk on.size) (by simp; omega)).trans (on.block k hk hne)⟩
theorem draw_fin {A':Option Addr} {n' c' g:Nat} {ts:List Tier} {y1 y2 y3:Int} (l1:a<w.heap.size) (hs:SrcAt wr a A n c) (ho:Only a w wr) (hw:OwnS wr g 70 Tier.cells A' n' ts) (hg:w.heap.size<g) (h1:n'≤c') (h2:c'≤9223372036854775807):
  DrawnTerms a A n c w (.returned (.agg #[.int .i64 y1,.int .i64 y2,.int .i64 y3,.slice A' n' c'])) (putCells wr w.heap.size 0 [.int .i64 y1,.int .i64 y2,.int .i64 y3,.slice A' n' c']):=by
 have hk:Only w.heap.size wr (putCells wr w.heap.size 0 [.int .i64 y1,.int .i64 y2,.int .i64 y3,.slice A' n' c']):=(Only.refl _ _).put _ _
 refine ⟨y1,y2,y3,A',n',c',g,ts,rfl,h1,h2,by omega,hw.only hk (by omega),hs.only hk (by omega),?_⟩
 exact ⟨hk.os.trans ho.os,hk.tape.trans ho.tape,hk.output.trans ho.output,Nat.le_trans ho.size hk.size,fun k hk1 hne=>(hk.block k (Nat.lt_of_lt_of_le hk1 ho.size) (by simp; omega)).trans (ho.block k hk1 hne)⟩
end
theorem OwnS.set01 {w:World} {g:Nat} {t:TypeId} {A:Option Addr} {n:Nat} {p q:Int} {L:List Tier} (h:OwnS w g t Tier.cells A n (⟨p,q⟩::L)) (z:Int):OwnS (w.setCell ⟨g,1,none⟩ (.int .i64 z)) g t Tier.cells A n (⟨p,z⟩::L):=by
 refine ⟨h.1,fun hn=>⟨(h.2 hn).1,?_⟩⟩
 obtain ⟨r,hr⟩:=(h.2 hn).2
 refine ⟨r,?_⟩
 have:=hr.set_ 1 (.int .i64 z)
 simpa [Tier.cells] using this
theorem tier_one (y:Tier):∀u∈Tier.cells y,u.oneCell'=true:=by
 intro u hu
 simp [Tier.cells] at hu
 rcases hu with rfl | rfl <;> rfl
set_option maxHeartbeats 2000000 in
theorem c_l29Draw (a:Nat) (A:Option Addr) (n c:Nat) (bs:List Int) (w0 w:World) (hbs:SliceOf w0 1 byteC A n c bs) (hbd:∀z∈bs,0≤z∧z≤255) (hx0:Ext w0 w) (ha:w0.heap.size≤a) (hsrc:SrcAt w a A n c) (hn:n≤1048576):
  Calls Tryz.prog 131 #[.pointer (some ⟨a,0,none⟩)] w (DrawnTerms a A n c w):=by
 have nxt:=fun (m:Int) (w:World) hx0 hsrc=>c_l01Next a m A n c bs w0 w hbs hbd hx0 ha hsrc hn
 have NX:=hide nxt
 clear nxt
 have hal:=hsrc.lt
 go_enter Tryz.func131,Tryz.ntmps131
 go_wp2_with fail
 refine (NX.out 20 _ (hx0.and_alloc _) (hsrc.ext (Ext.alloc _ _)) (by omega) (by omega)).mono ?_
 rintro e w1 ⟨x1,rfl,hx1,hx2,hs1,ho1⟩
 have hE1:=(hx0.and_alloc _).only ho1 ha
 go_wp2_with fail
 refine (NX.out 12 _ hE1 hs1 (by omega) (by omega)).mono ?_
 rintro e w2 ⟨x2,rfl,hx3,hx4,hs2,ho2⟩
 have hE2:=hE1.only ho2 ha
 go_wp2_with fail
 refine (NX.out 60 _ hE2 hs2 (by omega) (by omega)).mono ?_
 rintro e w3 ⟨x3,rfl,hx5,hx6,hs3,ho3⟩
 have hE3:=hE2.only ho3 ha
 go_wp2_with fail
 have hR2:=((Row.new w 73 [.int .i64 0,.int .i64 0,.int .i64 0,.slice none 0 0]).only ho1 (by omega)).only ho2 (by omega) |>.only ho3 (by omega)
 have hO3:=((((Only.of_ext (Ext.alloc w _) a).trans ho1).trans ho2).trans ho3)
 have hsz3:=hR2.lt
 have hD:DSt w0 w a A n c w3.heap.size x1 x2 x3 ((w3.alloc (.cells #[.int .i64 x1,.int .i64 x2,.int .i64 x3,.slice none 0 0] 73)).alloc (.cells #[] 70)) (.slice (some ⟨w3.heap.size+1,0,none⟩) 0 0) []:=by
  refine ⟨ha,hal,hsz3,by simp; omega,(hE3.and_alloc _).and_alloc _,(hs3.ext (Ext.alloc _ _)).ext (Ext.alloc _ _),(hO3.trans (Only.of_ext (Ext.alloc _ _) _)).trans (Only.of_ext (Ext.alloc _ _) _),(hR2.alloc _).alloc _,(Row.new w3 _ _).alloc _,?_⟩
  have:=OwnL.empty (w3.alloc (.cells #[.int .i64 x1,.int .i64 x2,.int .i64 x3,.slice none 0 0] 73)) (w3.heap.size+1) 70 2 Tier.cells (by simp)
  simpa using this
 refine (NX.out 4 _ hD.ext hD.src (by omega) (by omega)).mono ?_
 rintro e w4 ⟨x4,rfl,hx7,hx8,hs4,ho4⟩
 have hD4:=hD.draw ho4 hs4
 clear hD hO3 hR2 ho1 ho2 ho3 ho4 hs1 hs2 hs3 hs4 hE1 hE2 hE3
 go_wp2_with fail
 go_loopw [4,5,6,7] (fun v u f k wr=>∃(k':Nat) (U F:Int) (L:List Tier),k'≤4∧k= .int .i64 k'∧u= .int .i64 U∧f= .int .i64 F∧0≤U∧U≤20*(4-(k':Int))∧0≤F∧F≤80*(4-(k':Int))∧L.length+k'≤4∧(k'=0→L≠[])∧DSt w0 w a A n c w3.heap.size x1 x2 x3 wr v L) (fun _ _ _ k _=>(intOf k).toNat)
 case atStart=>
  refine ⟨(1+x4).toNat,0,0,[],by omega,?_,rfl,rfl,by omega,by omega,by omega,by omega,by simp; omega,by omega,hD4⟩
  rw [Int.toNat_of_nonneg (by omega)]
 case round=>
  obtain ⟨k',U,F,L,hk,rfl,rfl,rfl,hU0,hU1,hF0,hF1,hL1,hL2,hD⟩:=hrel
  clear hD4
  by_cases hlt:0<k'
  ·have hlt':decide ((0:Int)<(k':Int))=true:=by simpa using hlt
   go_wp2_with fail
   refine (NX.out 20 _ hD.ext hD.src (by omega) (by omega)).mono ?_
   rintro e w5 ⟨x5,rfl,hx9,hx10,hs5,ho5⟩
   have hD5:=hD.draw ho5 hs5
   clear hD ho5 hs5
   go_wp2_with fail
   refine (NX.out 80 _ hD5.ext hD5.src (by omega) (by omega)).mono ?_
   rintro e w6 ⟨x6,rfl,hx11,hx12,hs6,ho6⟩
   have hD6:=hD5.draw ho6 hs6
   clear hD5 ho6 hs6
   have hsz6:=hD6.size
   have hD7:=hD6.more (Ext.alloc w6 (.cells #[.int .i64 (U+1+x5),.int .i64 (F+x6)] 70))
   go_wp2_with (at_builtin; refine wpList_append_one rfl _ _ 71 rfl (w3.heap.size+1) 70 _ 2 16 Tryz.underlying71 tier_info rfl (by decide) Tier.cells tier_len tier_one _ _ rfl (hD7.own) w6 ⟨U+1+x5,F+x6⟩ rfl _ rfl (by simp) (by omega) (by omega) (by first | omega | (simp; omega)) ?_)
   intro v1 w8 hown2 hext2
   have hD8:=hD7.app (kept_append (by simp; omega) hext2) hown2
   clear hD6 hD7 hown2 hext2
   go_wp2_with fail
   go_roundw
   case rel=>
    exact ⟨k'-1,_,_,_,by omega,by go_num,rfl,rfl,by omega,by omega,by omega,by omega,by simp; omega,by simp,hD8⟩
   case measure=>simp [intOf]; omega
  ·have hk0:k'=0:=by omega
   subst hk0
   go_wp2_with fail
   refine (NX.out 24 _ hD.ext hD.src (by omega) (by omega)).mono ?_
   rintro e w5 ⟨x5,rfl,hx9,hx10,hs5,ho5⟩
   have hD5:=hD.draw ho5 hs5
   clear hD ho5 hs5 hU0 hU1 hF0 hF1 hx7 hx8
   have hL0:L≠[]:=hL2 trivial
   have hlen:0<L.length:=by cases L with | nil=>exact absurd rfl hL0 | cons=>simp
   obtain ⟨A',c',g,rfl,hg,hnc,hcm,hown⟩:=hD5.own.own tier_len (by omega)
   have hsz5:=hD5.size
   have hxw:x5=0∨x5=1∨x5=2∨x5=3∨x5=4∨((x5==0)=false∧(x5==1)=false∧(x5==2)=false∧(x5==3)=false∧(x5==4)=false):=by
    simp; omega
   rcases hxw with rfl | rfl | rfl | rfl | rfl | ⟨q0,q1,q2,q3,q4⟩
   case' inr.inr.inr.inr.inr=>
    have c20:=hD5.row2.cell 0
    have c21:=hD5.row2.cell 1
    have c22:=hD5.row2.cell 2
    have c23:=hD5.row2.cell 3
    have c30:=hD5.row3.cell 0
    have c31:=hD5.row3.cell 1
    have c32:=hD5.row3.cell 2
    have f20:=hD5.row2.frozen 0
    have f21:=hD5.row2.frozen 1
    have f22:=hD5.row2.frozen 2
    have f23:=hD5.row2.frozen 3
    simp at c20 c21 c22 c23 c30 c31 c32
    go_wp2_with fail
    refine bodyPost_ret (v:= .agg #[.int .i64 x1,.int .i64 x2,.int .i64 x3,.slice A' L.length c']) (by simp [results,Tryz.results131,go_sem,c20,c21,c22,c23]) rfl ?_
    exact draw_fin hal hD5.src hD5.only hown (by omega) hnc hcm
   case' inl=>
    have hD6:=hD5.more (Ext.alloc w5 (.cells #[.int .i64 (-1),.int .i64 100,.int .i64 101] 2))
    go_wp2_with fail
    refine (NX.out 3 _ hD6.ext hD6.src (by omega) (by omega)).mono ?_
    rintro e w6 ⟨y,rfl,hy1,hy2,hs6,ho6⟩
    have hD7:=hD6.draw ho6 hs6
    have hR6:=(Row.new w5 2 [.int .i64 (-1),.int .i64 100,.int .i64 101]).only ho6 (by omega)
    obtain ⟨j,rfl⟩:=Int.eq_ofNat_of_zero_le hy1
    have hj:j<3:=by omega
    obtain ⟨z,hz⟩:∃z,w6.cell? ⟨w5.heap.size,j,none⟩=some (.int .i64 z):=by
     rw [hR6.cell]; rcases (show j=0∨j=1∨j=2 by omega) with rfl | rfl | rfl <;> exact ⟨_,rfl⟩
    have hown7:=(hown.ext (Ext.alloc w5 _)).only ho6 (by omega)
    have c20:=hD7.row2.cell 0
    have c21:=hD7.row2.cell 1
    have c22:=hD7.row2.cell 2
    have c23:=hD7.row2.cell 3
    have c30:=hD7.row3.cell 0
    have c31:=hD7.row3.cell 1
    have c32:=hD7.row3.cell 2
    have f20:=hD7.row2.frozen 0
    have f21:=hD7.row2.frozen 1
    have f22:=hD7.row2.frozen 2
    have f23:=hD7.row2.frozen 3
    simp at c20 c21 c22 c23 c30 c31 c32
    have f3i:=hD7.row3.frozen 1
    have hD8:=hD7.set3 1 (.int .i64 z) rfl
    have hb6:=hR6.lt
    clear hR6 ho6 hD6 hs6
    go_wp2_with fail
    refine bodyPost_ret (v:= .agg #[.int .i64 x1,.int .i64 z,.int .i64 x3,.slice A' L.length c']) (by simp [results,Tryz.results131,go_sem,c20,c21,c22,c23]) rfl ?_
    exact draw_fin hal hD8.src hD8.only (hown7.only ((Only.refl w3.heap.size _).setCell rfl _) (by omega)) (by omega) hnc hcm
   case' inr.inr.inr.inl=>
    have hD6:=hD5.more (Ext.alloc w5 (.cells #[.int .i64 (-1),.int .i64 1000000,.int .i64 1000001] 2))
    go_wp2_with fail
    refine (NX.out 3 _ hD6.ext hD6.src (by omega) (by omega)).mono ?_
    rintro e w6 ⟨y,rfl,hy1,hy2,hs6,ho6⟩
    have hD7:=hD6.draw ho6 hs6
    have hR6:=(Row.new w5 2 [.int .i64 (-1),.int .i64 1000000,.int .i64 1000001]).only ho6 (by omega)
    obtain ⟨j,rfl⟩:=Int.eq_ofNat_of_zero_le hy1
    have hj:j<3:=by omega
    obtain ⟨z,hz⟩:∃z,w6.cell? ⟨w5.heap.size,j,none⟩=some (.int .i64 z):=by
     rw [hR6.cell]; rcases (show j=0∨j=1∨j=2 by omega) with rfl | rfl | rfl <;> exact ⟨_,rfl⟩
    have hown7:=(hown.ext (Ext.alloc w5 _)).only ho6 (by omega)
    have c20:=hD7.row2.cell 0
    have c21:=hD7.row2.cell 1
    have c22:=hD7.row2.cell 2
    have c23:=hD7.row2.cell 3
    have c30:=hD7.row3.cell 0
    have c31:=hD7.row3.cell 1
    have c32:=hD7.row3.cell 2
    have f20:=hD7.row2.frozen 0
    have f21:=hD7.row2.frozen 1
    have f22:=hD7.row2.frozen 2
    have f23:=hD7.row2.frozen 3
    simp at c20 c21 c22 c23 c30 c31 c32
    have f3i:=hD7.row3.frozen 2
    have hD8:=hD7.set3 2 (.int .i64 z) rfl
    have hb6:=hR6.lt
    clear hR6 ho6 hD6 hs6
    go_wp2_with fail
    refine bodyPost_ret (v:= .agg #[.int .i64 x1,.int .i64 x2,.int .i64 z,.slice A' L.length c']) (by simp [results,Tryz.results131,go_sem,c20,c21,c22,c23]) rfl ?_
    exact draw_fin hal hD8.src hD8.only (hown7.only ((Only.refl w3.heap.size _).setCell rfl _) (by omega)) (by omega) hnc hcm
   case' inr.inr.inr.inr.inl=>
    have hD6:=hD5.more (Ext.alloc w5 (.cells #[.int .i64 (-1),.int .i64 1000000000,.int .i64 1000000001] 2))
    go_wp2_with fail
    refine (NX.out 3 _ hD6.ext hD6.src (by omega) (by omega)).mono ?_
    rintro e w6 ⟨y,rfl,hy1,hy2,hs6,ho6⟩
    have hD7:=hD6.draw ho6 hs6
    have hR6:=(Row.new w5 2 [.int .i64 (-1),.int .i64 1000000000,.int .i64 1000000001]).only ho6 (by omega)
    obtain ⟨j,rfl⟩:=Int.eq_ofNat_of_zero_le hy1
    have hj:j<3:=by omega
    obtain ⟨z,hz⟩:∃z,w6.cell? ⟨w5.heap.size,j,none⟩=some (.int .i64 z):=by
     rw [hR6.cell]; rcases (show j=0∨j=1∨j=2 by omega) with rfl | rfl | rfl <;> exact ⟨_,rfl⟩
    have hown7:=(hown.ext (Ext.alloc w5 _)).only ho6 (by omega)
    have c20:=hD7.row2.cell 0
    have c21:=hD7.row2.cell 1
    have c22:=hD7.row2.cell 2
    have c23:=hD7.row2.cell 3
    have c30:=hD7.row3.cell 0
    have c31:=hD7.row3.cell 1
    have c32:=hD7.row3.cell 2
    have f20:=hD7.row2.frozen 0
    have f21:=hD7.row2.frozen 1
    have f22:=hD7.row2.frozen 2
    have f23:=hD7.row2.frozen 3
    simp at c20 c21 c22 c23 c30 c31 c32
    have f3i:=hD7.row3.frozen 0
    have hD8:=hD7.set3 0 (.int .i64 z) rfl
    have hb6:=hR6.lt
    clear hR6 ho6 hD6 hs6
    go_wp2_with fail
    refine bodyPost_ret (v:= .agg #[.int .i64 z,.int .i64 x2,.int .i64 x3,.slice A' L.length c']) (by simp [results,Tryz.results131,go_sem,c20,c21,c22,c23]) rfl ?_
    exact draw_fin hal hD8.src hD8.only (hown7.only ((Only.refl w3.heap.size _).setCell rfl _) (by omega)) (by omega) hnc hcm
   case' inr.inl=>
    obtain ⟨⟨p,q⟩,L,rfl⟩:=List.exists_cons_of_ne_nil hL0
    obtain ⟨rfl,r,hr⟩:=hown.2 hlen
    have hD6:=hD5.more (Ext.alloc w5 (.cells #[.int .i64 (-1),.int .i64 1000,.int .i64 1001] 2))
    go_wp2_with fail
    refine (NX.out 3 _ hD6.ext hD6.src (by omega) (by omega)).mono ?_
    rintro e w6 ⟨y,rfl,hy1,hy2,hs6,ho6⟩
    have hD7:=hD6.draw ho6 hs6
    have hR6:=(Row.new w5 2 [.int .i64 (-1),.int .i64 1000,.int .i64 1001]).only ho6 (by omega)
    obtain ⟨j,rfl⟩:=Int.eq_ofNat_of_zero_le hy1
    have hj:j<3:=by omega
    obtain ⟨z,hz⟩:∃z,w6.cell? ⟨w5.heap.size,j,none⟩=some (.int .i64 z):=by
     rw [hR6.cell]; rcases (show j=0∨j=1∨j=2 by omega) with rfl | rfl | rfl <;> exact ⟨_,rfl⟩
    have hown7:=(hown.ext (Ext.alloc w5 _)).only ho6 (by omega)
    obtain ⟨u1,hu1⟩:=hown7.there tier_len hlen (j:=1) (by omega)
    simp at hu1
    have f1:=hown7.frozen hlen 1
    have c20:=hD7.row2.cell 0
    have c21:=hD7.row2.cell 1
    have c22:=hD7.row2.cell 2
    have c23:=hD7.row2.cell 3
    have c30:=hD7.row3.cell 0
    have c31:=hD7.row3.cell 1
    have c32:=hD7.row3.cell 2
    have f20:=hD7.row2.frozen 0
    have f21:=hD7.row2.frozen 1
    have f22:=hD7.row2.frozen 2
    have f23:=hD7.row2.frozen 3
    simp at c20 c21 c22 c23 c30 c31 c32
    have hb6:=hR6.lt
    have hgl:=hown7.lt hlen
    have hown8:=hown7.set01 z
    have hsr:=hD7.src.only ((Only.refl g w6).setCell (p:=⟨g,1,none⟩) rfl (.int .i64 z)) (by omega)
    have hk:Only g w6 (w6.setCell ⟨g,1,none⟩ (.int .i64 z)):=(Only.refl g w6).setCell rfl _
    have hon:Only a w (w6.setCell ⟨g,1,none⟩ (.int .i64 z)):=⟨hk.os.trans hD7.only.os,hk.tape.trans hD7.only.tape,hk.output.trans hD7.only.output,Nat.le_trans hD7.only.size hk.size,fun k hk1 hne=>(hk.block k (Nat.lt_of_lt_of_le hk1 hD7.only.size) (by simp; omega)).trans (hD7.only.block k hk1 hne)⟩
    clear hR6 ho6 hD6 hs6 hk hr
    go_wp2_with fail
    refine bodyPost_ret (v:= .agg #[.int .i64 x1,.int .i64 x2,.int .i64 x3,.slice (some ⟨g,0,none⟩) (Tier.mk p q::L).length c']) (by simp [results,Tryz.results131,go_sem,c20,c21,c22,c23]) rfl ?_
    exact draw_fin hal hsr hon hown8 (by omega) hnc hcm
   case' inr.inr.inl=>
    obtain ⟨⟨p,q⟩,L,rfl⟩:=List.exists_cons_of_ne_nil hL0
    obtain ⟨rfl,r,hr⟩:=hown.2 hlen
    have k0:=hr.cell 0
    have k1:=hr.cell 1
    simp [Tier.cells] at k0 k1
    have hD6:=hD5.more (Ext.alloc w5 (.cells #[.int .i64 p,.int .i64 q] 70))
    clear hr hown
    go_wp2_with (at_builtin; refine wpList_append_one rfl _ _ 71 rfl (w3.heap.size+1) 70 _ 2 16 Tryz.underlying71 tier_info rfl (by decide) Tier.cells tier_len tier_one _ _ rfl (hD6.own) w5 ⟨p,q⟩ rfl _ rfl (by simp) (by omega) (by omega) (by first | omega | (simp; omega)) ?_)
    intro v1 w8 hown2 hext2
    have hD8:=hD6.app (kept_append (by simp; omega) hext2) hown2
    clear hD6 hown2 hext2
    generalize hLL:((⟨p,q⟩:Tier)::(L++[⟨p,q⟩]))=LL at hD8
    clear hLL
    obtain ⟨A2,c2,g2,rfl,hg2,hnc2,hcm2,hown8⟩:=hD8.own.own tier_len (by omega)
    have c20:=hD8.row2.cell 0
    have c21:=hD8.row2.cell 1
    have c22:=hD8.row2.cell 2
    have c23:=hD8.row2.cell 3
    have c30:=hD8.row3.cell 0
    have c31:=hD8.row3.cell 1
    have c32:=hD8.row3.cell 2
    have f20:=hD8.row2.frozen 0
    have f21:=hD8.row2.frozen 1
    have f22:=hD8.row2.frozen 2
    have f23:=hD8.row2.frozen 3
    simp at c20 c21 c22 c23 c30 c31 c32
    go_wp2_with fail
    refine bodyPost_ret (v:= .agg #[.int .i64 x1,.int .i64 x2,.int .i64 x3,.slice A2 LL.length c2]) (by simp [results,Tryz.results131,go_sem,c20,c21,c22,c23]) rfl ?_
    exact draw_fin hal hD8.src hD8.only hown8 (by omega) hnc2 hcm2
 done
end Go.Proofs.YtfkpghdmljjegaaGreat
namespace Go.Proofs.YtfkpghdmljjegaaGreat
open Go.RowKit
set_option maxHeartbeats 1000000 in
theorem c_l02AtX (A1 A2:Option Addr) (n1 c1 n2 c2:Nat) (ps:List Pipe) (w:World) (hs2:SliceOf w 5 Pipe.cells A2 n2 c2 ps) (x:Int) (m2:n2≤1048576):
  Calls Tryz.prog 302 #[.agg #[.slice A1 n1 c1,.slice A2 n2 c2],.int .i64 x] w (RetI (fun E=>E=atL ps x∧E.length≤n2) w):=by
 have hB:=Row.new w 45 [.slice A1 n1 c1,.slice A2 n2 c2]
 have hx0:Ext w (w.alloc (.cells #[.slice A1 n1 c1,.slice A2 n2 c2] 45)):=Ext.alloc _ _
 go_enter Tryz.func302,Tryz.ntmps302
 go_wp2_with fail
 go_loopw [5,6] (fun v i wr=>∃(k:Nat) (E:List Int),k≤n2∧i= .int .i64 k∧E.length≤k∧Hid (E=atI ps x k)∧OwnL wr (w.heap.size+1) 2 1 intC v E∧Ext (w.alloc (.cells #[.slice A1 n1 c1,.slice A2 n2 c2] 45)) wr) (fun _ i _=>n2-(intOf i).toNat)
 case atStart=>exact ⟨0,[],Nat.zero_le _,rfl,by simp,hide rfl,own_new (w.alloc (.cells #[.slice A1 n1 c1,.slice A2 n2 c2] 45)) (w.heap.size+1) _ _ _ _ (by simp) (by omega),Ext.alloc _ _⟩
 case round=>
  obtain ⟨k,E,hk,rfl,hE,HE,hown,hx⟩:=hrel
  have hxz:=hx.size
  have hbl:=(hB.ext hx).lt
  have hb1:=(hB.ext hx).cell 1
  simp at hb1 hxz
  by_cases hlt:k<n2
  ·obtain ⟨b,off,p,rfl,hb,hxk,hc⟩:=(hs2.ext (hx0.trans hx)).get hlt
   have HK:=hide hxk
   clear hxk
   have hc0:=hc 0 _ rfl
   have hc1:=hc 1 _ rfl
   clear hc
   simp only [Nat.add_zero] at hc0
   cases e0:(p.src==x)
   ·cases e1:(p.dst==x)
    ·go_wp2_with fail
     go_roundw
     case rel=>exact ⟨k+1,E,by omega,by go_num,by omega,hide (by rw [HE.out,atI_no (by unfold endB; rw [HK.out]; simp only [e0,e1]; rfl)]),hown,hx⟩
     case measure=>simp [intOf]; omega
    ·have HN:Hid (E++[(k:Int)]=atI ps x (k+1)):=hide (by rw [HE.out,atI_yes (by unfold endB; rw [HK.out]; simp only [e0,e1]; rfl)])
     go_wp2_with (at_builtin; go_must (refine wpList_append_one rfl _ _ 24 rfl (w.heap.size+1) 2 _ 1 8 Tryz.underlying24 int_info rfl (by decide) intC intC_len int_one' _ _ rfl (hown.ext (Ext.alloc _ _)) _ (k:Int) rfl _ rfl (by first | rfl | simp) (by omega) (by omega) (by omega) ?_))
     intro v1 w4 hown4 hext4
     have hx4:=hext4 _ (by simp) (hx.and_alloc _)
     go_wp2_with fail
     go_roundw
     case rel=>exact ⟨k+1,_,by omega,by go_num,by simp; omega,HN,hown4,hx4⟩
     case measure=>simp [intOf]; omega
   ·have HN:Hid (E++[(k:Int)]=atI ps x (k+1)):=hide (by rw [HE.out,atI_yes (by unfold endB; rw [HK.out]; simp only [e0]; rfl)])
    go_wp2_with (at_builtin; go_must (refine wpList_append_one rfl _ _ 24 rfl (w.heap.size+1) 2 _ 1 8 Tryz.underlying24 int_info rfl (by decide) intC intC_len int_one' _ _ rfl (hown.ext (Ext.alloc _ _)) _ (k:Int) rfl _ rfl (by first | rfl | simp) (by omega) (by omega) (by omega) ?_))
    intro v1 w4 hown4 hext4
    have hx4:=hext4 _ (by simp) (hx.and_alloc _)
    go_wp2_with fail
    go_roundw
    case rel=>exact ⟨k+1,_,by omega,by go_num,by simp; omega,HN,hown4,hx4⟩
    case measure=>simp [intOf]; omega
  ·obtain rfl:n2=k:=by omega
   go_wp2_with fail
   go_ret
   exact ⟨_,E,rfl,hown.lowG (by omega),hide ⟨by rw [HE.out,atL,hs2.len],hE⟩,hx0.trans hx⟩
set_option maxHeartbeats 1000000 in
theorem c_l02OtherX (A1 A2:Option Addr) (n1 c1 n2 c2:Nat) (ps:List Pipe) (w:World) (hs2:SliceOf w 5 Pipe.cells A2 n2 c2 ps) (N:Nat) (hN:N≤1048576) (he:EndsN N ps) (k:Nat) (p:Pipe) (hk:ps[k]? =some p) (x:Int) (hx:p.src=x∨p.dst=x):
  Calls Tryz.prog 278 #[.agg #[.slice A1 n1 c1,.slice A2 n2 c2],.int .i64 k,.int .i64 x] w (Ret (.int .i64 (othE p x)) w):=by
 obtain ⟨W,HW⟩:∃W,Hid ((w.alloc (.cells #[.slice A1 n1 c1,.slice A2 n2 c2] 45))=W):=⟨_,hide rfl⟩
 have hB:Row W w.heap.size 45 [.slice A1 n1 c1,.slice A2 n2 c2]:=by rw [←HW.out]; exact Row.new w 45 [.slice A1 n1 c1,.slice A2 n2 c2]
 have hx0:Ext w W:=by rw [←HW.out]; exact Ext.alloc _ _
 have hkl:k<n2:=by rw [hs2.len]; exact (List.getElem?_eq_some_iff.1 hk).1
 obtain ⟨b,off,p',rfl,hb,hk',hc⟩:=(hs2.ext hx0).get hkl
 have hb1:=hB.cell 1
 simp at hb1
 have hbl:=hB.lt
 obtain rfl:p'=p:=by rw [hk] at hk'; exact (Option.some.inj hk').symm
 have hc0:=hc 0 _ rfl
 have hc1:=hc 1 _ rfl
 clear hc hk'
 simp only [Nat.add_zero] at hc0
 obtain ⟨⟨h1,h2⟩,⟨h3,h4⟩,_⟩:=he _ (List.mem_of_getElem? hk)
 clear hk
 have e1:IntKind.i64.wrap (p'.src+p'.dst)=p'.src+p'.dst:=IntWalk.i64_in _ (by omega)
 have e2:IntKind.i64.wrap (p'.src+p'.dst-x)=p'.src+p'.dst-x:=IntWalk.i64_in _ (by rcases hx with h | h <;> omega)
 have HX:=hide hx
 clear hx
 go_enter Tryz.func278,Tryz.ntmps278
 go_wp2_with fail
 rw [HW.out]
 refine wp_region_later (by kernel_rfl) (by kernel_rfl) ?_
 repeat (go_big_quiet_step (fail))
 refine wpQuiet_nil ?_
 intro w1 hx1
 go_wp2_with fail
 go_ret
 refine Ret.of ?_ (hx0.trans hx1)
 rw [oth_sum HX.out]
 rfl
theorem EndsN.ends {N:Nat} {ps:List Pipe} (h:EndsN N ps):EndsIn N ps:=fun p hp=>by
 obtain ⟨⟨h1,h2⟩,⟨h3,h4⟩,_⟩:=h p hp
 exact ⟨h1,h2,h3,h4⟩
def FlowIn (ps:List Pipe) (fl:List Int):Prop:=∀(k:Nat) (p:Pipe) (f:Int),ps[k]? =some p→fl[k]? =some f→ -p.limit≤f∧f≤p.limit∧p.limit≤30000
theorem FlowIn.rooms {ps:List Pipe} {fl:List Int} (h:FlowIn ps fl) {k:Nat} {p:Pipe} {f:Int} (hk:ps[k]? =some p) (hf:fl[k]? =some f):IntKind.i64.wrap (p.limit-f)=p.limit-f∧IntKind.i64.wrap (p.limit+f)=p.limit+f:=by
 have:=h k p f hk hf
 exact ⟨IntWalk.i64_in _ (by omega),IntWalk.i64_in _ (by omega)⟩
set_option maxHeartbeats 1000000 in
theorem c_l23Room (A1 A2:Option Addr) (n1 c1 n2 c2:Nat) (ps:List Pipe) (w:World) (hs2:SliceOf w 5 Pipe.cells A2 n2 c2 ps) (A3:Option Addr) (n3 c3:Nat) (fl:List Int) (hs3:SliceOf w 1 intC A3 n3 c3 fl) (hb:FlowIn ps fl) (k:Nat) (p:Pipe) (f:Int) (hk:ps[k]? =some p) (hf:fl[k]? =some f) (x:Int):
  Calls Tryz.prog 279 #[.agg #[.slice A1 n1 c1,.slice A2 n2 c2],.slice A3 n3 c3,.int .i64 k,.int .i64 x] w (Ret (.int .i64 (roomZ ps fl k x)) w):=by
 obtain ⟨W,HW⟩:∃W,Hid ((w.alloc (.cells #[.slice A1 n1 c1,.slice A2 n2 c2] 45))=W):=⟨_,hide rfl⟩
 have hB:Row W w.heap.size 45 [.slice A1 n1 c1,.slice A2 n2 c2]:=by rw [←HW.out]; exact Row.new w 45 [.slice A1 n1 c1,.slice A2 n2 c2]
 have hx0:Ext w W:=by rw [←HW.out]; exact Ext.alloc _ _
 have hkl:k<n2:=by rw [hs2.len]; exact (List.getElem?_eq_some_iff.1 hk).1
 have hkf:k<n3:=by rw [hs3.len]; exact (List.getElem?_eq_some_iff.1 hf).1
 obtain ⟨b,off,p',rfl,hbb,hk',hc⟩:=(hs2.ext hx0).get hkl
 obtain ⟨b3,off3,f',rfl,hb3,hf',hc3⟩:=(hs3.ext hx0).get hkf
 have hb1:=hB.cell 1
 simp at hb1
 have hbl:=hB.lt
 obtain rfl:p'=p:=by rw [hk] at hk'; exact (Option.some.inj hk').symm
 obtain rfl:f'=f:=by rw [hf] at hf'; exact (Option.some.inj hf').symm
 have hc0:=hc 0 _ rfl
 have hc4:=hc 4 _ rfl
 have hd0:=hc3 0 _ rfl
 clear hc hc3 hk' hf'
 simp only [Nat.add_zero,Nat.mul_one] at hc0 hd0
 have gb1:=hb1
 have gc0:=hc0
 have gbl:=hbl
 have gbb:=hbb
 rw [←HW.out] at gb1 gc0 gbl gbb
 obtain ⟨e1,e2⟩:=hb.rooms hk hf
 have HR:=hide (roomZ_at hk hf x)
 clear hk hf hb
 go_enter Tryz.func279,Tryz.ntmps279
 cases e0:(p'.src==x)
 ·have e3:¬p'.src=x:=by simpa using e0
  have HR2:Hid (roomZ ps fl k x=p'.limit+f'):=hide (by rw [HR.out,if_neg e3])
  go_wp2_with fail
  rw [HW.out]
  clear gb1 gc0 gbl gbb
  refine wp_region_later (by kernel_rfl) (by kernel_rfl) ?_
  repeat (go_big_quiet_step (fail))
  refine wpQuiet_nil ?_
  intro w1 hx1
  go_wp2_with fail
  go_ret
  exact Ret.of (by rw [HR2.out]; rfl) (hx0.trans hx1)
 ·have e3:p'.src=x:=by simpa using e0
  have HR2:Hid (roomZ ps fl k x=p'.limit-f'):=hide (by rw [HR.out,if_pos e3])
  go_wp2_with fail
  rw [HW.out]
  clear gb1 gc0 gbl gbb
  refine wp_region_later (by kernel_rfl) (by kernel_rfl) ?_
  repeat (go_big_quiet_step (fail))
  refine wpQuiet_nil ?_
  intro w1 hx1
  go_wp2_with fail
  go_ret
  exact Ret.of (by rw [HR2.out]; rfl) (hx0.trans hx1)
end Go.Proofs.YtfkpghdmljjegaaGreat
