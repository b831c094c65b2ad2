/-
  AcceptNomination of the reference.
-/
import Derived.Test.YtfkpghdmljjegaaGreatVd20
import Derived.Test.YtfkpghdmljjegaaGreatVd18
import Derived.Test.YtfkpghdmljjegaaGreatVd02
import Derived.Test.YtfkpghdmljjegaaGreatVd07
import Derived.Test.YtfkpghdmljjegaaGreatVd19
import Derived.Test.YtfkpghdmljjegaaGreatVd17
namespace Go.Proofs.YtfkpghdmljjegaaGreat
open Go.RowKit
set_option maxHeartbeats 8000000 in
theorem c_specAcceptNomination (A1 A2:Option Addr) (n1 c1 n2 c2:Nat) (ns:List Node) (ps:List Pipe) (A:Option Addr) (n c:Nat) (xs:List Contract) (B:Option Addr) (m d:Nat) (L:List Nomination) (w:World) (hs1:SliceOf w 3 Node.cells A1 n1 c1 ns) (hs2:SliceOf w 5 Pipe.cells A2 n2 c2 ps) (hs:SliceOf w 8 Contract.cells A n c xs) (hL:SliceOf w 4 Nomination.cells B m d L) (hnm:∀x∈ns,x.name.size≤1048576) (x:Nomination):
  Calls Tryz.prog 225 #[.agg #[.slice A1 n1 c1,.slice A2 n2 c2],.slice A n c,.slice B m d,.agg #[.int .i64 x.contract,.int .i64 x.hour,.int .i64 x.sent,.int .i64 x.amount]] w (RetS 157 Nomination.cells (accR n1 ns ps xs L x) w):=by
 have x0:Ext w ((w.alloc (.cells #[.slice A1 n1 c1,.slice A2 n2 c2] 45)).alloc (.cells #[.int .i64 x.contract,.int .i64 x.hour,.int .i64 x.sent,.int .i64 x.amount] 157)):=(Ext.alloc _ _).and_alloc _
 have hin:NomIn ((w.alloc (.cells #[.slice A1 n1 c1,.slice A2 n2 c2] 45)).alloc (.cells #[.int .i64 x.contract,.int .i64 x.hour,.int .i64 x.sent,.int .i64 x.amount] 157)) (w.heap.size+1) x:=by have h:=NomIn.new (w.alloc (.cells #[.slice A1 n1 c1,.slice A2 n2 c2] 45)) x 157; rw [World.size_alloc] at h; exact h
 have hmm:=hL.max
 have hcap:=hL.cap
 have HLn:=hide hL.len
 have HNM:=hide hnm
 clear hnm
 go_enter Tryz.func225,Tryz.ntmps225
 go_wp2_with fail
 refine (c_l21Code A1 A2 n1 c1 n2 c2 ns ps A n c xs B m d L _ (hs1.ext x0) (hs2.ext x0) (hs.ext x0) (hL.ext x0) HNM.out).mono ?_
 by_cases hz:nomC n1 ns ps xs L=0
 case neg=>
  have hz1:(nomC n1 ns ps xs L != 0)=true:=by simpa using hz
  have HR:=hide (show accR n1 ns ps xs L x=([],nomC n1 ns ps xs L) by unfold accR; rw [if_pos hz])
  clear hz
  generalize nomC n1 ns ps xs L=Z at *
  rintro e w1 ⟨rfl,hx1⟩
  go_wp2_with fail
  go_ret2
  exact RetS.nil_ HR.out (x0.trans hx1)
 obtain ⟨hbk,h200,hall⟩:=nomC_facts hz
 have HR1:=hide (show accR n1 ns ps xs L x=if nomB xs x=false then ([],2) else if accB xs L x=false then ([],7) else if L.length=200 then ([],3) else (L++[x],0) by unfold accR; rw [if_neg (by simpa using hz)])
 rw [hz]
 clear hz
 rintro e w1 ⟨rfl,hx1⟩
 obtain ⟨hy,y0,y1,y2,y3⟩:=hin.ext hx1
 have hok:=book_hours hbk
 have hm200:m≤200:=by rw [HLn.out]; exact h200
 have HALL:=hide hall
 have HBK:=hide hbk
 clear hall hbk
 go_wp2_with fail
 refine (c_l21Is A n c xs x _ (hs.ext (x0.trans hx1)) hok).mono ?_
 cases hb:nomB xs x
 ·have HR:=hide (show accR n1 ns ps xs L x=([],2) by rw [HR1.out,if_pos hb])
  rintro e w2 ⟨rfl,hx2⟩
  go_wp2_with fail
  go_ret2
  exact RetS.nil_ HR.out (x0.trans (hx1.trans hx2))
 have HR2:=hide (show accR n1 ns ps xs L x=if accB xs L x=false then ([],7) else if L.length=200 then ([],3) else (L++[x],0) by rw [HR1.out,if_neg (by simp [hb])])
 have HB:=hide hb
 clear hb
 rintro e w2 ⟨rfl,hx2⟩
 clear hy y0 y1 y2 y3
 have hx12:=hx1.trans hx2
 obtain ⟨hy,y0,y1,y2,y3⟩:=hin.ext hx12
 go_wp2_with fail
 refine (c_l21Acceptable A n c xs B m d L _ (hs.ext (x0.trans hx12)) (hL.ext (x0.trans hx12)) x n1 HBK.out HALL.out HB.out h200).mono ?_
 cases ha:accB xs L x
 ·have HR:=hide (show accR n1 ns ps xs L x=([],7) by rw [HR2.out,if_pos ha])
  rintro e w3 ⟨rfl,hx3⟩
  go_wp2_with fail
  go_ret2
  exact RetS.nil_ HR.out (x0.trans (hx12.trans hx3))
 have HR3:=hide (show accR n1 ns ps xs L x=if L.length=200 then ([],3) else (L++[x],0) by rw [HR2.out,if_neg (by simp [ha])])
 clear ha
 rintro e w3 ⟨rfl,hx3⟩
 clear hy y0 y1 y2 y3
 have hx13:=hx12.trans hx3
 have hx03:=x0.trans hx13
 obtain ⟨hy,y0,y1,y2,y3⟩:=hin.ext hx13
 by_cases h2:m=200
 ·have HR:=hide (show accR n1 ns ps xs L x=([],3) by rw [HR3.out,if_pos (by rw [←HLn.out]; exact h2)])
  subst h2
  go_wp2_with fail
  go_ret2
  exact RetS.nil_ HR.out hx03
 have HR4:=hide (show accR n1 ns ps xs L x=(L++[x],0) by rw [HR3.out,if_neg (by rw [←HLn.out]; exact h2)])
 have hLL:L.length≤200:=h200
 go_wp2_with fail
 refine wp_region_phT [(w.heap.size+1,0),(w.heap.size+1,1),(w.heap.size+1,2),(w.heap.size+1,3)] (.two [1,3] 0 (.two [] 2 (.one [] 4 (.one [] 5 (.last [6,7]))) 4 (.one [] 2 (.one [] 5 (.last [6,7])))) 4 (.one [] 0 (.one [] 2 (.one [] 5 (.last [6,7]))))) (by kernel_rfl) (by kernel_rfl) (by intro c a w d v h; cases d <;> exact h) ?_
 simp only [wpPhT,pickL,nthO]
 repeat (go_big_quiet_step (fail))
 refine wpQuiet_nil ?_
 have rz:∀X:World,Ext w3 X→SameC [(w.heap.size+1,0),(w.heap.size+1,1),(w.heap.size+1,2),(w.heap.size+1,3)] w3 X:=fun X hX=>SameC.of_ext hX (by simp; omega)
 refine ⟨?_,?_⟩
 ·go_wp2_with fail
  have hXa:Ext w3 (w3.alloc (.cells #[] 157)).drew:=(Ext.alloc _ _).drew
  have on0:OwnL (w3.alloc (.cells #[] 157)) w3.heap.size 157 4 Nomination.cells (.slice (some ⟨w3.heap.size,0,none⟩) 0 0) []:=OwnL.empty w3 _ _ _ _ (Nat.le_refl _)
  refine ⟨rz _ hXa,wpQuiet_nil ⟨?_,?_⟩⟩
  ·go_wp2_with (at_builtin; go_must (refine wpList_append_grow rfl _ _ 49 rfl w3.heap.size 157 _ 4 32 Tryz.underlying49 nomination_info rfl (by decide) Nomination.cells nomination_len nomination_one (.slice (some ⟨w3.heap.size,0,none⟩) 0 0) [] rfl (on0.ext (Ext.refl _).drew) B m d L rfl (hL.ext (hx03.trans hXa)) (by simp; omega) (by omega) (by first | exact Nat.le_refl _ | omega | (simp; done) | (simp; omega)) ?_))
   intro v4 w4 o4 g4
   have hx34:=hXa.grown g4 (fun k hk=>on0.block_le hk)
   have hz4:=hx34.size
   go_wp2_with fail
   refine ⟨rz _ hx34,wpQuiet_nil ?_⟩
   go_wp2_with fail
   refine ⟨rz _ (hx34.and_alloc _),wpQuiet_nil ?_⟩
   go_wp2_with (at_builtin; go_must (refine wpList_append_grow rfl _ _ 49 rfl w3.heap.size 157 _ 4 32 Tryz.underlying49 nomination_info rfl (by decide) Nomination.cells nomination_len nomination_one v4 ([]++L) rfl (o4.ext (Ext.alloc _ _)) (some ⟨w4.heap.size,0,none⟩) 1 1 [x] rfl (nom_one_slice (Row.new w4 157 [.int .i64 x.contract,.int .i64 x.hour,.int .i64 x.sent,.int .i64 x.amount])) (by simp; omega) (by omega) (by first | exact Nat.le_refl _ | omega | (simp; done) | (simp; omega)) ?_))
   intro v5 w5 o5 g5
   have hx35:Ext w3 w5:=(hx34.and_alloc _).grown g5 (fun k hk=>o4.block_le hk)
   have o5':OwnL w5 w3.heap.size 157 4 Nomination.cells v5 (L++[x]):=by simpa using o5
   obtain ⟨A',c',g,rfl,hg,hnc,hcm,ho⟩:=o5'.own nomination_len (by omega)
   clear o5
   go_wp2_with fail
   refine ⟨SameC.of_ext hx35 (by simp; omega),?_⟩
   repeat (go_big_quiet_step (fail))
   refine wpQuiet_nil ?_
   go_wp2_with fail
   go_ret2
   rw [HR4.out]
   exact ⟨A',_,c',g,rfl,hnc,hcm,by have:=hx03.size; omega,ho,hx03.trans hx35⟩
  ·go_wp2_with fail
   have hXb:Ext w3 ((w3.alloc (.cells #[] 157)).alloc (.cells #[.int .i64 x.contract,.int .i64 x.hour,.int .i64 x.sent,.int .i64 x.amount] 157)).drew:=((Ext.alloc _ _).and_alloc _).drew
   have rx:Row ((w3.alloc (.cells #[] 157)).alloc (.cells #[.int .i64 x.contract,.int .i64 x.hour,.int .i64 x.sent,.int .i64 x.amount] 157)).drew (w3.heap.size+1) 157 [.int .i64 x.contract,.int .i64 x.hour,.int .i64 x.sent,.int .i64 x.amount]:=by have h:=(Row.new (w3.alloc (.cells #[] 157)) 157 [.int .i64 x.contract,.int .i64 x.hour,.int .i64 x.sent,.int .i64 x.amount]).drew; rw [World.size_alloc] at h; exact h
   refine ⟨rz _ hXb,wpQuiet_nil ?_⟩
   go_wp2_with (at_builtin; go_must (refine wpList_append_grow rfl _ _ 49 rfl w3.heap.size 157 _ 4 32 Tryz.underlying49 nomination_info rfl (by decide) Nomination.cells nomination_len nomination_one (.slice (some ⟨w3.heap.size,0,none⟩) 0 0) [] rfl (on0.ext (Ext.alloc _ _).drew) B m d L rfl (hL.ext (hx03.trans hXb)) (by simp; omega) (by omega) (by first | exact Nat.le_refl _ | omega | (simp; done) | (simp; omega)) ?_))
   intro v4 w4 o4 g4
   have hx34:=hXb.grown g4 (fun k hk=>on0.block_le hk)
   have hz4:=hx34.size
   have rx4:=rx.only (Only.of_grown g4) (by first | (simp; done) | (simp; omega) | omega)
   go_wp2_with fail
   refine ⟨rz _ hx34,wpQuiet_nil ?_⟩
   go_wp2_with (at_builtin; go_must (refine wpList_append_grow rfl _ _ 49 rfl w3.heap.size 157 _ 4 32 Tryz.underlying49 nomination_info rfl (by decide) Nomination.cells nomination_len nomination_one v4 ([]++L) rfl (o4) (some ⟨w3.heap.size+1,0,none⟩) 1 1 [x] rfl (nom_one_slice rx4) (by simp; omega) (by omega) (by first | exact Nat.le_refl _ | omega | (simp; done) | (simp; omega)) ?_))
   intro v5 w5 o5 g5
   have hx35:Ext w3 w5:=hx34.grown g5 (fun k hk=>o4.block_le hk)
   have o5':OwnL w5 w3.heap.size 157 4 Nomination.cells v5 (L++[x]):=by simpa using o5
   obtain ⟨A',c',g,rfl,hg,hnc,hcm,ho⟩:=o5'.own nomination_len (by omega)
   clear o5
   go_wp2_with fail
   refine ⟨SameC.of_ext hx35 (by simp; omega),?_⟩
   repeat (go_big_quiet_step (fail))
   refine wpQuiet_nil ?_
   go_wp2_with fail
   go_ret2
   rw [HR4.out]
   exact ⟨A',_,c',g,rfl,hnc,hcm,by have:=hx03.size; omega,ho,hx03.trans hx35⟩
 ·go_wp2_with fail
  have hXa:Ext w3 (w3.alloc (.cells #[.int .i64 x.contract,.int .i64 x.hour,.int .i64 x.sent,.int .i64 x.amount] 157)).drew:=(Ext.alloc _ _).drew
  refine ⟨rz _ hXa,wpQuiet_nil ?_⟩
  go_wp2_with fail
  have hXb:Ext w3 ((w3.alloc (.cells #[.int .i64 x.contract,.int .i64 x.hour,.int .i64 x.sent,.int .i64 x.amount] 157)).alloc (.cells #[] 157)).drew:=((Ext.alloc _ _).and_alloc _).drew
  have on0:OwnL ((w3.alloc (.cells #[.int .i64 x.contract,.int .i64 x.hour,.int .i64 x.sent,.int .i64 x.amount] 157)).alloc (.cells #[] 157)).drew w3.heap.size 157 4 Nomination.cells (.slice (some ⟨w3.heap.size+1,0,none⟩) 0 0) []:=(own_new (w3.alloc (.cells #[.int .i64 x.contract,.int .i64 x.hour,.int .i64 x.sent,.int .i64 x.amount] 157)) _ _ _ _ _ (by simp) (by simp)).ext (Ext.refl _).drew
  have rx:Row ((w3.alloc (.cells #[.int .i64 x.contract,.int .i64 x.hour,.int .i64 x.sent,.int .i64 x.amount] 157)).alloc (.cells #[] 157)).drew w3.heap.size 157 [.int .i64 x.contract,.int .i64 x.hour,.int .i64 x.sent,.int .i64 x.amount]:=((Row.new w3 157 [.int .i64 x.contract,.int .i64 x.hour,.int .i64 x.sent,.int .i64 x.amount]).alloc _).drew
  refine ⟨rz _ hXb,wpQuiet_nil ?_⟩
  go_wp2_with (at_builtin; go_must (refine wpList_append_grow rfl _ _ 49 rfl w3.heap.size 157 _ 4 32 Tryz.underlying49 nomination_info rfl (by decide) Nomination.cells nomination_len nomination_one (.slice (some ⟨w3.heap.size+1,0,none⟩) 0 0) [] rfl (on0) B m d L rfl (hL.ext (hx03.trans hXb)) (by simp; omega) (by omega) (by first | exact Nat.le_refl _ | omega | (simp; done) | (simp; omega)) ?_))
  intro v4 w4 o4 g4
  have hx34:=hXb.grown g4 (fun k hk=>on0.block_le hk)
  have hz4:=hx34.size
  have rx4:=rx.only (Only.of_grown g4) (by first | (simp; done) | (simp; omega) | omega)
  go_wp2_with fail
  refine ⟨rz _ hx34,wpQuiet_nil ?_⟩
  go_wp2_with (at_builtin; go_must (refine wpList_append_grow rfl _ _ 49 rfl w3.heap.size 157 _ 4 32 Tryz.underlying49 nomination_info rfl (by decide) Nomination.cells nomination_len nomination_one v4 ([]++L) rfl (o4) (some ⟨w3.heap.size,0,none⟩) 1 1 [x] rfl (nom_one_slice rx4) (by simp; omega) (by omega) (by first | exact Nat.le_refl _ | omega | (simp; done) | (simp; omega)) ?_))
  intro v5 w5 o5 g5
  have hx35:Ext w3 w5:=hx34.grown g5 (fun k hk=>o4.block_le hk)
  have o5':OwnL w5 w3.heap.size 157 4 Nomination.cells v5 (L++[x]):=by simpa using o5
  obtain ⟨A',c',g,rfl,hg,hnc,hcm,ho⟩:=o5'.own nomination_len (by omega)
  clear o5
  go_wp2_with fail
  refine ⟨SameC.of_ext hx35 (by simp; omega),?_⟩
  repeat (go_big_quiet_step (fail))
  refine wpQuiet_nil ?_
  go_wp2_with fail
  go_ret2
  rw [HR4.out]
  exact ⟨A',_,c',g,rfl,hnc,hcm,by have:=hx03.size; omega,ho,hx03.trans hx35⟩
end Go.Proofs.YtfkpghdmljjegaaGreat
namespace Go.Proofs.YtfkpghdmljjegaaGreat
open Go.RowKit
@[go_sem] theorem laterC_cell6 (cs:List (Nat×Nat)) (w x:World) (q1 q2 q3 q4 q5:Nat×Nat) (b o:Nat):(laterC (q1::q2::q3::q4::q5::(b,o)::cs) w x).cell? ⟨b,o,none⟩=w.cell? ⟨b,o,none⟩:=same_laterC _ w x (b,o) (by simp)
@[go_sem] theorem laterC_cell7 (cs:List (Nat×Nat)) (w x:World) (q1 q2 q3 q4 q5 q6:Nat×Nat) (b o:Nat):(laterC (q1::q2::q3::q4::q5::q6::(b,o)::cs) w x).cell? ⟨b,o,none⟩=w.cell? ⟨b,o,none⟩:=same_laterC _ w x (b,o) (by simp)
@[go_sem] theorem laterC_cell8 (cs:List (Nat×Nat)) (w x:World) (q1 q2 q3 q4 q5 q6 q7:Nat×Nat) (b o:Nat):(laterC (q1::q2::q3::q4::q5::q6::q7::(b,o)::cs) w x).cell? ⟨b,o,none⟩=w.cell? ⟨b,o,none⟩:=same_laterC _ w x (b,o) (by simp)
@[go_sem] theorem laterC_cell9 (cs:List (Nat×Nat)) (w x:World) (q1 q2 q3 q4 q5 q6 q7 q8:Nat×Nat) (b o:Nat):(laterC (q1::q2::q3::q4::q5::q6::q7::q8::(b,o)::cs) w x).cell? ⟨b,o,none⟩=w.cell? ⟨b,o,none⟩:=same_laterC _ w x (b,o) (by simp)
@[go_sem] theorem laterC_cell10 (cs:List (Nat×Nat)) (w x:World) (q1 q2 q3 q4 q5 q6 q7 q8 q9:Nat×Nat) (b o:Nat):(laterC (q1::q2::q3::q4::q5::q6::q7::q8::q9::(b,o)::cs) w x).cell? ⟨b,o,none⟩=w.cell? ⟨b,o,none⟩:=same_laterC _ w x (b,o) (by simp)
def hourOf (r:Room):Int:=(r.rs.length:Int)-1
abbrev evNom (x:Event):Nomination:=⟨x.a,x.b,x.c,x.d⟩
abbrev evRead (x:Event):Reading:=⟨x.a,x.b⟩
def lastXs (r:Room):List Reading:=((r.rs[r.rs.length-1]?).map RS.xs).getD []
def appB (n1:Int) (r:Room) (x:Event):Bool:=
 if x.kind=1 then (accR n1 r.ns r.ps r.xs r.L (evNom x)).2==0&&decide (hourOf r≤x.b)
 else if x.kind=2 then (x.c==0&&x.d==0)&&readsB n1 (lastXs r++[evRead x])
 else (((x.a==hourOf r&&x.b==0)&&x.c==0)&&x.d==0)&&decide (r.rs.length<48)
def appR (r:Room) (x:Event):Room:=
 if x.kind=1 then {r with L:=r.L++[evNom x]}
 else if x.kind=2 then {r with rs:=r.rs.set (r.rs.length-1) ⟨none,0,0,lastXs r++[evRead x]⟩}
 else {r with rs:=r.rs++[⟨none,0,0,[]⟩]}
structure EvIn (w:World) (b:Nat) (x:Event):Prop where
 lt:b<w.heap.size
 y0:w.cell? ⟨b,0,none⟩=some (.int .i64 x.kind)
 y1:w.cell? ⟨b,1,none⟩=some (.int .i64 x.a)
 y2:w.cell? ⟨b,2,none⟩=some (.int .i64 x.b)
 y3:w.cell? ⟨b,3,none⟩=some (.int .i64 x.c)
 y4:w.cell? ⟨b,4,none⟩=some (.int .i64 x.d)
theorem EvIn.ext {w w':World} {b:Nat} {x:Event} (h:EvIn w b x) (hx:Ext w w'):EvIn w' b x:=
 ⟨Nat.lt_of_lt_of_le h.lt hx.size,(hx.cell _ _ h.lt).trans h.y0,(hx.cell _ _ h.lt).trans h.y1,(hx.cell _ _ h.lt).trans h.y2,(hx.cell _ _ h.lt).trans h.y3,(hx.cell _ _ h.lt).trans h.y4⟩
theorem EvIn.new (w:World) (x:Event) (t:TypeId):EvIn (w.alloc (.cells #[.int .i64 x.kind,.int .i64 x.a,.int .i64 x.b,.int .i64 x.c,.int .i64 x.d] t)) w.heap.size x:=by
 have hR:=Row.new w t [.int .i64 x.kind,.int .i64 x.a,.int .i64 x.b,.int .i64 x.c,.int .i64 x.d]
 exact ⟨by simp,hR.cell 0,hR.cell 1,hR.cell 2,hR.cell 3,hR.cell 4⟩
theorem ROwn.of {w:World} {lo:Nat} {A1 A2 A3 A4 A5:Option Addr} {n1 c1 n2 c2 n3 c3 n4 c4 n5 c5:Nat} {r:Room} (o1:OwnA w 223 Node.cells A1 n1 c1 r.ns) (o2:OwnA w 181 Pipe.cells A2 n2 c2 r.ps) (o3:OwnA w 153 Contract.cells A3 n3 c3 r.xs) (o4:OwnA w 157 Nomination.cells A4 n4 c4 r.L) (o5:OwnA w 60 RS.cells A5 n5 c5 r.rs) (o6:∀q∈r.rs,OwnA w 176 Reading.cells q.A q.n q.c q.xs)
  (l1:∀b,blkOf A1 n1=some b→lo≤b) (l2:∀b,blkOf A2 n2=some b→lo≤b) (l3:∀b,blkOf A3 n3=some b→lo≤b) (l4:∀b,blkOf A4 n4=some b→lo≤b) (l5:∀b,blkOf A5 n5=some b→lo≤b) (l6:∀q∈r.rs,∀b,blkOf q.A q.n=some b→lo≤b)
  (sep:SepL (r.rs.map fun q=>blkOf q.A q.n)):ROwn w lo w.heap.size A1 A2 A3 A4 A5 n1 c1 n2 c2 n3 c3 n4 c4 n5 c5 r:=by
 refine ⟨o1,o2,o3,o4,o5,o6,?_,sep,?_,?_,?_⟩
 ·exact sepP (o1.tag_ne o2 (by decide)) (o1.tag_ne o3 (by decide)) (o1.tag_ne o4 (by decide)) (o1.tag_ne o5 (by decide)) (o2.tag_ne o3 (by decide)) (o2.tag_ne o4 (by decide)) (o2.tag_ne o5 (by decide)) (o3.tag_ne o4 (by decide)) (o3.tag_ne o5 (by decide)) (o4.tag_ne o5 (by decide))
 ·rintro b hb ⟨q,hq,hqb⟩
  simp only [List.mem_cons,List.not_mem_nil,or_false] at hb
  rcases hb with hb | hb | hb | hb | hb
  ·exact o1.tag_ne (o6 q hq) (by decide) b hb.symm hqb
  ·exact o2.tag_ne (o6 q hq) (by decide) b hb.symm hqb
  ·exact o3.tag_ne (o6 q hq) (by decide) b hb.symm hqb
  ·exact o4.tag_ne (o6 q hq) (by decide) b hb.symm hqb
  ·exact o5.tag_ne (o6 q hq) (by decide) b hb.symm hqb
 ·intro b hb
  simp only [List.mem_cons,List.not_mem_nil,or_false] at hb
  rcases hb with hb | hb | hb | hb | hb
  ·exact ⟨l1 b hb.symm,o1.lt hb.symm⟩
  ·exact ⟨l2 b hb.symm,o2.lt hb.symm⟩
  ·exact ⟨l3 b hb.symm,o3.lt hb.symm⟩
  ·exact ⟨l4 b hb.symm,o4.lt hb.symm⟩
  ·exact ⟨l5 b hb.symm,o5.lt hb.symm⟩
 ·rintro b ⟨q,hq,hqb⟩
  exact ⟨l6 q hq b hqb,(o6 q hq).lt hqb⟩
structure RoomGood (n1 n2 n3 n4 n5:Nat) (r:Room):Prop where
 m1:n1≤24
 m2:n2≤40
 m3:n3≤32
 m4:n4≤200
 a5:1≤n5
 m5:n5≤48
 nm:∀x∈r.ns,x.name.size≤1048576
 net:netB r.ns r.ps=true
theorem roomGood {w:World} (A1 A2 A3 A4 A5:Option Addr) (n1 c1 n2 c2 n3 c3 n4 c4 n5 c5:Nat) {r:Room} (hat:RoomAt w A1 A2 A3 A4 A5 n1 c1 n2 c2 n3 c3 n4 c4 n5 c5 r) (h:roomB n1 r=true):RoomGood n1 n2 n3 n4 n5 r:=by
 have hn:=h
 simp only [roomB,nomsOk,netB,bookB,nomsB,Bool.and_eq_true,decide_eq_true_eq,inB_true] at hn
 obtain ⟨⟨⟨⟨⟨⟨⟨⟨_,h1⟩,h2⟩,h3⟩,_⟩,h4,_⟩,h5,_⟩,h6,h7⟩,_⟩:=hn
 have hnet:netB r.ns r.ps=true:=by simp only [roomB,Bool.and_eq_true] at h; exact noms_net h.1.1
 refine ⟨by rw [hat.s1.len]; exact h1,by rw [hat.s2.len]; exact h2,by rw [hat.s3.len]; exact h4,by rw [hat.s4.len]; exact h5,by have:=hat.s5.len; omega,by have:=hat.s5.len; omega,fun x hx=> ?_,hnet⟩
 obtain ⟨j,hj,rfl⟩:=List.mem_iff_getElem.1 hx
 have hh:=h3
 rw [List.all_eq_true] at hh
 have h8:=hh j (by simpa using hj)
 unfold nodeOkB at h8
 rw [List.getElem?_eq_getElem hj] at h8
 simp only [nodeB,nameB,Bool.and_eq_true,decide_eq_true_eq] at h8
 obtain ⟨⟨⟨⟨⟨⟨_,h9⟩,_⟩,_⟩,_⟩,_⟩,_⟩:=h8
 omega
theorem LRoom.ext {w w':World} {lo hi:Nat} {A1 A2 A3 A4 A5:Option Addr} {n1 c1 n2 c2 n3 c3 n4 c4 n5 c5:Nat} {r:Room} (h:LRoom w lo hi A1 A2 A3 A4 A5 n1 c1 n2 c2 n3 c3 n4 c4 n5 c5 r) (hx:Ext w w'):LRoom w' lo hi A1 A2 A3 A4 A5 n1 c1 n2 c2 n3 c3 n4 c4 n5 c5 r:=⟨h.own.ext hx,h.r5.ext hx,fun q hq=>(h.r6 q hq).ext hx,h.sep2⟩
theorem LRoom.lo5 {w:World} {lo hi:Nat} {A1 A2 A3 A4 A5:Option Addr} {n1 c1 n2 c2 n3 c3 n4 c4 n5 c5:Nat} {r:Room} (h:ROwn w lo hi A1 A2 A3 A4 A5 n1 c1 n2 c2 n3 c3 n4 c4 n5 c5 r):(∀b,blkOf A1 n1=some b→lo≤b)∧(∀b,blkOf A2 n2=some b→lo≤b)∧(∀b,blkOf A3 n3=some b→lo≤b)∧(∀b,blkOf A4 n4=some b→lo≤b)∧(∀b,blkOf A5 n5=some b→lo≤b)∧∀q∈r.rs,∀b,blkOf q.A q.n=some b→lo≤b:=
 ⟨fun b hb=>(h.rf b (by simp [hb])).1,fun b hb=>(h.rf b (by simp [hb])).1,fun b hb=>(h.rf b (by simp [hb])).1,fun b hb=>(h.rf b (by simp [hb])).1,fun b hb=>(h.rf b (by simp [hb])).1,fun q hq b hb=>(h.rq b ⟨q,hq,hb⟩).1⟩
theorem Turn.set1 {S:Nat→Prop} {w w':World} (h:Turn S w w') {p:Addr} (hp:S p.block) (u:Value):Turn S w (w'.setCell p u):=
 h.trans ((turn_set w' p u).mono (fun _ hb=>by subst hb; exact hp))
theorem Turn.drewT {S:Nat→Prop} {w w':World} (h:Turn S w w'):Turn S w w'.drew:=h.trans (Turn.of_ext (Ext.refl _).drew)
theorem SameC.five {cs:List (Nat×Nat)} {a b:World} {g:Nat} (h:SameC cs a b) (hg:∀q∈cs,q.1≠g) (u0 u1 u2 u3 u4:Value):
  SameC cs a (((((b.setCell ⟨g,0,none⟩ u0).setCell ⟨g,1,none⟩ u1).setCell ⟨g,2,none⟩ u2).setCell ⟨g,3,none⟩ u3).setCell ⟨g,4,none⟩ u4):=
 ((((h.setCell (fun q hq=> .inl (hg q hq)) u0).setCell (fun q hq=> .inl (hg q hq)) u1).setCell (fun q hq=> .inl (hg q hq)) u2).setCell (fun q hq=> .inl (hg q hq)) u3).setCell (fun q hq=> .inl (hg q hq)) u4
theorem Turn.five {S:Nat→Prop} {a b:World} {g:Nat} (h:Turn S a b) (hg:S g) (u0 u1 u2 u3 u4:Value):
  Turn S a (((((b.setCell ⟨g,0,none⟩ u0).setCell ⟨g,1,none⟩ u1).setCell ⟨g,2,none⟩ u2).setCell ⟨g,3,none⟩ u3).setCell ⟨g,4,none⟩ u4):=
 ((((h.set1 (p:=⟨g,0,none⟩) hg u0).set1 (p:=⟨g,1,none⟩) hg u1).set1 (p:=⟨g,2,none⟩) hg u2).set1 (p:=⟨g,3,none⟩) hg u3).set1 (p:=⟨g,4,none⟩) hg u4
theorem accR_zero {n1:Int} {ns:List Node} {ps:List Pipe} {xs:List Contract} {L:List Nomination} {x:Nomination} (h:(accR n1 ns ps xs L x).2=0):(accR n1 ns ps xs L x).1=L++[x]:=by
 unfold accR at h ⊢
 split
 ·rename_i h1; rw [if_pos h1] at h; exact absurd h h1
 ·rename_i h1
  rw [if_neg h1] at h
  split
  ·rename_i h2; rw [if_pos h2] at h; simp at h
  ·rename_i h2
   rw [if_neg h2] at h
   split
   ·rename_i h3; rw [if_pos h3] at h; simp at h
   ·rename_i h3
    rw [if_neg h3] at h
    split
    ·rename_i h4; rw [if_pos h4] at h; simp at h
    ·rfl
theorem blk_own {A:Option Addr} {n c b:Nat} (h:blkOf A n=some b):(Value.slice A n c).ownBlock=some b:=by
 unfold blkOf at h
 split at h
 ·cases h
 ·cases A with
  | none=>cases h
  | some a=>simp at h; simp [Value.ownBlock,h]
theorem sep_set {rs:List RS} {m N:Nat} {q new:RS} (hq:rs[m]? =some q) (h1:SepL (rs.map fun q=>blkOf q.A q.n)) (h2:SepL (rs.map fun q=>Value.ownBlock (.slice q.A q.n q.c))) (hnew:∀b,blkOf new.A new.n=some b→(Value.slice q.A q.n q.c).ownBlock=some b∨N≤b) (hlt:∀p∈rs,∀b,blkOf p.A p.n=some b→b<N):SepL ((rs.set m new).map fun q=>blkOf q.A q.n):=by
 have hm:=(List.getElem?_eq_some_iff.1 hq).1
 have key:∀(j b:Nat),m≠j→blkOf new.A new.n=some b→((rs.set m new).map fun q=>blkOf q.A q.n)[j]? ≠some (some b):=by
  intro j b hj hb he
  rw [List.getElem?_map,List.getElem?_set,if_neg hj] at he
  cases hp:rs[j]? with
  | none=>rw [hp] at he; cases he
  | some p=>
   rw [hp] at he
   injection he with he
   rcases hnew b hb with h | h
   ·exact h2 m j b hj (by rw [List.getElem?_map,hq,Option.map_some,h]) (by rw [List.getElem?_map,hp,Option.map_some,blk_own he])
   ·have:=hlt p (List.mem_of_getElem? hp) b he
    omega
 have at_m:((rs.set m new).map fun q=>blkOf q.A q.n)[m]? =some (blkOf new.A new.n):=by rw [List.getElem?_map,List.getElem?_set,if_pos rfl,if_pos hm]; rfl
 intro i j b hij hi hj
 by_cases e1:m=i
 ·subst e1
  rw [at_m] at hi
  injection hi with hi
  exact key j b hij hi hj
 ·by_cases e2:m=j
  ·subst e2
   rw [at_m] at hj
   injection hj with hj
   exact key i b e1 hj hi
  ·rw [List.getElem?_map,List.getElem?_set,if_neg e1] at hi
   rw [List.getElem?_map,List.getElem?_set,if_neg e2] at hj
   exact h1 i j b hij (by rw [List.getElem?_map]; exact hi) (by rw [List.getElem?_map]; exact hj)
theorem EvIn.turn {S:Nat→Prop} {w w':World} {b:Nat} {x:Event} (h:EvIn w b x) (k:Turn S w w') (hs:¬S b):EvIn w' b x:=
 ⟨Nat.lt_of_lt_of_le h.lt k.size,(k.cell h.lt hs).trans h.y0,(k.cell h.lt hs).trans h.y1,(k.cell h.lt hs).trans h.y2,(k.cell h.lt hs).trans h.y3,(k.cell h.lt hs).trans h.y4⟩
theorem rs_flat:∀(rs:List RS),rs.flatMap RS.cells=rs.map (fun q=>Value.slice q.A q.n q.c)
 | []=>rfl
 | q::rs=>by rw [List.flatMap_cons,rs_flat rs]; rfl
theorem Row.rs_set {w:World} {g m:Nat} {t:TypeId} {rs:List RS} {rest:List Value} (h:Row w g t (rs.flatMap RS.cells++rest)) (hm:m<rs.length) (new:RS):Row (w.setCell ⟨g,m,none⟩ (.slice new.A new.n new.c)) g t ((rs.set m new).flatMap RS.cells++rest):=by
 have h2:=h.set_ m (.slice new.A new.n new.c)
 rw [rs_flat] at h2
 rw [rs_flat,List.map_set]
 rwa [List.set_append_left _ _ (by simpa using hm)] at h2
end Go.Proofs.YtfkpghdmljjegaaGreat
