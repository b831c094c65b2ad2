/-
  Reading a journal, of the program.
-/
import Derived.Test.YtinindjjapblcaaGreatDoorWa36
import Derived.Test.YtinindjjapblcaaGreatDoorWa35
import Derived.Test.YtinindjjapblcaaGreatDoorWa01
namespace Go.Proofs.YtinindjjapblcaaGreatDoor
open Go.RowKit
open Go.Lib hiding intOf
theorem event_oneJ (y:Event):∀u∈y.cells,u.oneCell'=true:=by intro u hu; simp [Event.cells] at hu; rcases hu with rfl | rfl | rfl | rfl | rfl <;> rfl
theorem OwnL.toOwn {α:Type} {w:World} {base:Nat} {t:TypeId} {size:Nat} {f:α→List Value} {v:Value} {L:List α} (h:OwnL w base t size f v L) (hf:∀x,(f x).length=size) (hs:0<size):
  ∃A c,v= .slice A L.length c∧OwnA w t f A L.length c L∧∀b,blkOf A L.length=some b→base≤b:=by
 obtain ⟨A,c,g,hv,hg,hn,hc,ho⟩:=h.own hf hs
 exact ⟨A,c,hv,ho.toA hn hc,fun b hb=>by have:=(ho.blk hb).1; omega⟩
theorem OwnL.farB {α:Type} {w:World} {base:Nat} {e:TypeId} {size:Nat} {f:α→List Value} {v:Value} {L:List α} (h:OwnL w base e size f v L) {p:Addr} (hp:p.block<base) (u:Value):OwnL (w.setCell p u) base e size f v L:=by
 obtain ⟨h1,h2⟩:=h
 refine ⟨h1,?_⟩
 rcases h2 with h2 | ⟨k,cap,cur,hv,hb,hh,r⟩
 ·exact .inl h2
 ·exact .inr ⟨k,cap,cur,hv,hb,(Below.heap_setCell w p u k (by omega)).trans hh,r⟩
theorem Turn.ofGrown {w w':World} {row:Option Nat} (h:w.grownBy w' row):Turn (fun b=>row=some b) w w':=⟨h.os,h.tape,h.output,h.size,fun k hk hne=>h.block k hk (fun e=>hne e.symm)⟩
theorem three_set {w:World} {g:Nat} {t:TypeId} {v0 v1 v2:Value} (h:Row w g t [v0,v1,v2]) (u0 u1 u2:Value):Row (((w.setCell ⟨g,0,none⟩ u0).setCell ⟨g,1,none⟩ u1).setCell ⟨g,2,none⟩ u2) g t [u0,u1,u2]:=((h.set_ 0 u0).set_ 1 u1).set_ 2 u2
theorem three_ext {w w2:World} {g:Nat} (h:Ext w w2) (hg:w.heap.size≤g) (u0 u1 u2:Value):Ext w (((w2.setCell ⟨g,0,none⟩ u0).setCell ⟨g,1,none⟩ u1).setCell ⟨g,2,none⟩ u2):=
 ((h.setCell (p:=⟨g,0,none⟩) hg u0).setCell (p:=⟨g,1,none⟩) hg u1).setCell (p:=⟨g,2,none⟩) hg u2
theorem three_own {α:Type} {w:World} {base:Nat} {e:TypeId} {size:Nat} {f:α→List Value} {v:Value} {L:List α} {g:Nat} (h:OwnL w base e size f v L) (hg:g<base) (u0 u1 u2:Value):OwnL (((w.setCell ⟨g,0,none⟩ u0).setCell ⟨g,1,none⟩ u1).setCell ⟨g,2,none⟩ u2) base e size f v L:=
 ((h.farB (p:=⟨g,0,none⟩) hg u0).farB (p:=⟨g,1,none⟩) hg u1).farB (p:=⟨g,2,none⟩) hg u2
theorem three_far {w:World} {g g':Nat} {t:TypeId} {cs:List Value} (h:Row w g t cs) (hne:g≠g') (u0 u1 u2:Value):Row (((w.setCell ⟨g',0,none⟩ u0).setCell ⟨g',1,none⟩ u1).setCell ⟨g',2,none⟩ u2) g t cs:=
 ((h.far (p:=⟨g',0,none⟩) hne u0).far (p:=⟨g',1,none⟩) hne u1).far (p:=⟨g',2,none⟩) hne u2
theorem three_turn {w:World} {g:Nat} (u0 u1 u2:Value):Turn (fun b=>b=g) w (((w.setCell ⟨g,0,none⟩ u0).setCell ⟨g,1,none⟩ u1).setCell ⟨g,2,none⟩ u2):=by
 refine ⟨rfl,rfl,rfl,by simp,fun k _ hne=> ?_⟩
 rw [Below.heap_setCell _ _ _ _ hne,Below.heap_setCell _ _ _ _ hne,Below.heap_setCell _ _ _ _ hne]
theorem three_slice {w:World} {G n c:Nat} {xs:List (List UInt8)} {g:Nat} (h:SliceOf w 1 strC (some ⟨G,0,none⟩) n c xs) (hne:g≠G) (u0 u1 u2:Value):SliceOf (((w.setCell ⟨g,0,none⟩ u0).setCell ⟨g,1,none⟩ u1).setCell ⟨g,2,none⟩ u2) 1 strC (some ⟨G,0,none⟩) n c xs:=
 h.turn (three_turn u0 u1 u2) (fun b hb e=>by
  unfold blkOf at hb
  split at hb
  ·cases hb
  ·simp at hb; omega)
theorem recL_zero (ls:List (List UInt8)) (x:Int):recL ls 0 x=[]:=by cases ls <;> rfl
theorem recL_stop {ls:List (List UInt8)} {k m:Nat} {x:Int} {line:List UInt8} (h:ls[k]? =some line) (hn:next line x=none):recL (ls.drop k) m x=[]:=by
 obtain ⟨hk,hc⟩:=List.getElem?_eq_some_iff.1 h
 rw [List.drop_eq_getElem_cons hk,hc]
 cases m with
 | zero=>rfl
 | succ m=>simp only [recL,hn]
theorem recL_go {ls:List (List UInt8)} {k m:Nat} {x:Int} {line:List UInt8} {e:Event} (h:ls[k]? =some line) (hn:next line x=some e) (hm:0<m):recL (ls.drop k) m x=e::recL (ls.drop (k+1)) (m-1) (sumE e x):=by
 obtain ⟨hk,hc⟩:=List.getElem?_eq_some_iff.1 h
 rw [List.drop_eq_getElem_cons hk,hc]
 cases m with
 | zero=>omega
 | succ m=>simp only [recL,hn]; rfl
theorem next_inv {line:List UInt8} {x:Int} (h:evB (readP line)=false):next line x=none:=by
 unfold next; rw [if_neg (by simp [h])]
theorem next_ne {line:List UInt8} {x:Int} (h:lineL (readP line) x≠line):next line x=none:=by
 unfold next; rw [if_neg (fun hh=>h hh.2)]
theorem next_yes {line:List UInt8} {x:Int} (h:evB (readP line)=true) (h2:lineL (readP line) x=line):next line x=some (readP line):=by
 unfold next; rw [if_pos ⟨h,h2⟩]
def JourPost (l:List UInt8) (w:World) (e:Ending) (w':World):Prop:=
 ∃A c,e= .returned (.agg #[.slice A (recS l).length c,.int .i64 ((textL (recS l) 1).length:Int),.int .i64 (sumEs (recS l) 1)])∧OwnA w' 54 Event.cells A (recS l).length c (recS l)∧(∀b,blkOf A (recS l).length=some b→w.heap.size≤b)∧Ext w w'
@[go_sem] theorem laterC_cell6J (cs:List (Nat×Nat)) (w x:World) (q1 q2 q3 q4 q5:Nat×Nat) (b o:Nat):(laterC (q1::q2::q3::q4::q5::(b,o)::cs) w x).cell? ⟨b,o,none⟩=w.cell? ⟨b,o,none⟩:=same_laterC _ w x (b,o) (by simp)
@[go_sem] theorem laterC_cell7J (cs:List (Nat×Nat)) (w x:World) (q1 q2 q3 q4 q5 q6:Nat×Nat) (b o:Nat):(laterC (q1::q2::q3::q4::q5::q6::(b,o)::cs) w x).cell? ⟨b,o,none⟩=w.cell? ⟨b,o,none⟩:=same_laterC _ w x (b,o) (by simp)
theorem samec_grown {cs:List (Nat×Nat)} {w w' w'':World} {row:Option Nat} (h:SameC cs w w') (hg:w'.grownBy w'' row) (hr:∀q∈cs,row≠some q.1∧q.1<w'.heap.size):SameC cs w w'':=fun q hq=>by
 rw [(Turn.ofGrown hg).cell (hr q hq).2 (hr q hq).1]
 exact h q hq
theorem event_one_slice {w:World} {g:Nat} {p:Event} (h:Row w g 54 p.cells):SliceOf w 5 Event.cells (some ⟨g,0,none⟩) 1 1 [p]:=
 RowOf.slice (t:=54) (xs:=[p]) (f:=Event.cells) (by simpa [RowOf] using h) event_len rfl (by omega)
set_option maxHeartbeats 4000000 in
set_option maxRecDepth 8000 in
theorem c_readJournal (l:List UInt8) (hl:l.length≤1048576) (w:World) (hg:Glob w):
  Calls Tryz.prog 105 #[.string (mkB l)] w (JourPost l w):=by
 obtain ⟨W1,HW⟩:∃W1,Hid ((w.alloc (.cells #[.slice none 0 0,.int .i64 0,.int .i64 0] 144)).alloc (.cells #[.slice none 0 0,.int .i64 0,.int .i64 1] 144)=W1):=⟨_,hide rfl⟩
 have hx0:Ext w W1:=by rw [←HW.out]; exact (Ext.alloc _ _).and_alloc _
 have hR0:Row W1 w.heap.size 144 [.slice none 0 0,.int .i64 0,.int .i64 0]:=by rw [←HW.out]; exact (Row.new w _ _).alloc _
 have hJ0:Row W1 (w.heap.size+1) 144 [(.slice none 0 0),.int .i64 0,.int .i64 1]:=by
  rw [←HW.out]
  have:=Row.new (w.alloc (.cells #[.slice none 0 0,.int .i64 0,.int .i64 0] 144)) 144 [.slice none 0 0,.int .i64 0,.int .i64 1]
  rwa [show (w.alloc (.cells #[.slice none 0 0,.int .i64 0,.int .i64 0] 144)).heap.size=w.heap.size+1 by simp] at this
 have hn:=splitL_len 10 l
 have hpc:∀x∈(splitL 10 l).dropLast,x.length≤1048576:=fun x hx=>by have:=splitL_piece 10 l x (List.dropLast_subset _ hx); omega
 have HREC0:=hide (show recS l=recL (splitL 10 l).dropLast 300 1 from rfl)
 have HPC:=hide hpc
 clear hpc
 go_enter Tryz.func105,Tryz.ntmps105
 go_wp2_with fail
 rw [HW.out]
 refine (c_linesOf l hl _ (hg.ext hx0)).mono ?_
 rintro e w2 ⟨n,c,last,rfl,hsl,hx2,hHl⟩
 have hnl:=hsl.len
 rw [List.length_dropLast] at hnl
 have hn2:n≤1048576:=by omega
 generalize (splitL 10 l).dropLast=ls at *
 have hGlt:=hJ0.lt
 clear hn hnl
 have hR2:=hR0.ext hx2
 have hJ2:=hJ0.ext hx2
 have hX2:=hx0.trans hx2
 have hGn:w.heap.size+1<W1.heap.size:=hGlt
 generalize W1.heap.size=G at *
 clear hR0 hJ0 hx0 hx2 hGlt
 go_wp2_with fail
 go_loopw [7,8,9,10,11,20] (fun _ _ _ _ _ i wr=>∃(k:Nat) (es:List Event) (v:Value) (long sm:Int),k≤n∧i= .int .i64 k∧es.length≤300∧0≤long∧long≤49*es.length∧0≤sm∧sm<99991∧Hid (((textL es 1).length:Int)=long)∧Hid (sumEs es 1=sm)∧Hid (es++recL (ls.drop k) (300-es.length) sm=recS l)∧
  Row wr w.heap.size 144 [.slice none 0 0,.int .i64 0,.int .i64 0]∧Row wr (w.heap.size+1) 144 [v,.int .i64 long,.int .i64 sm]∧OwnL wr w2.heap.size 54 5 Event.cells v es∧SliceOf wr 1 strC (some ⟨G,0,none⟩) n c ls∧Ext w wr∧w2.heap.size≤wr.heap.size) (fun _ _ _ _ _ i _=>n-(intOf i).toNat)
 case atStart=>exact ⟨0,[],_,0,1,Nat.zero_le _,rfl,by simp,by omega,by simp,by omega,by omega,hide rfl,hide rfl,hide (by rw [HREC0.out]; rfl),hR2,hJ2,OwnL.nil_ _ _ _ _ _,hsl,hX2,Nat.le_refl _⟩
 case round=>
  clear hR2 hJ2 hsl hX2
  obtain ⟨k,es,v,long,sm,hk,rfl,hes,hl0,hl1,hs0,hs1,HLONG,HSUM,HREC,hRr,hJ,ho,hsl,hx,hz⟩:=hrel
  obtain ⟨VA,vc,hv,hvc,hvm⟩:=ho.form
  obtain ⟨N,hN⟩:∃N,es.length=N:=⟨_,rfl⟩
  rw [hN] at hv hvc hes hl1
  have HN:=hide hN
  clear hN
  by_cases hlt:k<n
  ·obtain ⟨b,off,line,hA,hb,hxk,hc0⟩:=hsl.getStr hlt
   injection hA with hA
   injection hA with hA1 hA2
   subst hA1 hA2
   rw [Nat.zero_add] at hc0
   have HXK:=hide hxk
   have hll:=HPC.out line (List.mem_of_getElem? hxk)
   have hls:(mkB line).size≤1048576:=hll
   clear hxk
   subst hv
   have hbl:=World.ownsRow.lt ho
   go_wp2_with fail
   refine (c_readEvent line hll _ (hg.ext hx)).mono ?_
   rintro e w3 ⟨rfl,hx3⟩
   have HNI:=hide (@next_inv line sm)
   have HNN:=hide (@next_ne line sm)
   have HNY:=hide (@next_yes line sm)
   generalize readP line=p at *
   have hx34:Ext wr (w3.alloc (.cells #[.int .i64 p.kind,.int .i64 p.a,.int .i64 p.b,.int .i64 p.c,.int .i64 p.d] 54)):=hx3.and_alloc _
   have hE:Row (w3.alloc (.cells #[.int .i64 p.kind,.int .i64 p.a,.int .i64 p.b,.int .i64 p.c,.int .i64 p.d] 54)) w3.heap.size 54 p.cells:=Row.new w3 _ _
   have hz3:=hx3.size
   replace hRr:=hRr.ext hx34
   replace hJ:=hJ.ext hx34
   replace ho:=ho.ext hx34
   replace hsl:=hsl.ext hx34
   replace hx:=hx.trans hx34
   clear hx34 hx3 hc0 hb
   have j0:=hJ.cell 0
   have j1:=hJ.cell 1
   have j2:=hJ.cell 2
   have jl:=hJ.lt
   simp only [List.getElem?_cons_zero,List.getElem?_cons_succ] at j0 j1 j2
   cases hev:evB p with
   | false=>
    have HSTOP:=hide (show es++recL (ls.drop k) (300-es.length) sm=es by rw [recL_stop HXK.out (HNI.out hev),List.append_nil])
    clear hev hsl hE j0 j1 j2
    have HREC2:=hide (show recS l=es by rw [←HREC.out]; exact HSTOP.out)
    have zz0:=hRr.cell 0
    have zz1:=hRr.cell 1
    have zz2:=hRr.cell 2
    have zzf:=hRr.frozen
    have zzl:=hRr.lt
    have zzj:=hJ.lt
    have j0:=hJ.cell 0
    have j1:=hJ.cell 1
    have j2:=hJ.cell 2
    simp only [List.getElem?_cons_zero,List.getElem?_cons_succ] at zz0 zz1 zz2 j0 j1 j2
    go_wp2_with fail
    have rS:=three_set hRr (.slice VA N vc) (.int .i64 long) (.int .i64 sm)
    have hXS:=three_ext hx (g:=w.heap.size) (Nat.le_refl _) (.slice VA N vc) (.int .i64 long) (.int .i64 sm)
    have hoS:=three_own ho (g:=w.heap.size) (by omega) (.slice VA N vc) (.int .i64 long) (.int .i64 sm)
    generalize ((((w3.alloc (.cells #[.int .i64 p.kind,.int .i64 p.a,.int .i64 p.b,.int .i64 p.c,.int .i64 p.d] 54)).setCell ⟨w.heap.size,0,none⟩ (.slice VA N vc)).setCell ⟨w.heap.size,1,none⟩ (.int .i64 long)).setCell ⟨w.heap.size,2,none⟩ (.int .i64 sm))=W5 at *
    have y0:=rS.cell 0
    have y1:=rS.cell 1
    have y2:=rS.cell 2
    simp only [List.getElem?_cons_zero,List.getElem?_cons_succ] at y0 y1 y2
    obtain ⟨A',c',hv',hoA,hbA⟩:=hoS.toOwn event_len (by omega)
    refine bodyPost_ret (v:= .agg #[(.slice VA N vc),.int .i64 long,.int .i64 sm]) (by simp [results,Tryz.results105,go_sem,y0,y1,y2]) rfl ?_
    exact ⟨A',c',by rw [HREC2.out,HLONG.out,HSUM.out,hv'],by rw [HREC2.out]; exact hoA,by rw [HREC2.out]; exact fun b hb=>by have:=hbA b hb; omega,hXS⟩
   | true=>
    by_cases h300:N=300
    ·have HSTOP:=hide (show es++recL (ls.drop k) (300-es.length) sm=es by rw [HN.out,h300,Nat.sub_self,recL_zero,List.append_nil])
     subst h300
     clear hev hsl hE j0 j1 j2
     have HREC2:=hide (show recS l=es by rw [←HREC.out]; exact HSTOP.out)
     have zz0:=hRr.cell 0
     have zz1:=hRr.cell 1
     have zz2:=hRr.cell 2
     have zzf:=hRr.frozen
     have zzl:=hRr.lt
     have zzj:=hJ.lt
     have j0:=hJ.cell 0
     have j1:=hJ.cell 1
     have j2:=hJ.cell 2
     simp only [List.getElem?_cons_zero,List.getElem?_cons_succ] at zz0 zz1 zz2 j0 j1 j2
     go_wp2_with fail
     have rS:=three_set hRr (.slice VA 300 vc) (.int .i64 long) (.int .i64 sm)
     have hXS:=three_ext hx (g:=w.heap.size) (Nat.le_refl _) (.slice VA 300 vc) (.int .i64 long) (.int .i64 sm)
     have hoS:=three_own ho (g:=w.heap.size) (by omega) (.slice VA 300 vc) (.int .i64 long) (.int .i64 sm)
     generalize ((((w3.alloc (.cells #[.int .i64 p.kind,.int .i64 p.a,.int .i64 p.b,.int .i64 p.c,.int .i64 p.d] 54)).setCell ⟨w.heap.size,0,none⟩ (.slice VA 300 vc)).setCell ⟨w.heap.size,1,none⟩ (.int .i64 long)).setCell ⟨w.heap.size,2,none⟩ (.int .i64 sm))=W5 at *
     have y0:=rS.cell 0
     have y1:=rS.cell 1
     have y2:=rS.cell 2
     simp only [List.getElem?_cons_zero,List.getElem?_cons_succ] at y0 y1 y2
     obtain ⟨A',c',hv',hoA,hbA⟩:=hoS.toOwn event_len (by omega)
     refine bodyPost_ret (v:= .agg #[(.slice VA 300 vc),.int .i64 long,.int .i64 sm]) (by simp [results,Tryz.results105,go_sem,y0,y1,y2]) rfl ?_
     exact ⟨A',c',by rw [HREC2.out,HLONG.out,HSUM.out,hv'],by rw [HREC2.out]; exact hoA,by rw [HREC2.out]; exact fun b hb=>by have:=hbA b hb; omega,hXS⟩
    ·have h3b:((N:Int)==300)=false:=by rw [beq_eq_false_iff_ne]; omega
     have HEV:=hide hev
     clear hev
     go_wp2_with fail
     refine (c_eventLine p sm _ HEV.out hs0 hs1 (hg.ext hx).toJ).mono ?_
     rintro e w5 ⟨rfl,hx5⟩
     have g1:mkB line++(⟨#[10]⟩:ByteArray)=mkB (line++[10]):=mkB_append line [10]
     have hzb:w3.heap.size<((w3.alloc (.cells #[.int .i64 p.kind,.int .i64 p.a,.int .i64 p.b,.int .i64 p.c,.int .i64 p.d] 54))).heap.size:=hE.lt
     have hz5:=hx5.size
     replace hRr:=hRr.ext hx5
     replace hJ:=hJ.ext hx5
     replace ho:=ho.ext hx5
     replace hsl:=hsl.ext hx5
     replace hx:=hx.trans hx5
     have hE5:=hE.ext hx5
     clear hE hx5 j0 j1 j2 jl
     generalize ((w3.alloc (.cells #[.int .i64 p.kind,.int .i64 p.a,.int .i64 p.b,.int .i64 p.c,.int .i64 p.d] 54))).heap.size=zb at *
     by_cases heq:lineL p sm=line
     ·have hb:((mkB (lineL p sm++[10])).toList==(mkB line++(⟨#[10]⟩:ByteArray)).toList)=true:=by rw [g1,mkB_toList,mkB_toList,heq]; simp
      have j0:=hJ.cell 0
      have j1:=hJ.cell 1
      have j2:=hJ.cell 2
      have jl:=hJ.lt
      have e0:=hE5.cell 0
      have e1:=hE5.cell 1
      have e2:=hE5.cell 2
      have e3:=hE5.cell 3
      have e4:=hE5.cell 4
      have el:=hE5.lt
      have jf:=hJ.frozen
      simp only [Event.cells,List.getElem?_cons_zero,List.getElem?_cons_succ] at j0 j1 j2 e0 e1 e2 e3 e4
      have hll2:(mkB (lineL p sm++[10])).size≤49:=by have:=lineL_small p sm HEV.out hs0 hs1; rw [mkB_size]; simp; omega
      have HEQ:=hide heq
      have HNL:=hide (show (mkB (lineL p sm++[10])).size=(lineL p sm).length+1 by rw [mkB_size]; simp)
      have hx6:Ext w5 (w5.alloc (.cells #[.int .i64 p.kind,.int .i64 p.a,.int .i64 p.b,.int .i64 p.c,.int .i64 p.d] 54)).drew:=(Ext.alloc _ _).drew
      have hr6:Row (w5.alloc (.cells #[.int .i64 p.kind,.int .i64 p.a,.int .i64 p.b,.int .i64 p.c,.int .i64 p.d] 54)).drew w5.heap.size 54 p.cells:=(Row.new w5 _ _).drew
      clear g1 heq
      generalize hon:lineL p sm++[10]=ow at *
      clear hon
      generalize hnl:(mkB ow).size=nl at *
      have HN2:=hide hnl
      go_wp2_with fail
      refine wp_region_phZ [(w.heap.size+1,0),(w.heap.size+1,1),(w3.heap.size,0),(w3.heap.size,1),(w3.heap.size,2),(w3.heap.size,3),(w3.heap.size,4)] [([0,1,2,5,6,7,8,9,10],3),([],4)] [11] 12 (by kernel_rfl) (by kernel_rfl) (by intro c a w d v h; cases d <;> exact h) ?_
      simp only [wpPhZ,pickL,nthO]
      repeat (go_big_quiet_step (fail))
      refine wpQuiet_nil ?_
      go_wp2_with fail
      have hsc:SameC [(w.heap.size+1,0),(w.heap.size+1,1),(w3.heap.size,0),(w3.heap.size,1),(w3.heap.size,2),(w3.heap.size,3),(w3.heap.size,4)] w5 (w5.alloc (.cells #[.int .i64 p.kind,.int .i64 p.a,.int .i64 p.b,.int .i64 p.c,.int .i64 p.d] 54)).drew:=SameC.of_ext hx6 (by simp; omega)
      refine ⟨hsc,wpQuiet_nil ?_⟩
      have hz6:=hx6.size
      replace hRr:=hRr.ext hx6
      replace hJ:=hJ.ext hx6
      replace ho:=ho.ext hx6
      replace hsl:=hsl.ext hx6
      replace hx:=hx.trans hx6
      clear j0 j1 j2 e0 e1 e2 e3 e4 hb hE5 hx6
      generalize (w5.alloc (.cells #[.int .i64 p.kind,.int .i64 p.a,.int .i64 p.b,.int .i64 p.c,.int .i64 p.d] 54)).drew=W6 at *
      go_wp2_with (at_builtin; go_must (refine wpList_append_grow rfl _ _ 34 rfl w2.heap.size 54 _ 5 40 Tryz.underlying34 event_info rfl (by decide) Event.cells event_len event_oneJ (.slice VA N vc) es rfl ho (some ⟨w5.heap.size,0,none⟩) 1 1 [p] rfl (event_one_slice hr6) (by have:=HN.out; omega) (by omega) (by omega) ?_))
      intro v7 w7 ho7 g7
      have hT7:=Turn.ofGrown g7
      have hJ7:=hJ.turn hT7 (fun h=>by have:=hbl _ h; omega)
      have hR7:=hRr.turn hT7 (fun h=>by have:=hbl _ h; omega)
      have hsl7:=hsl.turn hT7 (fun b hb h=>by
       have:=hbl _ h
       unfold blkOf at hb
       split at hb
       ·cases hb
       ·simp at hb; omega)
      have hx7:=hx.grown g7 (fun b h=>by have:=hbl _ h; omega)
      have hz7:=hT7.size
      have hsc7:=samec_grown hsc g7 (fun q hq=>by
       simp at hq
       rcases hq with rfl | rfl | rfl | rfl | rfl | rfl | rfl <;> exact ⟨fun h=>by have:=hbl _ h; simp at this; omega,by simp; omega⟩)
      clear hsl hRr hJ ho hx hr6 hsc hT7 g7
      obtain ⟨V7,c7,hv7,hc7,hm7⟩:=ho7.form
      subst hv7
      go_wp2_with fail
      refine ⟨hsc7,?_⟩
      repeat (go_big_quiet_step (fail))
      refine wpQuiet_nil ?_
      have j0:=hJ7.cell 0
      have j1:=hJ7.cell 1
      have j2:=hJ7.cell 2
      have jl7:=hJ7.lt
      have jf7:=hJ7.frozen
      simp only [List.getElem?_cons_zero,List.getElem?_cons_succ] at j0 j1 j2
      rw [List.length_append,List.length_singleton] at ho7
      go_wp2_with fail
      have rS:=three_set hJ7 (.slice V7 (es.length+1) c7) (.int .i64 (long+(nl:Int))) (.int .i64 (sumE p sm))
      have rR:=three_far hR7 (g':=w.heap.size+1) (by omega) (.slice V7 (es.length+1) c7) (.int .i64 (long+(nl:Int))) (.int .i64 (sumE p sm))
      have rO:=three_own ho7 (g:=w.heap.size+1) (by omega) (.slice V7 (es.length+1) c7) (.int .i64 (long+(nl:Int))) (.int .i64 (sumE p sm))
      have rX:=three_ext hx7 (g:=w.heap.size+1) (by omega) (.slice V7 (es.length+1) c7) (.int .i64 (long+(nl:Int))) (.int .i64 (sumE p sm))
      have rL:=three_slice hsl7 (g:=w.heap.size+1) (by omega) (.slice V7 (es.length+1) c7) (.int .i64 (long+(nl:Int))) (.int .i64 (sumE p sm))
      have rZ:w7.heap.size≤((((w7.setCell ⟨(w.heap.size+1),0,none⟩ (.slice V7 (es.length+1) c7)).setCell ⟨(w.heap.size+1),1,none⟩ (.int .i64 (long+(nl:Int)))).setCell ⟨(w.heap.size+1),2,none⟩ (.int .i64 (sumE p sm)))).heap.size:=by simp
      generalize (((w7.setCell ⟨(w.heap.size+1),0,none⟩ (.slice V7 (es.length+1) c7)).setCell ⟨(w.heap.size+1),1,none⟩ (.int .i64 (long+(nl:Int)))).setCell ⟨(w.heap.size+1),2,none⟩ (.int .i64 (sumE p sm)))=W8 at *
      have hsb:=sumE_bound p sm hs0 hs1
      have hlen:=HN.out
      go_roundw
      case rel=>
       refine ⟨k+1,es++[p],_,_,_,by omega,by go_num,by simp; omega,?_,?_,hsb.1,hsb.2,hide ?_,hide ?_,hide ?_,rR,rS,rO,rL,rX,by omega⟩
       ·omega
       ·simp; omega
       ·rw [textL_append,HSUM.out,HNL.out, ←HLONG.out]; simp [textL]
       ·rw [sumEs_append,HSUM.out]; rfl
       ·rw [←HREC.out,recL_go HXK.out (HNY.out HEV.out HEQ.out) (by omega),List.append_assoc,List.length_append,List.length_singleton,Nat.sub_sub]; rfl
      case measure=>simp [intOf]; omega
     ·have hb:((mkB (lineL p sm++[10])).toList==(mkB line++(⟨#[10]⟩:ByteArray)).toList)=false:=by
       rw [g1,mkB_toList,mkB_toList,beq_eq_false_iff_ne]
       exact fun h=>heq (List.append_cancel_right h)
      have HSTOP:=hide (show es++recL (ls.drop k) (300-es.length) sm=es by rw [recL_stop HXK.out (HNN.out heq),List.append_nil])
      clear g1 heq hsl hE5
      have HREC2:=hide (show recS l=es by rw [←HREC.out]; exact HSTOP.out)
      have zz0:=hRr.cell 0
      have zz1:=hRr.cell 1
      have zz2:=hRr.cell 2
      have zzf:=hRr.frozen
      have zzl:=hRr.lt
      have zzj:=hJ.lt
      have j0:=hJ.cell 0
      have j1:=hJ.cell 1
      have j2:=hJ.cell 2
      simp only [List.getElem?_cons_zero,List.getElem?_cons_succ] at zz0 zz1 zz2 j0 j1 j2
      go_wp2_with fail
      have rS:=three_set hRr (.slice VA N vc) (.int .i64 long) (.int .i64 sm)
      have hXS:=three_ext hx (g:=w.heap.size) (Nat.le_refl _) (.slice VA N vc) (.int .i64 long) (.int .i64 sm)
      have hoS:=three_own ho (g:=w.heap.size) (by omega) (.slice VA N vc) (.int .i64 long) (.int .i64 sm)
      generalize (((w5.setCell ⟨w.heap.size,0,none⟩ (.slice VA N vc)).setCell ⟨w.heap.size,1,none⟩ (.int .i64 long)).setCell ⟨w.heap.size,2,none⟩ (.int .i64 sm))=W5 at *
      have y0:=rS.cell 0
      have y1:=rS.cell 1
      have y2:=rS.cell 2
      simp only [List.getElem?_cons_zero,List.getElem?_cons_succ] at y0 y1 y2
      obtain ⟨A',c',hv',hoA,hbA⟩:=hoS.toOwn event_len (by omega)
      refine bodyPost_ret (v:= .agg #[(.slice VA N vc),.int .i64 long,.int .i64 sm]) (by simp [results,Tryz.results105,go_sem,y0,y1,y2]) rfl ?_
      exact ⟨A',c',by rw [HREC2.out,HLONG.out,HSUM.out,hv'],by rw [HREC2.out]; exact hoA,by rw [HREC2.out]; exact fun b hb=>by have:=hbA b hb; omega,hXS⟩
  ·have hkn:k=n:=by omega
   have HSTOP:=hide (show es++recL (ls.drop k) (300-es.length) sm=es by rw [hkn,hsl.len,List.drop_length]; simp [recL])
   clear hsl
   subst hv
   obtain rfl:=hkn
   have HREC2:=hide (show recS l=es by rw [←HREC.out]; exact HSTOP.out)
   have zz0:=hRr.cell 0
   have zz1:=hRr.cell 1
   have zz2:=hRr.cell 2
   have zzf:=hRr.frozen
   have zzl:=hRr.lt
   have zzj:=hJ.lt
   have j0:=hJ.cell 0
   have j1:=hJ.cell 1
   have j2:=hJ.cell 2
   simp only [List.getElem?_cons_zero,List.getElem?_cons_succ] at zz0 zz1 zz2 j0 j1 j2
   go_wp2_with fail
   have rS:=three_set hRr (.slice VA N vc) (.int .i64 long) (.int .i64 sm)
   have hXS:=three_ext hx (g:=w.heap.size) (Nat.le_refl _) (.slice VA N vc) (.int .i64 long) (.int .i64 sm)
   have hoS:=three_own ho (g:=w.heap.size) (by omega) (.slice VA N vc) (.int .i64 long) (.int .i64 sm)
   generalize (((wr.setCell ⟨w.heap.size,0,none⟩ (.slice VA N vc)).setCell ⟨w.heap.size,1,none⟩ (.int .i64 long)).setCell ⟨w.heap.size,2,none⟩ (.int .i64 sm))=W5 at *
   have y0:=rS.cell 0
   have y1:=rS.cell 1
   have y2:=rS.cell 2
   simp only [List.getElem?_cons_zero,List.getElem?_cons_succ] at y0 y1 y2
   obtain ⟨A',c',hv',hoA,hbA⟩:=hoS.toOwn event_len (by omega)
   refine bodyPost_ret (v:= .agg #[(.slice VA N vc),.int .i64 long,.int .i64 sm]) (by simp [results,Tryz.results105,go_sem,y0,y1,y2]) rfl ?_
   exact ⟨A',c',by rw [HREC2.out,HLONG.out,HSUM.out,hv'],by rw [HREC2.out]; exact hoA,by rw [HREC2.out]; exact fun b hb=>by have:=hbA b hb; omega,hXS⟩
end Go.Proofs.YtinindjjapblcaaGreatDoor
