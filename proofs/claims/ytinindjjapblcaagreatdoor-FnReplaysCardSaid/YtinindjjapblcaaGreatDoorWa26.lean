/-
  l33Apply of the reference: a room after an event.
-/
import Derived.Test.YtinindjjapblcaaGreatDoorWa25
namespace Go.Proofs.YtinindjjapblcaaGreatDoor
open Go.RowKit
def KB1 (lo:Nat) (y:Reading):Value→World→Prop:=fun v w=>∃g,v= .slice (some ⟨g,0,none⟩) 1 1∧Row w g 84 [.int .i64 y.node,.int .i64 y.amount]∧lo≤g
theorem stKB1 (lo:Nat) (y:Reading):stK (KB1 lo y):=fun _ _ _ ⟨g,h1,h2,h3⟩ hx=>⟨g,h1,h2.ext hx,h3⟩
theorem OwnL.ltW {α:Type} {w:World} {base:Nat} {e:TypeId} {size:Nat} {f:α→List Value} {v:Value} {L:List α} (h:OwnL w base e size f v L) {k:Nat} (hk:v.ownBlock=some k):base≤k∧k<w.heap.size:=World.ownsRow.lt h k hk
theorem OwnL.turnT {α:Type} {S:Nat→Prop} {w w':World} {base:Nat} {e:TypeId} {size:Nat} {f:α→List Value} {v:Value} {L:List α} (h:OwnL w base e size f v L) (k:Turn S w w') (hne:∀b,v.ownBlock=some b→¬S b):OwnL w' base e size f v L:=by
 have hlt:=fun b hb=>(h.ltW (k:=b) hb).2
 obtain ⟨h1,h2⟩:=h
 refine ⟨h1,?_⟩
 rcases h2 with h2 | ⟨g,cap,cur,hv,hb,hh,r⟩
 ·exact .inl h2
 ·have ho:v.ownBlock=some g:=by rw [hv]; rfl
  exact .inr ⟨g,cap,cur,hv,hb,(k.block g (hlt g ho) (hne g ho)).trans hh,r⟩
theorem flat_oneT {α:Type} {f:α→List Value} (hf:∀x,(f x).length=1):∀(L:List α) (k:Nat) (u:Value) (y:α),k<L.length→f y=[u]→(L.flatMap f).set k u=(L.set k y).flatMap f
 | [],k,u,y,h,_=>by simp at h
 | e::L,0,u,y,_,hy=>by
  rw [List.flatMap_cons,List.set_append_left _ _ (by rw [hf]; omega),List.set_cons_zero,List.flatMap_cons,hy]
  have h1:=hf e
  match h:f e,h1 with
  | [z],_=>rfl
 | e::L,k+1,u,y,h,hy=>by
  have ih:=flat_oneT hf L k u y (by simpa using h) hy
  rw [List.flatMap_cons,List.set_append_right _ _ (by rw [hf]; omega),hf,show k+1-1=k by omega,ih,List.set_cons_succ,List.flatMap_cons]
theorem OwnL.setT {α:Type} {w:World} {base g:Nat} {e:TypeId} {f:α→List Value} {n c:Nat} {L:List α} (h:OwnL w base e 1 f (.slice (some ⟨g,0,none⟩) n c) L) (hf:∀x,(f x).length=1) {k:Nat} {y:α} {u:Value} (hk:k<L.length) (hy:f y=[u]):
  OwnL (w.setCell ⟨g,k,none⟩ u) base e 1 f (.slice (some ⟨g,0,none⟩) n c) (L.set k y):=by
 have hfl:=flat_len (xs:=L) hf
 obtain ⟨h1,h2⟩:=h
 rcases h2 with ⟨hv,hn⟩ | ⟨g',cap,cur,hv,hb,hh,hnc,hcm,hsz,htk⟩
 ·omega
 ·simp only [Value.slice.injEq,Option.some.injEq,Addr.mk.injEq,and_true] at hv
  obtain ⟨rfl,rfl,rfl⟩:=hv
  have hR:Row w g e cur.toList:=by unfold Row; rw [Array.toArray_toList]; exact hh
  refine ⟨by rw [flat_len hf,List.length_set],.inr ⟨g,c,(cur.toList.set k u).toArray,by rw [List.length_set],hb,hR.set_ k u,by rw [List.length_set]; exact hnc,hcm,by simpa using hsz,?_⟩⟩
  rw [List.length_set,List.toList_toArray,List.take_set,htk]
  exact flat_oneT hf L k u y hk hy
theorem sepT_set {α:Type} {f:α→Option Nat} {l:List α} {m N:Nat} {x:α} (hs:SepL (l.map f)) (hN:∀b,f x=some b→N≤b) (hold:∀p∈l,∀b,f p=some b→b<N):SepL ((l.set m x).map f):=by
 intro i j b hij hi hj
 rw [List.getElem?_map,List.getElem?_set] at hi hj
 have old:∀i:Nat,(l[i]?).map f=some (some b)→b<N:=fun i h=>by
  cases hp:l[i]? with
  | none=>rw [hp] at h; cases h
  | some p=>rw [hp] at h; exact hold p (List.mem_of_getElem? hp) b (Option.some.inj h)
 by_cases h1:m=i
 ·rw [if_pos h1] at hi
  rw [if_neg (by omega)] at hj
  have:=old j hj
  split at hi
  ·have:=hN b (Option.some.inj hi); omega
  ·cases hi
 ·rw [if_neg h1] at hi
  by_cases h2:m=j
  ·rw [if_pos h2] at hj
   have:=old i hi
   split at hj
   ·have:=hN b (Option.some.inj hj); omega
   ·cases hj
  ·rw [if_neg h2] at hj
   rw [←List.getElem?_map] at hi hj
   exact hs i j b hij hi hj
def RetApL (nn:Int) (r:Room) (x:Event) (w:World) (e:Ending) (w':World):Prop:=
 ∃(A1 A2 A3 A4 A5:Option Addr) (n1 c1 n2 c2 n3 c3 n4 c4 n5 c5:Nat) (r':Room),e= .returned (.tuple #[.agg #[.slice A1 n1 c1,.slice A2 n2 c2,.slice A3 n3 c3,.slice A4 n4 c4,.slice A5 n5 c5],.bool (appB nn r x)])∧(appB nn r x=true→LRoom w' w.heap.size w'.heap.size A1 A2 A3 A4 A5 n1 c1 n2 c2 n3 c3 n4 c4 n5 c5 r'∧r'.Like (appR r x))∧Ext w w'
set_option maxHeartbeats 8000000 in
theorem c_l33ApplyL (A1 A2 A3 A4 A5:Option Addr) (n1 c1 n2 c2 n3 c3 n4 c4 n5 c5:Nat) (r:Room) (x:Event) (w:World) (hat:RoomAt w A1 A2 A3 A4 A5 n1 c1 n2 c2 n3 c3 n4 c4 n5 c5 r) (hok:roomB n1 r=true):
  Calls Tryz.prog 46 #[.agg #[.slice A1 n1 c1,.slice A2 n2 c2,.slice A3 n3 c3,.slice A4 n4 c4,.slice A5 n5 c5],.agg #[.int .i64 x.kind,.int .i64 x.a,.int .i64 x.b,.int .i64 x.c,.int .i64 x.d]] w (RetApL n1 r x w):=by
 obtain ⟨W0,HW⟩:∃W0,Hid (((w.alloc (.cells #[.slice A1 n1 c1,.slice A2 n2 c2,.slice A3 n3 c3,.slice A4 n4 c4,.slice A5 n5 c5] 32)).alloc (.cells #[.int .i64 x.kind,.int .i64 x.a,.int .i64 x.b,.int .i64 x.c,.int .i64 x.d] 54)).alloc (.cells #[.slice none 0 0,.slice none 0 0,.slice none 0 0,.slice none 0 0,.slice none 0 0] 32)=W0):=⟨_,hide rfl⟩
 have hin:RoomIn W0 w.heap.size A1 A2 A3 A4 A5 n1 c1 n2 c2 n3 c3 n4 c4 n5 c5:=by rw [←HW.out]; exact (RoomIn.new w A1 A2 A3 A4 A5 n1 c1 n2 c2 n3 c3 n4 c4 n5 c5 32).ext ((Ext.alloc _ _).and_alloc _)
 have hei:EvIn W0 (w.heap.size+1) x:=by rw [←HW.out]; have h:=EvIn.new (w.alloc (.cells #[.slice A1 n1 c1,.slice A2 n2 c2,.slice A3 n3 c3,.slice A4 n4 c4,.slice A5 n5 c5] 32)) x 54; rw [World.size_alloc] at h; exact h.ext (Ext.alloc _ _)
 have hzr:Row W0 (w.heap.size+2) 32 [.slice none 0 0,.slice none 0 0,.slice none 0 0,.slice none 0 0,.slice none 0 0]:=by rw [←HW.out]; exact Row.new' (by simp)
 have x0:Ext w W0:=by rw [←HW.out]; exact ((Ext.alloc _ _).and_alloc _).and_alloc _
 have hza:W0.heap.size≤w.heap.size+3:=by rw [←HW.out]; simp
 have hzb:w.heap.size+3≤W0.heap.size:=by rw [←HW.out]; simp
 obtain ⟨m1,m2,m3,m4,a5,m5,hnm,hnet⟩:=roomGood A1 A2 A3 A4 A5 n1 c1 n2 c2 n3 c3 n4 c4 n5 c5 hat hok
 have hf:=roomFits hok
 have HN5:=hide hat.s5.len
 have HNM:=hide hnm
 have HNT:=hide hnet
 have HOK:=hide hok
 clear hnm hnet hok
 have hkd:x.kind=1∨x.kind=2∨(x.kind≠1∧x.kind≠2):=by omega
 obtain ⟨hlt,y0,y1,y2,y3,y4⟩:=hin
 obtain ⟨hle,z0,z1,z2,z3,z4⟩:=hei
 go_enter Tryz.func46,Tryz.ntmps46
 go_wp2_with fail
 rw [HW.out]
 refine (c_l33Own A1 A2 A3 A4 A5 n1 c1 n2 c2 n3 c3 n4 c4 n5 c5 r _ (hat.ext x0) hf (by omega) (by omega) (by omega)).mono ?_
 rintro e w1 ⟨B1,B2,B3,B4,B5,k1,d1,k2,d2,k3,d3,k4,d4,k5,d5,r',rfl,hL,hlk,hx1⟩
 have hin1:=RoomIn.ext ⟨hlt,y0,y1,y2,y3,y4⟩ hx1
 have hei1:=EvIn.ext ⟨hle,z0,z1,z2,z3,z4⟩ hx1
 have hzr1:=hzr.ext hx1
 have X1:=x0.trans hx1
 have hz1:=hx1.size
 obtain ⟨W2,HW2⟩:∃W2,Hid (w1.alloc (.cells #[.slice B1 k1 d1,.slice B2 k2 d2,.slice B3 k3 d3,.slice B4 k4 d4,.slice B5 k5 d5] 32)=W2):=⟨_,hide rfl⟩
 have rO:Row W2 w1.heap.size 32 [.slice B1 k1 d1,.slice B2 k2 d2,.slice B3 k3 d3,.slice B4 k4 d4,.slice B5 k5 d5]:=by rw [←HW2.out]; exact Row.new w1 32 _
 have hx2:Ext w1 W2:=by
  rw [←HW2.out]
  exact Ext.alloc _ _
 have hz2:W2.heap.size≤w1.heap.size+1:=by rw [←HW2.out]; simp
 have X2:=X1.trans hx2
 clear hlt y0 y1 y2 y3 y4 hle z0 z1 z2 z3 z4
 obtain ⟨hlt,y0,y1,y2,y3,y4⟩:=id hin1
 obtain ⟨hle,z0,z1,z2,z3,z4⟩:=id hei1
 rcases hkd with hk | hk | hk
 ·have HAB:=hide (show appB n1 r x=((accR n1 r.ns r.ps r.xs r.L (evNom x)).2==0&&decide (hourOf r≤x.b)) by unfold appB; rw [if_pos hk])
  have HAR:=hide (show appR r x={r with L:=r.L++[evNom x]} by unfold appR; rw [if_pos hk])
  rw [hk] at z0
  go_wp2_with fail
  rw [HW2.out]
  refine (c_specAcceptNomination A1 A2 n1 c1 n2 c2 r.ns r.ps A3 n3 c3 r.xs A4 n4 c4 r.L _ (hat.s1.ext X2) (hat.s2.ext X2) (hat.s3.ext X2) (hat.s4.ext X2) HNM.out (evNom x)).mono ?_
  rintro e w3 ⟨A',n',c',g',rfl,hnc,hcm,hg',ho,hx3⟩
  have hin3:=hin1.ext (hx2.trans hx3)
  have hei3:=hei1.ext (hx2.trans hx3)
  have hzr3:=hzr1.ext (hx2.trans hx3)
  have rO3:=rO.ext hx3
  clear hlt y0 y1 y2 y3 y4 hle z0 z1 z2 z3 z4
  obtain ⟨hlt,y0,y1,y2,y3,y4⟩:=hin3
  obtain ⟨hle,z0,z1,z2,z3,z4⟩:=hei3
  have p0:=rO3.cell 0
  have p1:=rO3.cell 1
  have p2:=rO3.cell 2
  have p3:=rO3.cell 3
  have p4:=rO3.cell 4
  have pf:=rO3.frozen
  have pl:=rO3.lt
  simp only [List.getElem?_cons_zero,List.getElem?_cons_succ] at p0 p1 p2 p3 p4
  have r0:=hzr3.cell 0
  have r1:=hzr3.cell 1
  have r2:=hzr3.cell 2
  have r3:=hzr3.cell 3
  have r4:=hzr3.cell 4
  have rf:=hzr3.frozen
  have rl:=hzr3.lt
  simp only [List.getElem?_cons_zero,List.getElem?_cons_succ] at r0 r1 r2 r3 r4
  have HX3:=hide (x0.trans (hx1.trans (hx2.trans hx3)))
  cases h1:((accR n1 r.ns r.ps r.xs r.L (evNom x)).2==0)
  ·go_wp2_with fail
   refine wp_region_phT [(w1.heap.size,0),(w1.heap.size,1),(w1.heap.size,2),(w1.heap.size,3),(w1.heap.size,4),(w.heap.size+1,2)] (.one [0,1,2,3,4,5,6,7,8] 9 (.last [10])) (by kernel_rfl) (by kernel_rfl) (by intro c a w d v h; cases d <;> exact h) ?_
   simp only [wpPhT,pickL,nthO]
   repeat (go_big_quiet_step (fail))
   refine wpQuiet_nil ?_
   have TW:=(((Turn.refl (S:=fun b=>b=w1.heap.size∨b=w.heap.size+2) w3).set1 (p:=⟨w1.heap.size,3,none⟩) (.inl rfl) (.slice A' n' c')).five (g:=w.heap.size+2) (.inr rfl) (.slice B1 k1 d1) (.slice B2 k2 d2) (.slice B3 k3 d3) (.slice A' n' c') (.slice B5 k5 d5)).drewT
   have XF:=HX3.out.turn TW (fun b hb=>by omega)
   go_wp2_with fail
   refine ⟨SameC.drew (SameC.five (SameC.refl _ _) (by simp; omega) _ _ _ _ _),?_⟩
   repeat (go_big_quiet_step (fail))
   refine wpQuiet_nil ?_
   go_wp2
   refine bodyPost_ret (v:= .tuple #[.agg #[.slice B1 k1 d1,.slice B2 k2 d2,.slice B3 k3 d3,.slice A' n' c',.slice B5 k5 d5],.bool false]) (by simp [results,Tryz.results46,go_sem,r0,r1,r2,r3,r4]) rfl ?_
   have hB:appB n1 r x=false:=by rw [HAB.out,h1]; rfl
   exact ⟨B1,B2,B3,A',B5,k1,d1,k2,d2,k3,d3,n',c',k5,d5,r',by rw [hB],fun h=>(by rw [hB] at h; cases h),XF⟩
  ·cases h2:decide ((n5:Int)-1≤x.b)
   ·go_wp2_with fail
    refine wp_region_phT [(w1.heap.size,0),(w1.heap.size,1),(w1.heap.size,2),(w1.heap.size,3),(w1.heap.size,4),(w.heap.size+1,2)] (.one [0,1,2,3,4,5,6,7,8] 9 (.last [10])) (by kernel_rfl) (by kernel_rfl) (by intro c a w d v h; cases d <;> exact h) ?_
    simp only [wpPhT,pickL,nthO]
    repeat (go_big_quiet_step (fail))
    refine wpQuiet_nil ?_
    have TW:=(((Turn.refl (S:=fun b=>b=w1.heap.size∨b=w.heap.size+2) w3).set1 (p:=⟨w1.heap.size,3,none⟩) (.inl rfl) (.slice A' n' c')).five (g:=w.heap.size+2) (.inr rfl) (.slice B1 k1 d1) (.slice B2 k2 d2) (.slice B3 k3 d3) (.slice A' n' c') (.slice B5 k5 d5)).drewT
    have XF:=HX3.out.turn TW (fun b hb=>by omega)
    go_wp2_with fail
    refine ⟨SameC.drew (SameC.five (SameC.refl _ _) (by simp; omega) _ _ _ _ _),?_⟩
    repeat (go_big_quiet_step (fail))
    refine wpQuiet_nil ?_
    go_wp2
    refine bodyPost_ret (v:= .tuple #[.agg #[.slice B1 k1 d1,.slice B2 k2 d2,.slice B3 k3 d3,.slice A' n' c',.slice B5 k5 d5],.bool false]) (by simp [results,Tryz.results46,go_sem,r0,r1,r2,r3,r4]) rfl ?_
    have hB:appB n1 r x=false:=by rw [HAB.out,h1]; unfold hourOf; rw [←HN5.out,h2]; rfl
    exact ⟨B1,B2,B3,A',B5,k1,d1,k2,d2,k3,d3,n',c',k5,d5,r',by rw [hB],fun h=>(by rw [hB] at h; cases h),XF⟩
   ·go_wp2_with fail
    refine wp_region_phT [(w1.heap.size,0),(w1.heap.size,1),(w1.heap.size,2),(w1.heap.size,3),(w1.heap.size,4),(w.heap.size+1,2)] (.one [0,1,2,3,4,5,6,7,8] 9 (.last [10])) (by kernel_rfl) (by kernel_rfl) (by intro c a w d v h; cases d <;> exact h) ?_
    simp only [wpPhT,pickL,nthO]
    repeat (go_big_quiet_step (fail))
    refine wpQuiet_nil ?_
    have TW:=(((Turn.refl (S:=fun b=>b=w1.heap.size∨b=w.heap.size+2) w3).set1 (p:=⟨w1.heap.size,3,none⟩) (.inl rfl) (.slice A' n' c')).five (g:=w.heap.size+2) (.inr rfl) (.slice B1 k1 d1) (.slice B2 k2 d2) (.slice B3 k3 d3) (.slice A' n' c') (.slice B5 k5 d5)).drewT
    have XF:=HX3.out.turn TW (fun b hb=>by omega)
    go_wp2_with fail
    refine ⟨SameC.drew (SameC.five (SameC.refl _ _) (by simp; omega) _ _ _ _ _),?_⟩
    repeat (go_big_quiet_step (fail))
    refine wpQuiet_nil ?_
    go_wp2
    refine bodyPost_ret (v:= .tuple #[.agg #[.slice B1 k1 d1,.slice B2 k2 d2,.slice B3 k3 d3,.slice A' n' c',.slice B5 k5 d5],.bool true]) (by simp [results,Tryz.results46,go_sem,r0,r1,r2,r3,r4]) rfl ?_
    have hB:appB n1 r x=true:=by rw [HAB.out,h1]; unfold hourOf; rw [←HN5.out,h2]; rfl
    rw [accR_zero (by simpa using h1)] at ho
    have hR:=(hL.own.ext (hx2.trans hx3)).turn TW (fun b hb=>by omega)
    obtain ⟨l1,l2,l3,l4,l5,l6⟩:=LRoom.lo5 hR
    have hlo:=x0.size
    have o4:=(ho.toA hnc hcm).turn TW (fun b hb hS=>by have:=(ho.blk hb).1; have:=rO.lt; omega)
    have r5f:=((hL.r5.ext (hx2.trans hx3)).turnT TW (fun b hb=>by have:=hL.r5.ltW hb; omega)).base hlo
    have r6f:=fun q hq=>(((hL.r6 q hq).ext (hx2.trans hx3)).turnT TW (fun b hb=>by have:=(hL.r6 q hq).ltW hb; omega)).base hlo
    refine ⟨B1,B2,B3,A',B5,k1,d1,k2,d2,k3,d3,n',c',k5,d5,⟨r'.ns,r'.ps,r'.xs,r.L++[evNom x],r'.rs⟩,by rw [hB],fun _=>⟨⟨ROwn.of hR.o1 hR.o2 hR.o3 o4 hR.o5 hR.o6 (fun b hb=>Nat.le_trans hlo (l1 b hb)) (fun b hb=>Nat.le_trans hlo (l2 b hb)) (fun b hb=>Nat.le_trans hlo (l3 b hb)) (fun b hb=>by have:=(ho.blk hb).1; have:=hx2.size; omega) (fun b hb=>Nat.le_trans hlo (l5 b hb)) (fun q hq b hb=>Nat.le_trans hlo (l6 q hq b hb)) hR.rr,r5f,r6f,hL.sep2⟩,?_⟩,XF⟩
    rw [HAR.out]
    exact ⟨hlk.1,hlk.2.1,hlk.2.2.1,rfl,hlk.2.2.2.2⟩
 ·have hln:r'.rs.length=r.rs.length:=by have h:=congrArg List.length hlk.2.2.2.2; simpa using h
  have hk5:k5=n5:=by rw [hL.own.o5.1,hln,HN5.out]
  obtain ⟨m,rfl⟩:∃m,n5=m+1:=⟨n5-1,by omega⟩
  subst hk5
  obtain ⟨g5,rfl,rest5,hr5⟩:=hL.own.o5.2.2.2 (by omega)
  obtain ⟨ba,oa,q,rfl,hba,hqk,hqc⟩:=(hat.s5.ext X2).get (k:=m) (by omega)
  have tq0:=hqc 0 _ rfl
  simp only [Nat.add_zero,Nat.mul_one] at tq0
  obtain ⟨qA,qn,qc,qx⟩:=q
  simp only at tq0
  have hqm:=List.mem_of_getElem? hqk
  have hqS:SliceOf W2 2 Reading.cells qA qn qc qx:=(hat.s6 _ hqm).ext X2
  have hq48:qx.length≤48:=hf.xs _ hqm
  obtain rfl:qn=qx.length:=hqS.len
  have HLN:=hide hln
  have hlx:lastXs r=qx:=by
   unfold lastXs
   rw [←HN5.out,Nat.add_sub_cancel,hqk]; rfl
  have HAB:=hide (show appB ((n1:Nat):Int) r x=((x.c==0&&x.d==0)&&readsB n1 (qx++[evRead x])) by unfold appB; rw [if_neg (by omega),if_pos hk,hlx])
  have HAR:=hide (show appR r x={r with rs:=r.rs.set (r.rs.length-1) ⟨none,0,0,qx++[evRead x]⟩} by unfold appR; rw [if_neg (by omega),if_pos hk,hlx])
  have HQM:=hide hqm
  clear hqk hqm hqc hln hlx
  have rO2:=rO
  have p0:=rO2.cell 0
  have p1:=rO2.cell 1
  have p2:=rO2.cell 2
  have p3:=rO2.cell 3
  have p4:=rO2.cell 4
  have pf:=rO2.frozen
  have pl:=rO2.lt
  simp only [List.getElem?_cons_zero,List.getElem?_cons_succ] at p0 p1 p2 p3 p4
  have hin2:=hin1.ext hx2
  have hei2:=hei1.ext hx2
  have hzr2:=hzr1.ext hx2
  rw [hk] at z0
  have g5l:=hr5.lt
  have g5lo:W0.heap.size≤g5:=(LRoom.lo5 hL.own).2.2.2.2.1 g5 (by simp [blkOf])
  have hm5:=hL.own.o5.2.2.1
  have hc5:=hL.own.o5.2.1
  have hm5':=hat.s5.max
  have hc5':=hat.s5.cap
  go_wp2_with fail
  rw [HW2.out]
  clear hlt y0 y1 y2 y3 y4 hle z0 z1 z2 z3 z4
  refine wp_region_K [KE W2.heap.size 84,KC (.pointer (some ⟨w.heap.size,4,none⟩)),KC (.slice (some ⟨ba,oa,none⟩) (m+1) c5),KC (.int .i64 (m:Int)),KC (.pointer (some ⟨ba,oa+m,none⟩)),KC (.slice qA qx.length qc),KL W2.heap.size 84 2 Reading.cells qx,KC (.pointer (some ⟨w.heap.size+1,1,none⟩)),KC (.int .i64 x.a),KC (.pointer (some ⟨w.heap.size+1,2,none⟩)),KC (.int .i64 x.b),KC (.agg #[.int .i64 x.a,.int .i64 x.b]),KB1 W2.heap.size (evRead x)]
   [0,1,2,3,4,5,6,7,8,9,10,11,12] [[],[],[1],[],[1,2,3],[1,2,3,4],[0,1,2,3,4,5],[],[7],[],[9],[7,8,9,10],[7,8,9,10,11],[0,1,2,3,4,5,6,7,8,9,10,11,12],[0,1,2,3,4,5,6,7,8,9,10,11,12,13]] [] (.one [] 13 (.last [14])) (by kernel_rfl) (by kernel_rfl) (by intro c a w d v h; cases d <;> exact h) (by simp) ⟨stKE _ _,stKC _,stKC _,stKC _,stKC _,stKC _,stKL _ _ _ _ _,stKC _,stKC _,stKC _,stKC _,stKC _,stKB1 _ _,trivial⟩ ?_ ?_
  ·refine ⟨?_,?_,?_,?_,?_,?_,?_,?_,?_,?_,?_,?_,?_,trivial⟩
   all_goals
    intro ts wx hts hX hd
    obtain ⟨t0,ts0,rfl,hts0⟩:=vcons hts
    obtain ⟨t1,ts1,rfl,hts1⟩:=vcons hts0
    obtain ⟨t2,ts2,rfl,hts2⟩:=vcons hts1
    obtain ⟨t3,ts3,rfl,hts3⟩:=vcons hts2
    obtain ⟨t4,ts4,rfl,hts4⟩:=vcons hts3
    obtain ⟨t5,ts5,rfl,hts5⟩:=vcons hts4
    obtain ⟨t6,ts6,rfl,hts6⟩:=vcons hts5
    obtain ⟨t7,ts7,rfl,hts7⟩:=vcons hts6
    obtain ⟨t8,ts8,rfl,hts8⟩:=vcons hts7
    obtain ⟨t9,ts9,rfl,hts9⟩:=vcons hts8
    obtain ⟨t10,ts10,rfl,hts10⟩:=vcons hts9
    obtain ⟨t11,ts11,rfl,hts11⟩:=vcons hts10
    obtain ⟨t12,ts12,rfl,hts12⟩:=vcons hts11
    obtain ⟨t13,ts13,rfl,hts13⟩:=vcons hts12
    obtain ⟨t14,ts14,rfl,hts14⟩:=vcons hts13
    obtain rfl:=vnil hts14
    clear hts hts0 hts1 hts2 hts3 hts4 hts5 hts6 hts7 hts8 hts9 hts10 hts11 hts12 hts13 hts14
    simp only [putAll,nthO,Act.put,List.setIfInBounds_toArray,List.set_cons_succ,List.set_cons_zero]
   ·go_wp2_with fail
    exact ⟨Ext.alloc _ _,_,rfl,⟨_,rfl,Row.new _ _ _,hX.size⟩⟩
   ·go_wp2_with fail
    exact ⟨Ext.refl _,_,rfl,rfl⟩
   ·obtain ⟨rfl,-⟩:=hd
    obtain ⟨hlt,y0,y1,y2,y3,y4⟩:=hin2.ext hX
    go_wp2_with fail
    exact ⟨Ext.refl _,_,rfl,rfl⟩
   ·go_wp2_with fail
    exact ⟨Ext.refl _,_,rfl,rfl⟩
   ·obtain ⟨rfl,rfl,rfl,-⟩:=hd
    go_wp2_with fail
    exact ⟨Ext.refl _,_,rfl,rfl⟩
   ·obtain ⟨rfl,rfl,rfl,rfl,-⟩:=hd
    have tq1:=(hX.cell _ _ hba).trans tq0
    go_wp2_with fail
    exact ⟨Ext.refl _,_,rfl,rfl⟩
   ·obtain ⟨⟨g,rfl,hr,hg⟩,-,-,-,-,rfl,-⟩:=hd
    have hxs:=hqS.ext hX
    have hzx:=hX.size
    go_wp2_with (at_builtin; go_must (refine wpList_append_fresh rfl _ _ 81 rfl W2.heap.size 84 _ 2 16 Tryz.underlying81 reading_info rfl (by decide) Reading.cells reading_len reading_one g rfl hr hg qA qx.length qc qx rfl hxs (by omega) (by omega) hzx ?_))
    intro v3 w3 oq hx3
    go_wp2_with fail
    exact ⟨hx3,_,rfl,oq⟩
   ·go_wp2_with fail
    exact ⟨Ext.refl _,_,rfl,rfl⟩
   ·obtain ⟨rfl,-⟩:=hd
    obtain ⟨hle,z0,z1,z2,z3,z4⟩:=hei2.ext hX
    go_wp2_with fail
    exact ⟨Ext.refl _,_,rfl,rfl⟩
   ·go_wp2_with fail
    exact ⟨Ext.refl _,_,rfl,rfl⟩
   ·obtain ⟨rfl,-⟩:=hd
    obtain ⟨hle,z0,z1,z2,z3,z4⟩:=hei2.ext hX
    go_wp2_with fail
    exact ⟨Ext.refl _,_,rfl,rfl⟩
   ·obtain ⟨-,rfl,-,rfl,-⟩:=hd
    go_wp2_with fail
    exact ⟨Ext.refl _,_,rfl,rfl⟩
   ·obtain ⟨-,-,-,-,rfl,-⟩:=hd
    go_wp2_with fail
    exact ⟨Ext.alloc _ _,_,rfl,⟨_,rfl,Row.new _ _ _,hX.size⟩⟩
  ·intro ts wx hts hX hd
   obtain ⟨t0,ts0,rfl,hts0⟩:=vcons hts
   obtain ⟨t1,ts1,rfl,hts1⟩:=vcons hts0
   obtain ⟨t2,ts2,rfl,hts2⟩:=vcons hts1
   obtain ⟨t3,ts3,rfl,hts3⟩:=vcons hts2
   obtain ⟨t4,ts4,rfl,hts4⟩:=vcons hts3
   obtain ⟨t5,ts5,rfl,hts5⟩:=vcons hts4
   obtain ⟨t6,ts6,rfl,hts6⟩:=vcons hts5
   obtain ⟨t7,ts7,rfl,hts7⟩:=vcons hts6
   obtain ⟨t8,ts8,rfl,hts8⟩:=vcons hts7
   obtain ⟨t9,ts9,rfl,hts9⟩:=vcons hts8
   obtain ⟨t10,ts10,rfl,hts10⟩:=vcons hts9
   obtain ⟨t11,ts11,rfl,hts11⟩:=vcons hts10
   obtain ⟨t12,ts12,rfl,hts12⟩:=vcons hts11
   obtain ⟨t13,ts13,rfl,hts13⟩:=vcons hts12
   obtain ⟨t14,ts14,rfl,hts14⟩:=vcons hts13
   obtain rfl:=vnil hts14
   clear hts hts0 hts1 hts2 hts3 hts4 hts5 hts6 hts7 hts8 hts9 hts10 hts11 hts12 hts13 hts14
   simp only [putAll,Act.put,List.setIfInBounds_toArray,List.set_cons_succ,List.set_cons_zero]
   obtain ⟨-,-,-,-,-,-,oq,-,-,-,-,-,⟨g,rfl,hrb,hg⟩,-⟩:=hd
   have oq:OwnL wx W2.heap.size 84 2 Reading.cells t6 qx:=oq
   have hzx:=hX.size
   simp only [wpPhT,pickL,nthO]
   refine wpQuiet_nil ?_
   go_wp2_with (at_builtin; go_must (refine wpList_append_grow rfl _ _ 81 rfl W2.heap.size 84 _ 2 16 Tryz.underlying81 reading_info rfl (by decide) Reading.cells reading_len reading_one t6 qx rfl oq (some ⟨g,0,none⟩) 1 1 [evRead x] rfl (RowOf.slice (t:=84) (xs:=[evRead x]) (f:=Reading.cells) hrb reading_len rfl (by omega)) (by simp; omega) (by omega) (by omega) ?_))
   intro v5 w5 o5 g5'
   have hx5:Ext W2 w5:=hX.grown g5' (fun k hk=>oq.block_le hk)
   have hle5:(qx++[evRead x]).length=qx.length+1:=by simp
   obtain ⟨VA,vc,rfl,hv3,hv4⟩:=o5.form
   rw [hle5] at o5 hv3
   go_wp2_with fail
   refine ⟨fun _ h=>(by cases h),?_⟩
   repeat (go_big_quiet_step (fail))
   refine wpQuiet_nil ?_
   have R5:=(hr5.ext hx2).ext hx5
   have R6:=R5.rs_set (m:=m) (by rw [HLN.out, ←HN5.out]; omega) ⟨VA,qx.length+1,vc,qx++[evRead x]⟩
   have u5:=R5.lt
   have uf:=R5.frozen m
   have hmr:m<r'.rs.length:=by rw [HLN.out, ←HN5.out]; omega
   have u5c:=R5.cell m
   rw [rs_flat,List.getElem?_append_left (by simpa using hmr),List.getElem?_map,List.getElem?_eq_getElem hmr] at u5c
   have rO5:=rO.ext hx5
   clear p0 p1 p2 p3 p4 pf pl
   have p0:=rO5.cell 0
   have p1:=rO5.cell 1
   have p2:=rO5.cell 2
   have p3:=rO5.cell 3
   have p4:=rO5.cell 4
   have pf:=rO5.frozen
   have pl:=rO5.lt
   simp only [List.getElem?_cons_zero,List.getElem?_cons_succ] at p0 p1 p2 p3 p4
   go_wp2_with fail
   have TW:Turn (fun b=>b=g5) W2 (w5.setCell ⟨g5,m,none⟩ (.slice VA (qx.length+1) vc)):=(Turn.of_ext (S:=fun b=>b=g5) hx5).set1 (p:=⟨g5,m,none⟩) rfl _
   have o6:=o5.far_ne (p:=⟨g5,m,none⟩) (fun k hk e=>OwnL.blk_ne o5 R5 (by decide) k hk (by rw [e])) (.slice VA (qx.length+1) vc)
   have r5b:=((hL.r5.ext hx2).ext hx5).setT rs_len (k:=m) (y:=(⟨VA,qx.length+1,vc,qx++[evRead x]⟩:RS)) hmr rfl
   have r6b:=fun q hq=>(((hL.r6 q hq).ext hx2).ext hx5).far_ne (p:=⟨g5,m,none⟩) (fun k hk e=>OwnL.blk_ne (((hL.r6 q hq).ext hx2).ext hx5) R5 (by decide) k hk (by rw [e])) (.slice VA (qx.length+1) vc)
   generalize w5.setCell ⟨g5,m,none⟩ (.slice VA (qx.length+1) vc)=W6 at *
   have rO6:=rO.turn TW (by omega)
   have hzr6:=hzr2.turn TW (by omega)
   have hei6:=hei2.turn TW (by omega)
   have w60:=(TW.cell (o:=0) hin2.lt (by omega)).trans hin2.x0
   have w61:=(TW.cell (o:=1) hin2.lt (by omega)).trans hin2.x1
   have w6l:=Nat.lt_of_lt_of_le hin2.lt TW.size
   clear p0 p1 p2 p3 p4 pf pl u5c uf u5
   have p0:=rO6.cell 0
   have p1:=rO6.cell 1
   have p2:=rO6.cell 2
   have p3:=rO6.cell 3
   have p4:=rO6.cell 4
   have pf:=rO6.frozen
   have pl:=rO6.lt
   simp only [List.getElem?_cons_zero,List.getElem?_cons_succ] at p0 p1 p2 p3 p4
   have r0:=hzr6.cell 0
   have r1:=hzr6.cell 1
   have r2:=hzr6.cell 2
   have r3:=hzr6.cell 3
   have r4:=hzr6.cell 4
   have rf:=hzr6.frozen
   have rl:=hzr6.lt
   simp only [List.getElem?_cons_zero,List.getElem?_cons_succ] at r0 r1 r2 r3 r4
   obtain ⟨hle,z0,z1,z2,z3,z4⟩:=id hei6
   have HS:=hide ((o6.toA' reading_len (by decide)).1.slice reading_len)
   cases h1:(x.c==0)
   ·have HB:=hide (show appB (n1:Int) r x=false by rw [HAB.out,h1]; rfl)
    go_wp2_with fail
    refine wp_region_phT [(w1.heap.size,0),(w1.heap.size,1),(w1.heap.size,2),(w1.heap.size,3),(w1.heap.size,4),(w.heap.size+1,3),(w.heap.size+1,4),(w.heap.size,0),(w.heap.size,1)] (.one [0,1,2,3,4,5,6,7,8,9,10,11,12] 13 (.one [14] 15 (.last [16]))) (by kernel_rfl) (by kernel_rfl) (by intro c a w d v h; cases d <;> exact h) ?_
    simp only [wpPhT,pickL,nthO]
    repeat (go_big_quiet_step (fail))
    refine wpQuiet_nil ?_
    go_wp2_with fail
    have hx67:Ext W6 W6.drew:=(Ext.refl _).drew
    have TF:=((((TW.mono (S':=fun b=>b=g5∨b=w.heap.size+2) (fun b hb=> .inl hb)).trans (Turn.of_ext hx67)).five (g:=w.heap.size+2) (.inr rfl) (.slice B1 k1 d1) (.slice B2 k2 d2) (.slice B3 k3 d3) (.slice B4 k4 d4) (.slice (some ⟨g5,0,none⟩) (m+1) d5)))
    have XF:=X2.turn TF (fun b hb=>by rcases hb with hb | hb; omega; omega)
    have HSC:=hide (SameC.of_ext (cs:=[(w1.heap.size,0),(w1.heap.size,1),(w1.heap.size,2),(w1.heap.size,3),(w1.heap.size,4),(w.heap.size+1,3),(w.heap.size+1,4),(w.heap.size,0),(w.heap.size,1)]) hx67 (by simp; omega))
    refine ⟨HSC.out,?_⟩
    repeat (go_big_quiet_step (fail))
    refine wpQuiet_nil ?_
    go_wp2_with fail
    refine ⟨SameC.five HSC.out (by simp; omega) _ _ _ _ _,?_⟩
    repeat (go_big_quiet_step (fail))
    refine wpQuiet_nil ?_
    go_wp2
    refine bodyPost_ret (v:= .tuple #[.agg #[.slice B1 k1 d1,.slice B2 k2 d2,.slice B3 k3 d3,.slice B4 k4 d4,.slice (some ⟨g5,0,none⟩) (m+1) d5],.bool false]) (by simp [results,Tryz.results46,go_sem,r0,r1,r2,r3,r4]) rfl ?_
    exact ⟨B1,B2,B3,B4,_,k1,d1,k2,d2,k3,d3,k4,d4,m+1,d5,r',by rw [HB.out],fun h=>(by rw [HB.out] at h; cases h),XF⟩
   cases h2:(x.d==0)
   ·have HB:=hide (show appB (n1:Int) r x=false by rw [HAB.out,h1,h2]; rfl)
    go_wp2_with fail
    refine wp_region_phT [(w1.heap.size,0),(w1.heap.size,1),(w1.heap.size,2),(w1.heap.size,3),(w1.heap.size,4),(w.heap.size+1,3),(w.heap.size+1,4),(w.heap.size,0),(w.heap.size,1)] (.one [0,1,2,3,4,5,6,7,8,9,10,11,12] 13 (.one [14] 15 (.last [16]))) (by kernel_rfl) (by kernel_rfl) (by intro c a w d v h; cases d <;> exact h) ?_
    simp only [wpPhT,pickL,nthO]
    repeat (go_big_quiet_step (fail))
    refine wpQuiet_nil ?_
    go_wp2_with fail
    have hx67:Ext W6 W6.drew:=(Ext.refl _).drew
    have TF:=((((TW.mono (S':=fun b=>b=g5∨b=w.heap.size+2) (fun b hb=> .inl hb)).trans (Turn.of_ext hx67)).five (g:=w.heap.size+2) (.inr rfl) (.slice B1 k1 d1) (.slice B2 k2 d2) (.slice B3 k3 d3) (.slice B4 k4 d4) (.slice (some ⟨g5,0,none⟩) (m+1) d5)))
    have XF:=X2.turn TF (fun b hb=>by rcases hb with hb | hb; omega; omega)
    have HSC:=hide (SameC.of_ext (cs:=[(w1.heap.size,0),(w1.heap.size,1),(w1.heap.size,2),(w1.heap.size,3),(w1.heap.size,4),(w.heap.size+1,3),(w.heap.size+1,4),(w.heap.size,0),(w.heap.size,1)]) hx67 (by simp; omega))
    refine ⟨HSC.out,?_⟩
    repeat (go_big_quiet_step (fail))
    refine wpQuiet_nil ?_
    go_wp2_with fail
    refine ⟨SameC.five HSC.out (by simp; omega) _ _ _ _ _,?_⟩
    repeat (go_big_quiet_step (fail))
    refine wpQuiet_nil ?_
    go_wp2
    refine bodyPost_ret (v:= .tuple #[.agg #[.slice B1 k1 d1,.slice B2 k2 d2,.slice B3 k3 d3,.slice B4 k4 d4,.slice (some ⟨g5,0,none⟩) (m+1) d5],.bool false]) (by simp [results,Tryz.results46,go_sem,r0,r1,r2,r3,r4]) rfl ?_
    exact ⟨B1,B2,B3,B4,_,k1,d1,k2,d2,k3,d3,k4,d4,m+1,d5,r',by rw [HB.out],fun h=>(by rw [HB.out] at h; cases h),XF⟩
   have HB:=hide (show appB (n1:Int) r x=readsB (n1:Int) (qx++[evRead x]) by rw [HAB.out,h1,h2]; rfl)
   go_wp2_with fail
   refine wp_region_phT [(w1.heap.size,0),(w1.heap.size,1),(w1.heap.size,2),(w1.heap.size,3),(w1.heap.size,4),(w.heap.size+1,3),(w.heap.size+1,4),(w.heap.size,0),(w.heap.size,1)] (.one [0,1,2,3,4,5,6,7,8,9,10,11,12] 13 (.one [14] 15 (.last [16]))) (by kernel_rfl) (by kernel_rfl) (by intro c a w d v h; cases d <;> exact h) ?_
   simp only [wpPhT,pickL,nthO]
   repeat (go_big_quiet_step (fail))
   refine wpQuiet_nil ?_
   go_wp2_with fail
   refine (c_l28List A1 A2 n1 c1 n2 c2 VA (qx.length+1) vc (qx++[evRead x]) _ (by omega) (HS.out.ext (Ext.refl _).drew)).mono ?_
   rintro e w7 ⟨rfl,hx7⟩
   have hx67:Ext W6 w7:=(Ext.refl _).drew.trans hx7
   generalize hbb:readsB (n1:Int) (qx++[evRead x])=bb at *
   have hzr7:=hzr6.ext hx67
   clear r0 r1 r2 r3 r4 rf rl
   have r0:=hzr7.cell 0
   have r1:=hzr7.cell 1
   have r2:=hzr7.cell 2
   have r3:=hzr7.cell 3
   have r4:=hzr7.cell 4
   have rf:=hzr7.frozen
   have rl:=hzr7.lt
   simp only [List.getElem?_cons_zero,List.getElem?_cons_succ] at r0 r1 r2 r3 r4
   go_wp2_with fail
   have TF:=((((TW.mono (S':=fun b=>b=g5∨b=w.heap.size+2) (fun b hb=> .inl hb)).trans (Turn.of_ext hx67)).five (g:=w.heap.size+2) (.inr rfl) (.slice B1 k1 d1) (.slice B2 k2 d2) (.slice B3 k3 d3) (.slice B4 k4 d4) (.slice (some ⟨g5,0,none⟩) (m+1) d5)))
   have XF:=X2.turn TF (fun b hb=>by rcases hb with hb | hb; omega; omega)
   have HSC:=hide (SameC.of_ext (cs:=[(w1.heap.size,0),(w1.heap.size,1),(w1.heap.size,2),(w1.heap.size,3),(w1.heap.size,4),(w.heap.size+1,3),(w.heap.size+1,4),(w.heap.size,0),(w.heap.size,1)]) hx67 (by simp; omega))
   refine ⟨HSC.out,?_⟩
   repeat (go_big_quiet_step (fail))
   refine wpQuiet_nil ?_
   go_wp2_with fail
   refine ⟨SameC.five HSC.out (by simp; omega) _ _ _ _ _,?_⟩
   repeat (go_big_quiet_step (fail))
   refine wpQuiet_nil ?_
   go_wp2
   refine bodyPost_ret (v:= .tuple #[.agg #[.slice B1 k1 d1,.slice B2 k2 d2,.slice B3 k3 d3,.slice B4 k4 d4,.slice (some ⟨g5,0,none⟩) (m+1) d5],.bool bb]) (by simp [results,Tryz.results46,go_sem,r0,r1,r2,r3,r4]) rfl ?_
   have hln2:r'.rs.length=m+1:=HLN.out.trans HN5.out.symm
   have T7:=(Turn.refl (S:=fun b=>b=w.heap.size+2) w7).five (g:=w.heap.size+2) rfl (.slice B1 k1 d1) (.slice B2 k2 d2) (.slice B3 k3 d3) (.slice B4 k4 d4) (.slice (some ⟨g5,0,none⟩) (m+1) d5)
   have R7:=(R6.ext hx67).turn T7 (by omega)
   have ow2:=hL.ext hx2
   have hr2:=hr5.ext hx2
   have o1f:=ow2.own.o1.turn TF (fun b hb h=>h.elim (ow2.own.o1.row_ne hr2 (by decide) b hb) (ow2.own.o1.row_ne hzr2 (by decide) b hb))
   have o2f:=ow2.own.o2.turn TF (fun b hb h=>h.elim (ow2.own.o2.row_ne hr2 (by decide) b hb) (ow2.own.o2.row_ne hzr2 (by decide) b hb))
   have o3f:=ow2.own.o3.turn TF (fun b hb h=>h.elim (ow2.own.o3.row_ne hr2 (by decide) b hb) (ow2.own.o3.row_ne hzr2 (by decide) b hb))
   have o4f:=ow2.own.o4.turn TF (fun b hb h=>h.elim (ow2.own.o4.row_ne hr2 (by decide) b hb) (ow2.own.o4.row_ne hzr2 (by decide) b hb))
   have hlo:=x0.size
   obtain ⟨l1,l2,l3,l4,l5,l6⟩:=LRoom.lo5 hL.own
   obtain ⟨on,ol⟩:=(o6.ext hx67).toA' reading_len (by decide)
   have onf:=on.turn T7 (fun b hb h=>on.row_ne (hzr6.ext hx67) (by decide) b hb h)
   obtain ⟨q',hq'k⟩:∃q',r'.rs[m]? =some q':=⟨_,List.getElem?_eq_getElem (by omega)⟩
   have r5f:=((r5b.ext hx67).turnT T7 (fun b hb=>by have:=r5b.block_le hb; omega)).base hlo
   have r6f:∀q∈r'.rs.set m ⟨VA,qx.length+1,vc,qx++[evRead x]⟩,OwnL _ w.heap.size 84 2 Reading.cells (.slice q.A q.n q.c) q.xs:=fun q hq=>by
    rcases List.mem_or_eq_of_mem_set hq with h | h
    ·exact (((r6b q h).ext hx67).turnT T7 (fun b hb=>by have:=(r6b q h).block_le hb; omega)).base hlo
    ·subst h
     exact ((o6.ext hx67).turnT T7 (fun b hb=>by have:=o6.block_le hb; have:=rO.lt; have:=hx1.size; omega)).base X2.size
   have sep2f:=sepT_set (m:=m) (N:=W2.heap.size) (x:=(⟨VA,qx.length+1,vc,qx++[evRead x]⟩:RS)) hL.sep2 (fun b hb=>o6.block_le hb) (fun p hp b hb=>((hL.r6 p hp).ext hx2 |>.ltW hb).2)
   refine ⟨B1,B2,B3,B4,_,k1,d1,k2,d2,k3,d3,k4,d4,m+1,d5,⟨r'.ns,r'.ps,r'.xs,r'.L,r'.rs.set m ⟨VA,qx.length+1,vc,qx++[evRead x]⟩⟩,by rw [HB.out],fun _=>⟨⟨ROwn.of o1f o2f o3f o4f ⟨by simp [hln2],hc5,hm5,fun _=>⟨g5,rfl,rest5,R7⟩⟩ ?_ (fun b hb=>Nat.le_trans hlo (l1 b hb)) (fun b hb=>Nat.le_trans hlo (l2 b hb)) (fun b hb=>Nat.le_trans hlo (l3 b hb)) (fun b hb=>Nat.le_trans hlo (l4 b hb)) (fun b hb=>Nat.le_trans hlo (l5 b hb)) ?_ (sep_set hq'k hL.own.rr hL.sep2 (N:=W2.heap.size) (fun b hb=> .inr (ol b hb)) (fun p hp b hb=>(ow2.own.o6 p hp).lt hb)),r5f,r6f,sep2f⟩,?_⟩,XF⟩
   ·intro q' hq'
    rcases List.mem_or_eq_of_mem_set hq' with h | h
    ·exact (ow2.own.o6 q' h).turn TF (fun b hb h'=>h'.elim ((ow2.own.o6 q' h).row_ne hr2 (by decide) b hb) ((ow2.own.o6 q' h).row_ne hzr2 (by decide) b hb))
    ·subst h; exact onf
   ·intro q' hq' b hb
    rcases List.mem_or_eq_of_mem_set hq' with h | h
    ·exact Nat.le_trans hlo (l6 q' h b hb)
    ·subst h
     have:=ol b hb
     have:=X2.size
     omega
   ·rw [HAR.out]
    refine ⟨hlk.1,hlk.2.1,hlk.2.2.1,hlk.2.2.2.1,?_⟩
    show (r'.rs.set m _).map RS.xs=(r.rs.set (r.rs.length-1) _).map RS.xs
    rw [List.map_set,List.map_set,hlk.2.2.2.2, ←HN5.out]; rfl
 ·have hln:r'.rs.length=r.rs.length:=by have h:=congrArg List.length hlk.2.2.2.2; simpa using h
  have hk5:k5=n5:=by rw [hL.own.o5.1,hln,HN5.out]
  have hr5:k5=r'.rs.length:=hL.own.o5.1
  obtain ⟨m,rfl⟩:∃m,n5=m+1:=⟨n5-1,by omega⟩
  subst hk5
  obtain ⟨hk1,hk2⟩:=hk
  have bk1:(x.kind==1)=false:=by rw [beq_eq_false_iff_ne]; exact hk1
  have bk2:(x.kind==2)=false:=by rw [beq_eq_false_iff_ne]; exact hk2
  have HAB:=hide (show appB ((n1:Nat):Int) r x=((((x.a==(m:Int)&&x.b==0)&&x.c==0)&&x.d==0)&&decide (m+1<48)) by
   unfold appB hourOf; rw [if_neg (by omega),if_neg (by omega), ←HN5.out]
   have:((m+1:Nat):Int)-1=m:=by omega
   rw [this])
  have HAR:=hide (show appR r x={r with rs:=r.rs++[⟨none,0,0,[]⟩]} by unfold appR; rw [if_neg (by omega),if_neg (by omega)])
  have HLN:=hide hln
  have HR5:=hide hr5
  clear hln
  have rO2:=rO
  have p0:=rO2.cell 0
  have p1:=rO2.cell 1
  have p2:=rO2.cell 2
  have p3:=rO2.cell 3
  have p4:=rO2.cell 4
  have pf:=rO2.frozen
  have pl:=rO2.lt
  simp only [List.getElem?_cons_zero,List.getElem?_cons_succ] at p0 p1 p2 p3 p4
  have hat2:=(hL.ext hx2).own
  have hq48:r'.rs.length≤48:=by omega
  have HZ2:=hide (show w1.heap.size+1=W2.heap.size by rw [←HW2.out]; simp)
  obtain ⟨hin2,hei2⟩:=And.intro (hin1.ext hx2) (hei1.ext hx2)
  have hzr2:=hzr1.ext hx2
  clear hr5
  have FR:=fun (ww:World) (g:Nat) (h:g=ww.heap.size)=>Row.new' (W:=ww) (t:=81) (cs:=[]) h
  go_wp2_with (at_builtin; go_must (rw [HW2.out]; refine wpList_append_fresh rfl _ _ 30 rfl W2.heap.size 81 _ 1 24 Tryz.underlying30 rs_info' rfl (by decide) RS.cells rs_len rs_one (w1.heap.size+1) rfl (FR W2 _ HZ2.out) (by have:=HZ2.out; omega) B5 (m+1) d5 r'.rs rfl ((hat2.o5.slice rs_len).ext (Ext.alloc _ _)) (by omega) (by omega) (by simp) ?_))
  intro v4 w4 o4 hx4
  have hx24:=(Ext.alloc W2 (.cells #[] 81)).trans hx4
  have hz4:=hx24.size
  obtain ⟨VC,vc4,rfl,hv1,hv2⟩:=o4.form
  go_wp2_with (at_builtin; go_must (refine wpList_append_grow rfl _ _ 30 rfl W2.heap.size 81 _ 1 24 Tryz.underlying30 rs_info' rfl (by decide) RS.cells rs_len rs_one (.slice VC r'.rs.length vc4) r'.rs rfl (o4.ext ((Ext.alloc _ _).and_alloc _)) (some ⟨w4.heap.size+1,0,none⟩) 1 1 [⟨some ⟨w4.heap.size,0,none⟩,0,0,[]⟩] rfl (rs_one_slice (Row.new' (by simp))) (by simp; omega) (by omega) (by first | omega | (simp; omega)) ?_))
  intro v5 w5 o5 g5'
  have hx5:Ext W2 w5:=((hx24.and_alloc _).and_alloc _).grown g5' (fun k hk=>o4.block_le hk)
  obtain ⟨VA,vc,rfl,hv3,hv4⟩:=o5.form
  have hle5:(r'.rs++[(⟨some ⟨w4.heap.size,0,none⟩,0,0,[]⟩:RS)]).length=r'.rs.length+1:=by simp
  rw [hle5] at o5 hv3
  have rO5:=rO.ext hx5
  have u5c:=rO5.cell 4
  have u5f:=rO5.frozen 4
  have u5l:=rO5.lt
  simp only [List.getElem?_cons_zero,List.getElem?_cons_succ] at u5c
  go_wp2_with fail
  have TW:Turn (fun b=>b=w1.heap.size) W2 (w5.setCell ⟨w1.heap.size,4,none⟩ (.slice VA (r'.rs.length+1) vc)):=(Turn.of_ext (S:=fun b=>b=w1.heap.size) hx5).set1 (p:=⟨w1.heap.size,4,none⟩) rfl _
  have rO6:=rO5.set_ 4 (.slice VA (r'.rs.length+1) vc)
  have nq0:=(own_new w4 W2.heap.size 84 2 Reading.cells w4.heap.size rfl hz4).ext (Ext.alloc _ (.cells #[.slice (some ⟨w4.heap.size,0,none⟩) 0 0] 81))
  have nb:∀k,(Value.slice (some ⟨w4.heap.size,0,none⟩) 0 0).ownBlock=some k→w4.heap.size=k:=fun k hk=>by simpa [Value.ownBlock] using hk
  have nq1:=nq0.grown g5' (fun k hk e=>by have h1:=(o4.ltW e).2; have h2:=nb k hk; omega)
  have nq:=nq1.far_ne (p:=⟨w1.heap.size,4,none⟩) (fun k hk e=>by have h2:=nb k hk; have h3:k=w1.heap.size:=e; have:=hx2.size; have:=rO.lt; omega) (.slice VA (r'.rs.length+1) vc)
  have o6:=o5.far_ne (p:=⟨w1.heap.size,4,none⟩) (fun k hk e=>OwnL.blk_ne o5 rO5 (by decide) k hk (by rw [e])) (.slice VA (r'.rs.length+1) vc)
  have hzr6:=hzr2.turn TW (by omega)
  have hei6:=hei2.turn TW (by omega)
  have y46:=(TW.cell (o:=4) hin2.lt (by omega)).trans hin2.x4
  have hlt6:=Nat.lt_of_lt_of_le hin2.lt TW.size
  replace rO6:Row (w5.setCell ⟨w1.heap.size,4,none⟩ (.slice VA (r'.rs.length+1) vc)) w1.heap.size 32 [.slice B1 k1 d1,.slice B2 k2 d2,.slice B3 k3 d3,.slice B4 k4 d4,.slice VA (r'.rs.length+1) vc]:=rO6
  generalize w5.setCell ⟨w1.heap.size,4,none⟩ (.slice VA (r'.rs.length+1) vc)=W6 at *
  clear p0 p1 p2 p3 p4 pf pl hlt y0 y1 y2 y3 y4 hle z0 z1 z2 z3 z4 u5c u5f u5l
  have p0:=rO6.cell 0
  have p1:=rO6.cell 1
  have p2:=rO6.cell 2
  have p3:=rO6.cell 3
  have p4:=rO6.cell 4
  have pf:=rO6.frozen
  have pl:=rO6.lt
  simp only [List.getElem?_cons_zero,List.getElem?_cons_succ] at p0 p1 p2 p3 p4
  have r0:=hzr6.cell 0
  have r1:=hzr6.cell 1
  have r2:=hzr6.cell 2
  have r3:=hzr6.cell 3
  have r4:=hzr6.cell 4
  have rf:=hzr6.frozen
  have rl:=hzr6.lt
  simp only [List.getElem?_cons_zero,List.getElem?_cons_succ] at r0 r1 r2 r3 r4
  obtain ⟨hle,z0,z1,z2,z3,z4⟩:=id hei6
  have TF:=((TW.mono (S':=fun b=>b=w1.heap.size∨b=w.heap.size+2) (fun b hb=> .inl hb)).five (g:=w.heap.size+2) (.inr rfl) (.slice B1 k1 d1) (.slice B2 k2 d2) (.slice B3 k3 d3) (.slice B4 k4 d4) (.slice VA (r'.rs.length+1) vc)).drewT
  have XF:=X2.turn TF (fun b hb=>by rcases hb with hb | hb; omega; omega)
  cases h1:(x.a==(m:Int))
  ·have HB:=hide (show appB (n1:Int) r x=false by rw [HAB.out,h1]; rfl)
   go_wp2_with fail
   refine wp_region_phT [(w1.heap.size,0),(w1.heap.size,1),(w1.heap.size,2),(w1.heap.size,3),(w1.heap.size,4),(w.heap.size+1,1),(w.heap.size+1,2),(w.heap.size+1,3),(w.heap.size+1,4),(w.heap.size,4)] (.one [0,1,2,3,4,5,6,7,8,9,10,11,12,13,14,15,16,17,18,19,20,21,22,23,24,25] 26 (.last [27])) (by kernel_rfl) (by kernel_rfl) (by intro c a w d v h; cases d <;> exact h) ?_
   simp only [wpPhT,pickL,nthO]
   repeat (go_big_quiet_step (fail))
   refine wpQuiet_nil ?_
   go_wp2_with fail
   refine ⟨SameC.drew (SameC.five (SameC.refl _ _) (by simp; omega) _ _ _ _ _),?_⟩
   repeat (go_big_quiet_step (fail))
   refine wpQuiet_nil ?_
   go_wp2
   refine bodyPost_ret (v:= .tuple #[.agg #[.slice B1 k1 d1,.slice B2 k2 d2,.slice B3 k3 d3,.slice B4 k4 d4,.slice VA (r'.rs.length+1) vc],.bool false]) (by simp [results,Tryz.results46,go_sem,r0,r1,r2,r3,r4] <;> omega) rfl ?_
   exact ⟨B1,B2,B3,B4,VA,k1,d1,k2,d2,k3,d3,k4,d4,_,vc,r',by rw [HB.out],fun h=>(by rw [HB.out] at h; cases h),XF⟩
  cases h2:(x.b==0)
  ·have HB:=hide (show appB (n1:Int) r x=false by rw [HAB.out,h1,h2]; rfl)
   go_wp2_with fail
   refine wp_region_phT [(w1.heap.size,0),(w1.heap.size,1),(w1.heap.size,2),(w1.heap.size,3),(w1.heap.size,4),(w.heap.size+1,1),(w.heap.size+1,2),(w.heap.size+1,3),(w.heap.size+1,4),(w.heap.size,4)] (.one [0,1,2,3,4,5,6,7,8,9,10,11,12,13,14,15,16,17,18,19,20,21,22,23,24,25] 26 (.last [27])) (by kernel_rfl) (by kernel_rfl) (by intro c a w d v h; cases d <;> exact h) ?_
   simp only [wpPhT,pickL,nthO]
   repeat (go_big_quiet_step (fail))
   refine wpQuiet_nil ?_
   go_wp2_with fail
   refine ⟨SameC.drew (SameC.five (SameC.refl _ _) (by simp; omega) _ _ _ _ _),?_⟩
   repeat (go_big_quiet_step (fail))
   refine wpQuiet_nil ?_
   go_wp2
   refine bodyPost_ret (v:= .tuple #[.agg #[.slice B1 k1 d1,.slice B2 k2 d2,.slice B3 k3 d3,.slice B4 k4 d4,.slice VA (r'.rs.length+1) vc],.bool false]) (by simp [results,Tryz.results46,go_sem,r0,r1,r2,r3,r4] <;> omega) rfl ?_
   exact ⟨B1,B2,B3,B4,VA,k1,d1,k2,d2,k3,d3,k4,d4,_,vc,r',by rw [HB.out],fun h=>(by rw [HB.out] at h; cases h),XF⟩
  cases h3:(x.c==0)
  ·have HB:=hide (show appB (n1:Int) r x=false by rw [HAB.out,h1,h2,h3]; rfl)
   go_wp2_with fail
   refine wp_region_phT [(w1.heap.size,0),(w1.heap.size,1),(w1.heap.size,2),(w1.heap.size,3),(w1.heap.size,4),(w.heap.size+1,1),(w.heap.size+1,2),(w.heap.size+1,3),(w.heap.size+1,4),(w.heap.size,4)] (.one [0,1,2,3,4,5,6,7,8,9,10,11,12,13,14,15,16,17,18,19,20,21,22,23,24,25] 26 (.last [27])) (by kernel_rfl) (by kernel_rfl) (by intro c a w d v h; cases d <;> exact h) ?_
   simp only [wpPhT,pickL,nthO]
   repeat (go_big_quiet_step (fail))
   refine wpQuiet_nil ?_
   go_wp2_with fail
   refine ⟨SameC.drew (SameC.five (SameC.refl _ _) (by simp; omega) _ _ _ _ _),?_⟩
   repeat (go_big_quiet_step (fail))
   refine wpQuiet_nil ?_
   go_wp2
   refine bodyPost_ret (v:= .tuple #[.agg #[.slice B1 k1 d1,.slice B2 k2 d2,.slice B3 k3 d3,.slice B4 k4 d4,.slice VA (r'.rs.length+1) vc],.bool false]) (by simp [results,Tryz.results46,go_sem,r0,r1,r2,r3,r4] <;> omega) rfl ?_
   exact ⟨B1,B2,B3,B4,VA,k1,d1,k2,d2,k3,d3,k4,d4,_,vc,r',by rw [HB.out],fun h=>(by rw [HB.out] at h; cases h),XF⟩
  cases h4:(x.d==0)
  ·have HB:=hide (show appB (n1:Int) r x=false by rw [HAB.out,h1,h2,h3,h4]; rfl)
   go_wp2_with fail
   refine wp_region_phT [(w1.heap.size,0),(w1.heap.size,1),(w1.heap.size,2),(w1.heap.size,3),(w1.heap.size,4),(w.heap.size+1,1),(w.heap.size+1,2),(w.heap.size+1,3),(w.heap.size+1,4),(w.heap.size,4)] (.one [0,1,2,3,4,5,6,7,8,9,10,11,12,13,14,15,16,17,18,19,20,21,22,23,24,25] 26 (.last [27])) (by kernel_rfl) (by kernel_rfl) (by intro c a w d v h; cases d <;> exact h) ?_
   simp only [wpPhT,pickL,nthO]
   repeat (go_big_quiet_step (fail))
   refine wpQuiet_nil ?_
   go_wp2_with fail
   refine ⟨SameC.drew (SameC.five (SameC.refl _ _) (by simp; omega) _ _ _ _ _),?_⟩
   repeat (go_big_quiet_step (fail))
   refine wpQuiet_nil ?_
   go_wp2
   refine bodyPost_ret (v:= .tuple #[.agg #[.slice B1 k1 d1,.slice B2 k2 d2,.slice B3 k3 d3,.slice B4 k4 d4,.slice VA (r'.rs.length+1) vc],.bool false]) (by simp [results,Tryz.results46,go_sem,r0,r1,r2,r3,r4] <;> omega) rfl ?_
   exact ⟨B1,B2,B3,B4,VA,k1,d1,k2,d2,k3,d3,k4,d4,_,vc,r',by rw [HB.out],fun h=>(by rw [HB.out] at h; cases h),XF⟩
  by_cases h5:m+1<48
  case neg=>
   have HB:=hide (show appB (n1:Int) r x=false by rw [HAB.out,h1,h2,h3,h4,decide_eq_false h5]; rfl)
   have h5':¬((m:Int)+1<48):=by omega
   go_wp2_with fail
   refine wp_region_phT [(w1.heap.size,0),(w1.heap.size,1),(w1.heap.size,2),(w1.heap.size,3),(w1.heap.size,4),(w.heap.size+1,1),(w.heap.size+1,2),(w.heap.size+1,3),(w.heap.size+1,4),(w.heap.size,4)] (.one [0,1,2,3,4,5,6,7,8,9,10,11,12,13,14,15,16,17,18,19,20,21,22,23,24,25] 26 (.last [27])) (by kernel_rfl) (by kernel_rfl) (by intro c a w d v h; cases d <;> exact h) ?_
   simp only [wpPhT,pickL,nthO]
   repeat (go_big_quiet_step (fail))
   refine wpQuiet_nil ?_
   go_wp2_with fail
   refine ⟨SameC.drew (SameC.five (SameC.refl _ _) (by simp; omega) _ _ _ _ _),?_⟩
   repeat (go_big_quiet_step (fail))
   refine wpQuiet_nil ?_
   go_wp2
   refine bodyPost_ret (v:= .tuple #[.agg #[.slice B1 k1 d1,.slice B2 k2 d2,.slice B3 k3 d3,.slice B4 k4 d4,.slice VA (r'.rs.length+1) vc],.bool false]) (by simp [results,Tryz.results46,go_sem,r0,r1,r2,r3,r4] <;> omega) rfl ?_
   exact ⟨B1,B2,B3,B4,VA,k1,d1,k2,d2,k3,d3,k4,d4,_,vc,r',by rw [HB.out],fun h=>(by rw [HB.out] at h; cases h),XF⟩
  have HB:=hide (show appB (n1:Int) r x=true by rw [HAB.out,h1,h2,h3,h4,decide_eq_true h5]; rfl)
  have h5':(m:Int)+1<48:=by omega
  go_wp2_with fail
  refine wp_region_phT [(w1.heap.size,0),(w1.heap.size,1),(w1.heap.size,2),(w1.heap.size,3),(w1.heap.size,4),(w.heap.size+1,1),(w.heap.size+1,2),(w.heap.size+1,3),(w.heap.size+1,4),(w.heap.size,4)] (.one [0,1,2,3,4,5,6,7,8,9,10,11,12,13,14,15,16,17,18,19,20,21,22,23,24,25] 26 (.last [27])) (by kernel_rfl) (by kernel_rfl) (by intro c a w d v h; cases d <;> exact h) ?_
  simp only [wpPhT,pickL,nthO]
  repeat (go_big_quiet_step (fail))
  refine wpQuiet_nil ?_
  go_wp2_with fail
  refine ⟨SameC.drew (SameC.five (SameC.refl _ _) (by simp; omega) _ _ _ _ _),?_⟩
  repeat (go_big_quiet_step (fail))
  refine wpQuiet_nil ?_
  go_wp2
  refine bodyPost_ret (v:= .tuple #[.agg #[.slice B1 k1 d1,.slice B2 k2 d2,.slice B3 k3 d3,.slice B4 k4 d4,.slice VA (r'.rs.length+1) vc],.bool true]) (by simp [results,Tryz.results46,go_sem,r0,r1,r2,r3,r4] <;> omega) rfl ?_
  have hln2:r'.rs.length=m+1:=HR5.out.symm
  have o1f:=hat2.o1.turn TF (fun b hb h=>h.elim (hat2.o1.row_ne rO (by decide) b hb) (hat2.o1.row_ne hzr2 (by decide) b hb))
  have o2f:=hat2.o2.turn TF (fun b hb h=>h.elim (hat2.o2.row_ne rO (by decide) b hb) (hat2.o2.row_ne hzr2 (by decide) b hb))
  have o3f:=hat2.o3.turn TF (fun b hb h=>h.elim (hat2.o3.row_ne rO (by decide) b hb) (hat2.o3.row_ne hzr2 (by decide) b hb))
  have o4f:=hat2.o4.turn TF (fun b hb h=>h.elim (hat2.o4.row_ne rO (by decide) b hb) (hat2.o4.row_ne hzr2 (by decide) b hb))
  have o6f:∀q∈r'.rs,OwnA _ 84 Reading.cells q.A q.n q.c q.xs:=fun q hq=>(hat2.o6 q hq).turn TF (fun b hb h=>h.elim ((hat2.o6 q hq).row_ne rO (by decide) b hb) ((hat2.o6 q hq).row_ne hzr2 (by decide) b hb))
  have hlo:=x0.size
  obtain ⟨l1,l2,l3,l4,l5,l6⟩:=LRoom.lo5 hL.own
  obtain ⟨on,ol⟩:=o6.toA' rs_len (by decide)
  have T7:=((Turn.refl (S:=fun b=>b=w.heap.size+2) W6).five (g:=w.heap.size+2) rfl (.slice B1 k1 d1) (.slice B2 k2 d2) (.slice B3 k3 d3) (.slice B4 k4 d4) (.slice VA (r'.rs.length+1) vc)).drewT
  have o5f:=on.turn T7 (fun b hb h=>on.row_ne hzr6 (by decide) b hb h)
  have hlx:=X2.size
  have r5f:=(o6.turnT T7 (fun b hb=>by have:=o6.block_le hb; have:=rO.lt; have:=hx1.size; omega)).base X2.size
  have r6f:∀q∈r'.rs++[(⟨some ⟨w4.heap.size,0,none⟩,0,0,[]⟩:RS)],OwnL _ w.heap.size 84 2 Reading.cells (.slice q.A q.n q.c) q.xs:=fun q hq=>by
   rcases List.mem_append.1 hq with hq | hq
   ·exact (((hL.r6 q hq).ext hx2).turnT TF (fun b hb=>by have:=(hL.r6 q hq).ltW hb; omega)).base hlo
   ·simp at hq
    subst hq
    exact (nq.turnT T7 (fun b hb=>by have:=nq.block_le hb; have:=rO.lt; have:=hx1.size; omega)).base X2.size
  have sep2f:SepL ((r'.rs++[(⟨some ⟨w4.heap.size,0,none⟩,0,0,[]⟩:RS)]).map fun q=>Value.ownBlock (.slice q.A q.n q.c)):=by
   rw [List.map_append,List.map_singleton]
   refine sep_snoc hL.sep2 (fun b hb hm=> ?_)
   obtain ⟨q,hq,hqb⟩:=List.mem_map.1 hm
   have h1:=((hL.r6 q hq).ltW hqb).2
   have h2:w4.heap.size=b:=by simpa [Value.ownBlock] using hb
   have:=hx2.size
   omega
  refine ⟨B1,B2,B3,B4,VA,k1,d1,k2,d2,k3,d3,k4,d4,r'.rs.length+1,vc,⟨r'.ns,r'.ps,r'.xs,r'.L,r'.rs++[⟨some ⟨w4.heap.size,0,none⟩,0,0,[]⟩]⟩,by rw [HB.out],fun _=>⟨⟨ROwn.of o1f o2f o3f o4f o5f ?_ (fun b hb=>Nat.le_trans hlo (l1 b hb)) (fun b hb=>Nat.le_trans hlo (l2 b hb)) (fun b hb=>Nat.le_trans hlo (l3 b hb)) (fun b hb=>Nat.le_trans hlo (l4 b hb)) (fun b hb=>Nat.le_trans hlx (ol b hb)) ?_ ?_,r5f,r6f,sep2f⟩,?_⟩,XF⟩
  ·intro q hq
   rcases List.mem_append.1 hq with hq | hq
   ·exact o6f q hq
   ·simp at hq
    subst hq
    exact ⟨rfl,by simp,by simp,fun h=>absurd h (by simp)⟩
  ·intro q hq b hb
   rcases List.mem_append.1 hq with hq | hq
   ·exact Nat.le_trans hlo (l6 q hq b hb)
   ·simp at hq
    subst hq
    exact absurd hb (blk_zero _ _)
  ·show SepL ((r'.rs++[(⟨some ⟨w4.heap.size,0,none⟩,0,0,[]⟩:RS)]).map fun q=>blkOf q.A q.n)
   rw [List.map_append,List.map_singleton]
   exact sep_snoc hL.own.rr (fun b hb _=>absurd hb (blk_zero _ _))
  ·rw [HAR.out]
   refine ⟨hlk.1,hlk.2.1,hlk.2.2.1,hlk.2.2.2.1,?_⟩
   show (r'.rs++[_]).map RS.xs=(r.rs++[_]).map RS.xs
   rw [List.map_append,List.map_append,hlk.2.2.2.2]
   rfl
theorem c_l33Apply0 (A1 A2 A3 A4 A5:Option Addr) (n1 c1 n2 c2 n3 c3 n4 c4 n5 c5:Nat) (r:Room) (x:Event) (w:World) (hat:RoomAt w A1 A2 A3 A4 A5 n1 c1 n2 c2 n3 c3 n4 c4 n5 c5 r) (hok:roomB n1 r=true):
  Calls Tryz.prog 46 #[.agg #[.slice A1 n1 c1,.slice A2 n2 c2,.slice A3 n3 c3,.slice A4 n4 c4,.slice A5 n5 c5],.agg #[.int .i64 x.kind,.int .i64 x.a,.int .i64 x.b,.int .i64 x.c,.int .i64 x.d]] w (RetAp n1 r x w):=
 (c_l33ApplyL A1 A2 A3 A4 A5 n1 c1 n2 c2 n3 c3 n4 c4 n5 c5 r x w hat hok).mono fun _ _ ⟨B1,B2,B3,B4,B5,k1,d1,k2,d2,k3,d3,k4,d4,k5,d5,r',he,h,hx⟩=>⟨B1,B2,B3,B4,B5,k1,d1,k2,d2,k3,d3,k4,d4,k5,d5,r',he,fun hb=>⟨(h hb).1.own,(h hb).2⟩,hx⟩
theorem c_l33Apply (A1 A2 A3 A4 A5:Option Addr) (n1 c1 n2 c2 n3 c3 n4 c4 n5 c5:Nat) (r:Room) (x:Event) (w:World) (hat:RoomAt w A1 A2 A3 A4 A5 n1 c1 n2 c2 n3 c3 n4 c4 n5 c5 r) (hok:roomB n1 r=true) (_:evB x=true):
  Calls Tryz.prog 46 #[.agg #[.slice A1 n1 c1,.slice A2 n2 c2,.slice A3 n3 c3,.slice A4 n4 c4,.slice A5 n5 c5],.agg #[.int .i64 x.kind,.int .i64 x.a,.int .i64 x.b,.int .i64 x.c,.int .i64 x.d]] w (RetAp n1 r x w):=c_l33Apply0 A1 A2 A3 A4 A5 n1 c1 n2 c2 n3 c3 n4 c4 n5 c5 r x w hat hok
end Go.Proofs.YtinindjjapblcaaGreatDoor
