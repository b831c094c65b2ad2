/-
  AcceptNomination of the program.
-/
import Derived.Test.YtinindjjapblcaaGreatDoorWa23
import Derived.Test.YtinindjjapblcaaGreatDoorWa19
import Derived.Test.YtinindjjapblcaaGreatDoorWa01
namespace Go.Proofs.YtinindjjapblcaaGreatDoor
open Go.RowKit
theorem nomC_facts {n1:Int} {ns:List Node} {ps:List Pipe} {xs:List Contract} {L:List Nomination} (h:nomC n1 ns ps xs L=0):bookB n1 xs=true∧L.length≤200∧∀q∈L,nomB xs q=true:=by
 have h1:nomsOk n1 ns ps xs L=true:=by rw [←nomC_ok,h]; rfl
 simp only [nomsOk,Bool.and_eq_true,nomsB,decide_eq_true_eq,List.all_eq_true,List.mem_range] at h1
 obtain ⟨⟨_,h2⟩,h3,h4⟩:=h1
 refine ⟨h2,h3,fun q hq=> ?_⟩
 obtain ⟨j,hj,rfl⟩:=List.mem_iff_getElem.1 hq
 have:=h4 j hj
 rw [nomOk_at (List.getElem?_eq_getElem hj),Bool.and_eq_true] at this
 exact this.1
theorem nomB_facts {n1:Int} {xs:List Contract} {x:Nomination} (hb:bookB n1 xs=true) (h:nomB xs x=true):∃(k:Nat) (p:Contract),x.contract=k∧k<xs.length∧xs[k]? =some p∧1≤p.amount∧p.amount≤30000∧0≤x.amount∧x.amount≤30000∧0≤x.hour∧x.hour<48∧ -48≤x.sent∧x.sent≤48:=by
 unfold nomB at h
 split at h
 ·rename_i p hp
  simp only [Bool.and_eq_true,inB_true] at h
  obtain ⟨⟨⟨h1,h2⟩,h3⟩,h4⟩:=h
  have hc:=hb
  simp only [bookB,Bool.and_eq_true,List.all_eq_true] at hc
  have hpc:=hc.2 p (List.mem_of_getElem? hp)
  simp only [conB,Bool.and_eq_true,inB_true,decide_eq_true_eq] at hpc
  have hlt:=(List.getElem?_eq_some_iff.1 hp).1
  exact ⟨x.contract.toNat,p,by omega,hlt,hp,by omega,by omega,by omega,by omega,by omega,by omega,by omega,by omega⟩
 ·cases h
theorem acc_last_no {xs:List Contract} {L:List Nomination} {x y:Nomination} (h:L.getLast? =some y) (hs:decide (x.sent<y.sent)=true):accB xs L x=false:=by unfold accB; rw [h]; simp only; rw [hs]; rfl
theorem acc_none {xs:List Contract} {L:List Nomination} {x:Nomination} (h:∀y,L.getLast? =some y→decide (x.sent<y.sent)=false) (hh:hits L x=[]):accB xs L x=true:=by
 unfold accB; rw [hh]
 cases hl:L.getLast? with
 | none=>rfl
 | some y=>simp only; rw [h y hl]; rfl
theorem acc_some {xs:List Contract} {L:List Nomination} {x q:Nomination} {p:Contract} {k:Nat} (h:∀y,L.getLast? =some y→decide (x.sent<y.sent)=false) (hh:(hits L x).getLast? =some q) (hk:x.contract=k) (hp:xs[k]? =some p):accB xs L x= !(decide (x.hour-6<x.sent)&&decide (p.amount.tdiv 2<absI (x.amount-q.amount))):=by
 unfold accB; rw [hh,hk,Int.toNat_natCast,hp]
 cases hl:L.getLast? with
 | none=>rfl
 | some y=>simp only; rw [h y hl]; rfl
theorem absD_le {a b c:Int} (h0:0≤a) (h1:a≤c) (h2:0≤b) (h3:b≤c):0≤absI (a-b)∧absI (a-b)≤c:=by
 unfold absI; split <;> omega
theorem nom_one_slice {w:World} {g:Nat} {x:Nomination} (h:Row w g 79 [.int .i64 x.contract,.int .i64 x.hour,.int .i64 x.sent,.int .i64 x.amount]):SliceOf w 4 Nomination.cells (some ⟨g,0,none⟩) 1 1 [x]:=
 RowOf.slice (t:=79) (xs:=[x]) (f:=Nomination.cells) h nomination_len rfl (by omega)
structure NomIn (w:World) (b:Nat) (x:Nomination):Prop where
 lt:b<w.heap.size
 y0:w.cell? ⟨b,0,none⟩=some (.int .i64 x.contract)
 y1:w.cell? ⟨b,1,none⟩=some (.int .i64 x.hour)
 y2:w.cell? ⟨b,2,none⟩=some (.int .i64 x.sent)
 y3:w.cell? ⟨b,3,none⟩=some (.int .i64 x.amount)
theorem NomIn.ext {w w':World} {b:Nat} {x:Nomination} (h:NomIn w b x) (hx:Ext w w'):NomIn w' b x:=
 ⟨Nat.lt_of_lt_of_le h.lt hx.size,(hx.cell _ _ h.lt).trans h.y0,(hx.cell _ _ h.lt).trans h.y1,(hx.cell _ _ h.lt).trans h.y2,(hx.cell _ _ h.lt).trans h.y3⟩
theorem NomIn.new (w:World) (x:Nomination) (t:TypeId):NomIn (w.alloc (.cells #[.int .i64 x.contract,.int .i64 x.hour,.int .i64 x.sent,.int .i64 x.amount] t)) w.heap.size x:=by
 have hR:=Row.new w t [.int .i64 x.contract,.int .i64 x.hour,.int .i64 x.sent,.int .i64 x.amount]
 exact ⟨by simp,hR.cell 0,hR.cell 1,hR.cell 2,hR.cell 3⟩
set_option maxHeartbeats 8000000 in
theorem c_AcceptNomination (A1 A2:Option Addr) (n1 c1 n2 c2:Nat) (ns:List Node) (ps:List Pipe) (A:Option Addr) (n c:Nat) (xs:List Contract) (B:Option Addr) (m d:Nat) (L:List Nomination) (w:World) (hs1:SliceOf w 3 Node.cells A1 n1 c1 ns) (hs2:SliceOf w 5 Pipe.cells A2 n2 c2 ps) (hs:SliceOf w 8 Contract.cells A n c xs) (hL:SliceOf w 4 Nomination.cells B m d L) (x:Nomination):
  Calls Tryz.prog 94 #[.agg #[.slice A1 n1 c1,.slice A2 n2 c2],.slice A n c,.slice B m d,.agg #[.int .i64 x.contract,.int .i64 x.hour,.int .i64 x.sent,.int .i64 x.amount]] w (RetS 79 Nomination.cells (accR n1 ns ps xs L x) w):=by
 have x0:Ext w ((w.alloc (.cells #[.slice A1 n1 c1,.slice A2 n2 c2] 27)).alloc (.cells #[.int .i64 x.contract,.int .i64 x.hour,.int .i64 x.sent,.int .i64 x.amount] 79)):=(Ext.alloc _ _).and_alloc _
 have hin:NomIn ((w.alloc (.cells #[.slice A1 n1 c1,.slice A2 n2 c2] 27)).alloc (.cells #[.int .i64 x.contract,.int .i64 x.hour,.int .i64 x.sent,.int .i64 x.amount] 79)) (w.heap.size+1) x:=by have h:=NomIn.new (w.alloc (.cells #[.slice A1 n1 c1,.slice A2 n2 c2] 27)) x 79; rw [World.size_alloc] at h; exact h
 have hmm:=hL.max
 have hcap:=hL.cap
 have HLn:=hide hL.len
 go_enter Tryz.func94,Tryz.ntmps94
 go_wp2_with fail
 refine (c_checkNominations A1 A2 n1 c1 n2 c2 ns ps A n c xs B m d L _ (hs1.ext x0) (hs2.ext x0) (hs.ext x0) (hL.ext x0)).mono ?_
 by_cases hz:nomC n1 ns ps xs L=0
 case neg=>
  have hz1:(nomC n1 ns ps xs L != 0)=true:=by simpa using hz
  have HR:=hide (show accR n1 ns ps xs L x=([],nomC n1 ns ps xs L) by unfold accR; rw [if_pos hz])
  clear hz
  generalize nomC n1 ns ps xs L=Z at *
  rintro e w1 ⟨rfl,hx1⟩
  go_wp2_with fail
  go_ret2
  exact RetS.nil_ HR.out (x0.trans hx1)
 obtain ⟨hbk,h200,hall⟩:=nomC_facts hz
 have HR1:=hide (show accR n1 ns ps xs L x=if nomB xs x=false then ([],2) else if accB xs L x=false then ([],7) else if L.length=200 then ([],3) else (L++[x],0) by unfold accR; rw [if_neg (by simpa using hz)])
 rw [hz]
 clear hz
 rintro e w1 ⟨rfl,hx1⟩
 obtain ⟨hy,y0,y1,y2,y3⟩:=hin.ext hx1
 have hok:=book_hours hbk
 have hm200:m≤200:=by rw [HLn.out]; exact h200
 have HALL:=hide hall
 have HBK:=hide hbk
 clear hall hbk
 go_wp2_with fail
 refine (c_isNomination A n c xs x _ (hs.ext (x0.trans hx1)) hok).mono ?_
 cases hb:nomB xs x
 ·have HR:=hide (show accR n1 ns ps xs L x=([],2) by rw [HR1.out,if_pos hb])
  rintro e w2 ⟨rfl,hx2⟩
  go_wp2_with fail
  go_ret2
  exact RetS.nil_ HR.out (x0.trans (hx1.trans hx2))
 have HR2:=hide (show accR n1 ns ps xs L x=if accB xs L x=false then ([],7) else if L.length=200 then ([],3) else (L++[x],0) by rw [HR1.out,if_neg (by simp [hb])])
 obtain ⟨kc,p,hkc,hkl,hpc,hpa,hpb,hxa,hxb,hxh,hxi,hxs,hxt⟩:=nomB_facts HBK.out hb
 have HKC:=hide hkc
 have HPC:=hide hpc
 clear hkc hpc hb
 rintro e w2 ⟨rfl,hx2⟩
 clear hy y0 y1 y2 y3
 have hx02:=x0.trans (hx1.trans hx2)
 have hx12:=hx1.trans hx2
 obtain ⟨hy,y0,y1,y2,y3⟩:=hin.ext hx12
 have hlast:(m=0∧Hid (L=[]))∨∃(m':Nat) (y:Nomination),m=m'+1∧Hid (L.getLast? =some y)∧Hid (L[m']? =some y):=by
  rcases Nat.eq_zero_or_pos m with h | h
  ·exact .inl ⟨h,hide (List.eq_nil_of_length_eq_zero (by rw [←HLn.out]; exact h))⟩
  ·have hlt:m-1<L.length:=by rw [←HLn.out]; omega
   refine .inr ⟨m-1,L[m-1],by omega,hide ?_,hide (List.getElem?_eq_getElem hlt)⟩
   rw [List.getLast?_eq_getElem?, ←HLn.out]; exact List.getElem?_eq_getElem hlt
 rcases hlast with ⟨rfl,HE⟩ | ⟨m',y,rfl,HG,HY⟩
 ·have HACC:=hide (acc_none (xs:=xs) (L:=L) (x:=x) (fun y hy=>by rw [HE.out] at hy; cases hy) (by unfold hits; rw [HE.out]; rfl))
  have HLN:=hide (show lastN x.contract x.hour L= -1 by rw [HE.out]; rfl)
  go_wp2_with fail
  refine wp_region_ph [] [0,1,2,3,4,5,6,7,8,9,10,11,12,13,14] (by kernel_rfl) (by kernel_rfl) (by intro c a w d v h; cases d <;> exact h) ?_
  simp only [wpPh,pickL,nthO]
  repeat (go_big_quiet_step (fail))
  refine wpQuiet_nil ?_
  go_wp2_with fail
  refine (c_lastNomination x.contract x.hour B 0 d L _ (hL.ext hx02.drew)).mono ?_
  rw [HLN.out]
  rintro e w3 ⟨rfl,hx3⟩
  have hx03:=hx02.drew.trans hx3
  clear hy y0 y1 y2 y3
  obtain ⟨hy,y0,y1,y2,y3⟩:=hin.ext (hx12.drew.trans hx3)
  have HR4:=hide (show accR n1 ns ps xs L x=(L++[x],0) by rw [HR2.out,if_neg (by rw [HACC.out]; decide),if_neg (by rw [←HLn.out]; decide)])
  have hLL:L.length≤200:=h200
  go_wp2_with fail
  refine wp_region_phT [(w.heap.size+1,0),(w.heap.size+1,1),(w.heap.size+1,2),(w.heap.size+1,3)] (.two [0,2] 1 (.one [] 3 (.one [] 4 (.last [5,6]))) 3 (.one [] 1 (.one [] 4 (.last [5,6])))) (by kernel_rfl) (by kernel_rfl) (by intro c a w d v h; cases d <;> exact h) ?_
  simp only [wpPhT,pickL,nthO]
  repeat (go_big_quiet_step (fail))
  refine wpQuiet_nil ?_
  refine ⟨?_,?_⟩
  ·go_wp2_with fail
   refine (l_cloneNomination _ _ _ L _ (hL.ext hx03.drew) (by omega)).mono ?_
   rintro e w4 ⟨v4,rfl,o4,hx4⟩
   have hx34:=(Ext.refl w3).drew.trans hx4
   go_wp2_with fail
   refine ⟨SameC.of_ext hx34 (by simp; omega),wpQuiet_nil ?_⟩
   go_wp2_with fail
   refine ⟨SameC.of_ext (hx34.and_alloc _) (by simp; omega),wpQuiet_nil ?_⟩
   have hz4:=hx34.size
   go_wp2_with (at_builtin; go_must (refine wpList_append_grow rfl _ _ 29 rfl (w3.heap.size) 79 _ 4 32 Tryz.underlying29 nomination_info rfl (by decide) Nomination.cells nomination_len nomination_one v4 L rfl (o4.ext (Ext.alloc _ _)) (some ⟨w4.heap.size,0,none⟩) 1 1 [x] rfl (nom_one_slice (Row.new w4 79 [.int .i64 x.contract,.int .i64 x.hour,.int .i64 x.sent,.int .i64 x.amount])) (by omega) (by omega) (by first | exact Nat.le_refl _ | omega | (simp; done) | (simp; omega)) ?_))
   intro v5 w5 o5 g5
   have hx35:Ext w3 w5:=(hx34.and_alloc _).grown g5 (fun k hk=>o4.block_le hk)
   have hx5:=hx03.trans hx35
   obtain ⟨A',c',g,rfl,hg,hnc,hcm,ho⟩:=o5.own nomination_len (by omega)
   go_wp2_with fail
   refine ⟨SameC.of_ext hx35 (by simp; omega),?_⟩
   repeat (go_big_quiet_step (fail))
   refine wpQuiet_nil ?_
   go_wp2_with fail
   go_ret2
   rw [HR4.out]
   exact ⟨A',_,c',g,rfl,hnc,hcm,by have:=hx03.size; first | omega | (simp at hg; omega),ho,hx5⟩
  ·go_wp2_with fail
   have hx3b:Ext w3 (w3.alloc (.cells #[.int .i64 x.contract,.int .i64 x.hour,.int .i64 x.sent,.int .i64 x.amount] 79)).drew:=(Ext.alloc _ _).drew
   refine ⟨SameC.of_ext hx3b (by simp; omega),wpQuiet_nil ?_⟩
   go_wp2_with fail
   refine (l_cloneNomination _ _ _ L _ (hL.ext (hx03.trans hx3b)) (by omega)).mono ?_
   rintro e w4 ⟨v4,rfl,o4,hx4⟩
   have hx34:=hx3b.trans hx4
   have rr:=((Row.new w3 79 [.int .i64 x.contract,.int .i64 x.hour,.int .i64 x.sent,.int .i64 x.amount]).drew).ext hx4
   go_wp2_with fail
   refine ⟨SameC.of_ext hx34 (by simp; omega),wpQuiet_nil ?_⟩
   have hz4:=hx4.size
   simp at hz4
   go_wp2_with (at_builtin; go_must (refine wpList_append_grow rfl _ _ 29 rfl (w3.heap.size+1) 79 _ 4 32 Tryz.underlying29 nomination_info rfl (by decide) Nomination.cells nomination_len nomination_one v4 L rfl ((by simpa using o4)) (some ⟨w3.heap.size,0,none⟩) 1 1 [x] rfl (nom_one_slice rr) (by omega) (by omega) (by first | exact Nat.le_refl _ | omega | (simp; done) | (simp; omega)) ?_))
   intro v5 w5 o5 g5
   have hx35:Ext w3 w5:=hx34.grown g5 (fun k hk=>by have:=o4.block_le hk; simp at this; omega)
   have hx5:=hx03.trans hx35
   obtain ⟨A',c',g,rfl,hg,hnc,hcm,ho⟩:=o5.own nomination_len (by omega)
   go_wp2_with fail
   refine ⟨SameC.of_ext hx35 (by simp; omega),?_⟩
   repeat (go_big_quiet_step (fail))
   refine wpQuiet_nil ?_
   go_wp2_with fail
   go_ret2
   rw [HR4.out]
   exact ⟨A',_,c',g,rfl,hnc,hcm,by have:=hx03.size; first | omega | (simp at hg; omega),ho,hx5⟩
 ·have hmL:m'<L.length:=by rw [←HLn.out]; omega
  obtain ⟨b,off,y',rfl,hb,hyk,hc⟩:=(hL.ext hx02).get (k:=m') (by omega)
  obtain rfl:y=y':=by have:=HY.out.symm.trans hyk; injection this
  have hcy:=hc 2 _ rfl
  clear hc hyk
  have hy1:=nomB_facts HBK.out (HALL.out y (List.mem_of_getElem? HY.out))
  cases hsb:decide (x.sent<y.sent)
  case true=>
   have HR:=hide (show accR n1 ns ps xs L x=([],7) by rw [HR2.out,if_pos (acc_last_no HG.out hsb)])
   clear hy1
   go_wp2_with fail
   refine wp_region_ph [] [0,1,2,3,4,5,6,7,8,9,10,11,12,13,14] (by kernel_rfl) (by kernel_rfl) (by intro c a w d v h; cases d <;> exact h) ?_
   simp only [wpPh,pickL,nthO]
   repeat (go_big_quiet_step (fail))
   refine wpQuiet_nil ?_
   go_wp2_with fail
   go_ret2
   exact RetS.nil_ HR.out hx02.drew
  clear hy1
  have HSB:=hide (show ∀z,L.getLast? =some z→decide (x.sent<z.sent)=false from fun z hz=>by rw [HG.out] at hz; injection hz with hz; subst hz; exact hsb)
  go_wp2_with fail
  refine wp_region_ph [] [0,1,2,3,4,5,6,7,8,9,10,11,12,13,14] (by kernel_rfl) (by kernel_rfl) (by intro c a w d v h; cases d <;> exact h) ?_
  simp only [wpPh,pickL,nthO]
  repeat (go_big_quiet_step (fail))
  refine wpQuiet_nil ?_
  clear hcy
  go_wp2_with fail
  refine (c_lastNomination x.contract x.hour _ (m'+1) d L _ (hL.ext hx02.drew)).mono ?_
  rcases lastN_hits L x.contract x.hour with ⟨eN,eF⟩ | ⟨k,q,eN,eK,eF⟩
  ·have HACC:=hide (acc_none (xs:=xs) (L:=L) (x:=x) HSB.out eF)
   rw [eN]
   clear eN eF
   rintro e w3 ⟨rfl,hx3⟩
   have hx03:=hx02.drew.trans hx3
   clear hy y0 y1 y2 y3
   obtain ⟨hy,y0,y1,y2,y3⟩:=hin.ext (hx12.drew.trans hx3)
   have hLL:L.length≤200:=h200
   by_cases h2:m'+1=200
   ·have HR3:=hide (show accR n1 ns ps xs L x=([],3) by rw [HR2.out,if_neg (by rw [HACC.out]; decide),if_pos (by rw [←HLn.out]; exact h2)])
    obtain rfl:m'=199:=by omega
    go_wp2_with fail
    go_ret2
    exact RetS.nil_ HR3.out hx03
   ·have HR4:=hide (show accR n1 ns ps xs L x=(L++[x],0) by rw [HR2.out,if_neg (by rw [HACC.out]; decide),if_neg (by rw [←HLn.out]; exact h2)])
    have h2':¬m'=199:=by omega
    go_wp2_with fail
    refine wp_region_phT [(w.heap.size+1,0),(w.heap.size+1,1),(w.heap.size+1,2),(w.heap.size+1,3)] (.two [0,2] 1 (.one [] 3 (.one [] 4 (.last [5,6]))) 3 (.one [] 1 (.one [] 4 (.last [5,6])))) (by kernel_rfl) (by kernel_rfl) (by intro c a w d v h; cases d <;> exact h) ?_
    simp only [wpPhT,pickL,nthO]
    repeat (go_big_quiet_step (fail))
    refine wpQuiet_nil ?_
    refine ⟨?_,?_⟩
    ·go_wp2_with fail
     refine (l_cloneNomination _ _ _ L _ (hL.ext hx03.drew) (by omega)).mono ?_
     rintro e w4 ⟨v4,rfl,o4,hx4⟩
     have hx34:=(Ext.refl w3).drew.trans hx4
     go_wp2_with fail
     refine ⟨SameC.of_ext hx34 (by simp; omega),wpQuiet_nil ?_⟩
     go_wp2_with fail
     refine ⟨SameC.of_ext (hx34.and_alloc _) (by simp; omega),wpQuiet_nil ?_⟩
     have hz4:=hx34.size
     go_wp2_with (at_builtin; go_must (refine wpList_append_grow rfl _ _ 29 rfl (w3.heap.size) 79 _ 4 32 Tryz.underlying29 nomination_info rfl (by decide) Nomination.cells nomination_len nomination_one v4 L rfl (o4.ext (Ext.alloc _ _)) (some ⟨w4.heap.size,0,none⟩) 1 1 [x] rfl (nom_one_slice (Row.new w4 79 [.int .i64 x.contract,.int .i64 x.hour,.int .i64 x.sent,.int .i64 x.amount])) (by omega) (by omega) (by first | exact Nat.le_refl _ | omega | (simp; done) | (simp; omega)) ?_))
     intro v5 w5 o5 g5
     have hx35:Ext w3 w5:=(hx34.and_alloc _).grown g5 (fun k hk=>o4.block_le hk)
     have hx5:=hx03.trans hx35
     obtain ⟨A',c',g,rfl,hg,hnc,hcm,ho⟩:=o5.own nomination_len (by omega)
     go_wp2_with fail
     refine ⟨SameC.of_ext hx35 (by simp; omega),?_⟩
     repeat (go_big_quiet_step (fail))
     refine wpQuiet_nil ?_
     go_wp2_with fail
     go_ret2
     rw [HR4.out]
     exact ⟨A',_,c',g,rfl,hnc,hcm,by have:=hx03.size; first | omega | (simp at hg; omega),ho,hx5⟩
    ·go_wp2_with fail
     have hx3b:Ext w3 (w3.alloc (.cells #[.int .i64 x.contract,.int .i64 x.hour,.int .i64 x.sent,.int .i64 x.amount] 79)).drew:=(Ext.alloc _ _).drew
     refine ⟨SameC.of_ext hx3b (by simp; omega),wpQuiet_nil ?_⟩
     go_wp2_with fail
     refine (l_cloneNomination _ _ _ L _ (hL.ext (hx03.trans hx3b)) (by omega)).mono ?_
     rintro e w4 ⟨v4,rfl,o4,hx4⟩
     have hx34:=hx3b.trans hx4
     have rr:=((Row.new w3 79 [.int .i64 x.contract,.int .i64 x.hour,.int .i64 x.sent,.int .i64 x.amount]).drew).ext hx4
     go_wp2_with fail
     refine ⟨SameC.of_ext hx34 (by simp; omega),wpQuiet_nil ?_⟩
     have hz4:=hx4.size
     simp at hz4
     go_wp2_with (at_builtin; go_must (refine wpList_append_grow rfl _ _ 29 rfl (w3.heap.size+1) 79 _ 4 32 Tryz.underlying29 nomination_info rfl (by decide) Nomination.cells nomination_len nomination_one v4 L rfl ((by simpa using o4)) (some ⟨w3.heap.size,0,none⟩) 1 1 [x] rfl (nom_one_slice rr) (by omega) (by omega) (by first | exact Nat.le_refl _ | omega | (simp; done) | (simp; omega)) ?_))
     intro v5 w5 o5 g5
     have hx35:Ext w3 w5:=hx34.grown g5 (fun k hk=>by have:=o4.block_le hk; simp at this; omega)
     have hx5:=hx03.trans hx35
     obtain ⟨A',c',g,rfl,hg,hnc,hcm,ho⟩:=o5.own nomination_len (by omega)
     go_wp2_with fail
     refine ⟨SameC.of_ext hx35 (by simp; omega),?_⟩
     repeat (go_big_quiet_step (fail))
     refine wpQuiet_nil ?_
     go_wp2_with fail
     go_ret2
     rw [HR4.out]
     exact ⟨A',_,c',g,rfl,hnc,hcm,by have:=hx03.size; first | omega | (simp at hg; omega),ho,hx5⟩
  ·have hacc:=acc_some (xs:=xs) (L:=L) (x:=x) HSB.out eF HKC.out HPC.out
   have hkL:k<m'+1:=by rw [HLn.out]; exact (List.getElem?_eq_some_iff.1 eK).1
   obtain ⟨_,_,_,_,_,_,_,hqa,hqb,_,_,_,_⟩:=nomB_facts HBK.out (HALL.out q (List.mem_of_getElem? eK))
   rw [eN]
   have HEK:=hide eK
   clear eN eF eK
   rintro e w3 ⟨rfl,hx3⟩
   have hx03:=hx02.drew.trans hx3
   clear hy y0 y1 y2 y3
   obtain ⟨hy,y0,y1,y2,y3⟩:=hin.ext (hx12.drew.trans hx3)
   cases b1:decide (x.hour-6<x.sent)
   ·have HACC:=hide (show accB xs L x=true by rw [hacc,b1]; rfl)
    clear hacc
    have hLL:L.length≤200:=h200
    by_cases h2:m'+1=200
    ·have HR3:=hide (show accR n1 ns ps xs L x=([],3) by rw [HR2.out,if_neg (by rw [HACC.out]; decide),if_pos (by rw [←HLn.out]; exact h2)])
     obtain rfl:m'=199:=by omega
     go_wp2_with fail
     go_ret2
     exact RetS.nil_ HR3.out hx03
    ·have HR4:=hide (show accR n1 ns ps xs L x=(L++[x],0) by rw [HR2.out,if_neg (by rw [HACC.out]; decide),if_neg (by rw [←HLn.out]; exact h2)])
     have h2':¬m'=199:=by omega
     go_wp2_with fail
     refine wp_region_phT [(w.heap.size+1,0),(w.heap.size+1,1),(w.heap.size+1,2),(w.heap.size+1,3)] (.two [0,2] 1 (.one [] 3 (.one [] 4 (.last [5,6]))) 3 (.one [] 1 (.one [] 4 (.last [5,6])))) (by kernel_rfl) (by kernel_rfl) (by intro c a w d v h; cases d <;> exact h) ?_
     simp only [wpPhT,pickL,nthO]
     repeat (go_big_quiet_step (fail))
     refine wpQuiet_nil ?_
     refine ⟨?_,?_⟩
     ·go_wp2_with fail
      refine (l_cloneNomination _ _ _ L _ (hL.ext hx03.drew) (by omega)).mono ?_
      rintro e w4 ⟨v4,rfl,o4,hx4⟩
      have hx34:=(Ext.refl w3).drew.trans hx4
      go_wp2_with fail
      refine ⟨SameC.of_ext hx34 (by simp; omega),wpQuiet_nil ?_⟩
      go_wp2_with fail
      refine ⟨SameC.of_ext (hx34.and_alloc _) (by simp; omega),wpQuiet_nil ?_⟩
      have hz4:=hx34.size
      go_wp2_with (at_builtin; go_must (refine wpList_append_grow rfl _ _ 29 rfl (w3.heap.size) 79 _ 4 32 Tryz.underlying29 nomination_info rfl (by decide) Nomination.cells nomination_len nomination_one v4 L rfl (o4.ext (Ext.alloc _ _)) (some ⟨w4.heap.size,0,none⟩) 1 1 [x] rfl (nom_one_slice (Row.new w4 79 [.int .i64 x.contract,.int .i64 x.hour,.int .i64 x.sent,.int .i64 x.amount])) (by omega) (by omega) (by first | exact Nat.le_refl _ | omega | (simp; done) | (simp; omega)) ?_))
      intro v5 w5 o5 g5
      have hx35:Ext w3 w5:=(hx34.and_alloc _).grown g5 (fun k hk=>o4.block_le hk)
      have hx5:=hx03.trans hx35
      obtain ⟨A',c',g,rfl,hg,hnc,hcm,ho⟩:=o5.own nomination_len (by omega)
      go_wp2_with fail
      refine ⟨SameC.of_ext hx35 (by simp; omega),?_⟩
      repeat (go_big_quiet_step (fail))
      refine wpQuiet_nil ?_
      go_wp2_with fail
      go_ret2
      rw [HR4.out]
      exact ⟨A',_,c',g,rfl,hnc,hcm,by have:=hx03.size; first | omega | (simp at hg; omega),ho,hx5⟩
     ·go_wp2_with fail
      have hx3b:Ext w3 (w3.alloc (.cells #[.int .i64 x.contract,.int .i64 x.hour,.int .i64 x.sent,.int .i64 x.amount] 79)).drew:=(Ext.alloc _ _).drew
      refine ⟨SameC.of_ext hx3b (by simp; omega),wpQuiet_nil ?_⟩
      go_wp2_with fail
      refine (l_cloneNomination _ _ _ L _ (hL.ext (hx03.trans hx3b)) (by omega)).mono ?_
      rintro e w4 ⟨v4,rfl,o4,hx4⟩
      have hx34:=hx3b.trans hx4
      have rr:=((Row.new w3 79 [.int .i64 x.contract,.int .i64 x.hour,.int .i64 x.sent,.int .i64 x.amount]).drew).ext hx4
      go_wp2_with fail
      refine ⟨SameC.of_ext hx34 (by simp; omega),wpQuiet_nil ?_⟩
      have hz4:=hx4.size
      simp at hz4
      go_wp2_with (at_builtin; go_must (refine wpList_append_grow rfl _ _ 29 rfl (w3.heap.size+1) 79 _ 4 32 Tryz.underlying29 nomination_info rfl (by decide) Nomination.cells nomination_len nomination_one v4 L rfl ((by simpa using o4)) (some ⟨w3.heap.size,0,none⟩) 1 1 [x] rfl (nom_one_slice rr) (by omega) (by omega) (by first | exact Nat.le_refl _ | omega | (simp; done) | (simp; omega)) ?_))
      intro v5 w5 o5 g5
      have hx35:Ext w3 w5:=hx34.grown g5 (fun k hk=>by have:=o4.block_le hk; simp at this; omega)
      have hx5:=hx03.trans hx35
      obtain ⟨A',c',g,rfl,hg,hnc,hcm,ho⟩:=o5.own nomination_len (by omega)
      go_wp2_with fail
      refine ⟨SameC.of_ext hx35 (by simp; omega),?_⟩
      repeat (go_big_quiet_step (fail))
      refine wpQuiet_nil ?_
      go_wp2_with fail
      go_ret2
      rw [HR4.out]
      exact ⟨A',_,c',g,rfl,hnc,hcm,by have:=hx03.size; first | omega | (simp at hg; omega),ho,hx5⟩
   ·cases b2:decide (p.amount.tdiv 2<absI (x.amount-q.amount))
    ·have HACC:=hide (show accB xs L x=true by rw [hacc,b1,b2]; rfl)
     clear hacc
     obtain ⟨q',eq1,eq2⟩:=(hL.ext hx03).at_ hkL
     obtain rfl:q=q':=by have:=HEK.out.symm.trans eq1; injection this
     have hcq:=eq2 3 _ rfl
     clear eq1 eq2
     obtain ⟨ba,oa,p',rfl,hba,ep1,ep2⟩:=(hs.ext hx03).get (k:=kc) (by rw [hs.len]; exact hkl)
     obtain rfl:p=p':=by have:=HPC.out.symm.trans ep1; injection this
     have hcp:=ep2 3 _ rfl
     clear ep1 ep2
     have y0k:w3.cell? ⟨w.heap.size+1,0,none⟩=some (.int .i64 (kc:Int)):=by rw [←HKC.out]; exact y0
     clear y0
     have hb3:b<w3.heap.size:=by have:=hx3.size; simp at this; omega
     have hkn:kc<n:=by rw [hs.len]; exact hkl
     have hdd:=absD_le hxa hxb hqa hqb
     have hwq:IntKind.i64.wrap (p.amount.tdiv 2)=p.amount.tdiv 2:=IntWalk.i64_in _ (by rw [Int.tdiv_eq_ediv_of_nonneg (by omega)]; omega)
     go_wp2_with fail
     refine wp_region_ph [([0,1,2,3,4,5,6,7,9,10,11,12,13,14,15],8)] [16] (by kernel_rfl) (by kernel_rfl) (by intro c a w d v h; cases d <;> exact h) ?_
     simp only [wpPh,pickL,nthO]
     repeat (go_big_quiet_step (fail))
     refine wpQuiet_nil ?_
     go_wp2_with fail
     refine (c_absOf _ _ (by omega) (by omega)).mono ?_
     rintro e w' ⟨rfl,rfl⟩
     go_wp2_with fail
     refine ⟨Ext.refl _,?_⟩
     repeat (go_big_quiet_step (fail))
     refine wpQuiet_nil ?_
     clear hcq hcp y0k hdd hwq hy y1 y2 y3 hba
     have hx3d:=hx03.drew
     obtain ⟨v3,hw4⟩:∃v3,w3.drew=v3:=⟨_,rfl⟩
     have hin4:=hin.ext (hx12.drew.trans hx3).drew
     rw [hw4] at hin4 hx3d ⊢
     clear hw4
     obtain ⟨hy,y0,y1,y2,y3⟩:=hin4
     have hLL:L.length≤200:=h200
     by_cases h2:m'+1=200
     ·have HR3:=hide (show accR n1 ns ps xs L x=([],3) by rw [HR2.out,if_neg (by rw [HACC.out]; decide),if_pos (by rw [←HLn.out]; exact h2)])
      obtain rfl:m'=199:=by omega
      go_wp2_with fail
      go_ret2
      exact RetS.nil_ HR3.out hx3d
     ·have HR4:=hide (show accR n1 ns ps xs L x=(L++[x],0) by rw [HR2.out,if_neg (by rw [HACC.out]; decide),if_neg (by rw [←HLn.out]; exact h2)])
      have h2':¬m'=199:=by omega
      go_wp2_with fail
      refine wp_region_phT [(w.heap.size+1,0),(w.heap.size+1,1),(w.heap.size+1,2),(w.heap.size+1,3)] (.two [0,2] 1 (.one [] 3 (.one [] 4 (.last [5,6]))) 3 (.one [] 1 (.one [] 4 (.last [5,6])))) (by kernel_rfl) (by kernel_rfl) (by intro c a w d v h; cases d <;> exact h) ?_
      simp only [wpPhT,pickL,nthO]
      repeat (go_big_quiet_step (fail))
      refine wpQuiet_nil ?_
      refine ⟨?_,?_⟩
      ·go_wp2_with fail
       refine (l_cloneNomination _ _ _ L _ (hL.ext hx3d.drew) (by omega)).mono ?_
       rintro e w4 ⟨v4,rfl,o4,hx4⟩
       have hx34:=(Ext.refl v3).drew.trans hx4
       go_wp2_with fail
       refine ⟨SameC.of_ext hx34 (by simp; omega),wpQuiet_nil ?_⟩
       go_wp2_with fail
       refine ⟨SameC.of_ext (hx34.and_alloc _) (by simp; omega),wpQuiet_nil ?_⟩
       have hz4:=hx34.size
       go_wp2_with (at_builtin; go_must (refine wpList_append_grow rfl _ _ 29 rfl (v3.heap.size) 79 _ 4 32 Tryz.underlying29 nomination_info rfl (by decide) Nomination.cells nomination_len nomination_one v4 L rfl (o4.ext (Ext.alloc _ _)) (some ⟨w4.heap.size,0,none⟩) 1 1 [x] rfl (nom_one_slice (Row.new w4 79 [.int .i64 x.contract,.int .i64 x.hour,.int .i64 x.sent,.int .i64 x.amount])) (by omega) (by omega) (by first | exact Nat.le_refl _ | omega | (simp; done) | (simp; omega)) ?_))
       intro v5 w5 o5 g5
       have hx35:Ext v3 w5:=(hx34.and_alloc _).grown g5 (fun k hk=>o4.block_le hk)
       have hx5:=hx3d.trans hx35
       obtain ⟨A',c',g,rfl,hg,hnc,hcm,ho⟩:=o5.own nomination_len (by omega)
       go_wp2_with fail
       refine ⟨SameC.of_ext hx35 (by simp; omega),?_⟩
       repeat (go_big_quiet_step (fail))
       refine wpQuiet_nil ?_
       go_wp2_with fail
       go_ret2
       rw [HR4.out]
       exact ⟨A',_,c',g,rfl,hnc,hcm,by have:=hx3d.size; first | omega | (simp at hg; omega),ho,hx5⟩
      ·go_wp2_with fail
       have hx3b:Ext v3 (v3.alloc (.cells #[.int .i64 x.contract,.int .i64 x.hour,.int .i64 x.sent,.int .i64 x.amount] 79)).drew:=(Ext.alloc _ _).drew
       refine ⟨SameC.of_ext hx3b (by simp; omega),wpQuiet_nil ?_⟩
       go_wp2_with fail
       refine (l_cloneNomination _ _ _ L _ (hL.ext (hx3d.trans hx3b)) (by omega)).mono ?_
       rintro e w4 ⟨v4,rfl,o4,hx4⟩
       have hx34:=hx3b.trans hx4
       have rr:=((Row.new v3 79 [.int .i64 x.contract,.int .i64 x.hour,.int .i64 x.sent,.int .i64 x.amount]).drew).ext hx4
       go_wp2_with fail
       refine ⟨SameC.of_ext hx34 (by simp; omega),wpQuiet_nil ?_⟩
       have hz4:=hx4.size
       simp at hz4
       go_wp2_with (at_builtin; go_must (refine wpList_append_grow rfl _ _ 29 rfl (v3.heap.size+1) 79 _ 4 32 Tryz.underlying29 nomination_info rfl (by decide) Nomination.cells nomination_len nomination_one v4 L rfl ((by simpa using o4)) (some ⟨v3.heap.size,0,none⟩) 1 1 [x] rfl (nom_one_slice rr) (by omega) (by omega) (by first | exact Nat.le_refl _ | omega | (simp; done) | (simp; omega)) ?_))
       intro v5 w5 o5 g5
       have hx35:Ext v3 w5:=hx34.grown g5 (fun k hk=>by have:=o4.block_le hk; simp at this; omega)
       have hx5:=hx3d.trans hx35
       obtain ⟨A',c',g,rfl,hg,hnc,hcm,ho⟩:=o5.own nomination_len (by omega)
       go_wp2_with fail
       refine ⟨SameC.of_ext hx35 (by simp; omega),?_⟩
       repeat (go_big_quiet_step (fail))
       refine wpQuiet_nil ?_
       go_wp2_with fail
       go_ret2
       rw [HR4.out]
       exact ⟨A',_,c',g,rfl,hnc,hcm,by have:=hx3d.size; first | omega | (simp at hg; omega),ho,hx5⟩
    ·have HR:=hide (show accR n1 ns ps xs L x=([],7) by rw [HR2.out,if_pos (by rw [hacc,b1,b2]; rfl)])
     clear hacc
     obtain ⟨q',eq1,eq2⟩:=(hL.ext hx03).at_ hkL
     obtain rfl:q=q':=by have:=HEK.out.symm.trans eq1; injection this
     have hcq:=eq2 3 _ rfl
     clear eq1 eq2
     obtain ⟨ba,oa,p',rfl,hba,ep1,ep2⟩:=(hs.ext hx03).get (k:=kc) (by rw [hs.len]; exact hkl)
     obtain rfl:p=p':=by have:=HPC.out.symm.trans ep1; injection this
     have hcp:=ep2 3 _ rfl
     clear ep1 ep2
     have y0k:w3.cell? ⟨w.heap.size+1,0,none⟩=some (.int .i64 (kc:Int)):=by rw [←HKC.out]; exact y0
     clear y0
     have hb3:b<w3.heap.size:=by have:=hx3.size; simp at this; omega
     have hkn:kc<n:=by rw [hs.len]; exact hkl
     have hdd:=absD_le hxa hxb hqa hqb
     have hwq:IntKind.i64.wrap (p.amount.tdiv 2)=p.amount.tdiv 2:=IntWalk.i64_in _ (by rw [Int.tdiv_eq_ediv_of_nonneg (by omega)]; omega)
     go_wp2_with fail
     refine wp_region_ph [([0,1,2,3,4,5,6,7,9,10,11,12,13,14,15],8)] [16] (by kernel_rfl) (by kernel_rfl) (by intro c a w d v h; cases d <;> exact h) ?_
     simp only [wpPh,pickL,nthO]
     repeat (go_big_quiet_step (fail))
     refine wpQuiet_nil ?_
     go_wp2_with fail
     refine (c_absOf _ _ (by omega) (by omega)).mono ?_
     rintro e w' ⟨rfl,rfl⟩
     go_wp2_with fail
     refine ⟨Ext.refl _,?_⟩
     repeat (go_big_quiet_step (fail))
     refine wpQuiet_nil ?_
     go_wp2_with fail
     go_ret2
     exact RetS.nil_ HR.out hx03.drew
end Go.Proofs.YtinindjjapblcaaGreatDoor
