/-
  The reference's draw of what several hours are settled for.
-/
import Derived.Test.YtfkpghdmljjegaaGreatVe35
import Derived.Test.YtfkpghdmljjegaaGreatVf00
namespace Go.Proofs.YtfkpghdmljjegaaGreat
open Go.RowKit
theorem OwnL.turnH {α:Type} {S:Nat→Prop} {w w':World} {base:Nat} {e:TypeId} {size:Nat} {f:α→List Value} {v:Value} {L:List α} (h:OwnL w base e size f v L) (k:Turn S w w') (hne:∀b,v.ownBlock=some b→¬S b):OwnL w' base e size f v L:=by
 obtain ⟨h1,h2⟩:=h
 refine ⟨h1,?_⟩
 rcases h2 with h2 | ⟨g,cap,cur,hv,hb,hh,r⟩
 ·exact .inl h2
 ·refine .inr ⟨g,cap,cur,hv,hb,?_,r⟩
  have hlt:g<w.heap.size:=by
   rcases Nat.lt_or_ge g w.heap.size with hlt | hge
   ·exact hlt
   ·rw [Array.getElem?_eq_none hge] at hh; cases hh
  exact (k.block g hlt (hne g (by rw [hv]; rfl))).trans hh
structure USt (w:World) (a:Nat) (A:Option Addr) (n c g:Nat) (v1 v2 v3 v4 vo:Value) (ns:List Node) (ps:List Pipe) (xs:List Contract) (L:List Nomination) (rs:List RS) (wr:World):Prop where
 t:TSt w a A n c g v1 v2 v3 v4 (.slice none 0 0) ns ps xs L [] wr
 oo:OwnL wr (a+1) 60 1 RS.cells vo rs
 el:∀q∈rs,OwnL wr (a+1) 176 2 Reading.cells (.slice q.A q.n q.c) q.xs
section
variable {w wr wr':World} {a n c g:Nat} {A:Option Addr} {v1 v2 v3 v4 v5 vo v':Value} {ns:List Node} {ps:List Pipe} {xs:List Contract} {L:List Nomination} {rs rs':List RS}
theorem TSt.turnU {S:Nat→Prop} (h:TSt w a A n c g v1 v2 v3 v4 (.slice none 0 0) ns ps xs L [] wr) (hs:Src w wr' a A n c) (k:Turn S wr wr') (hS:∀b,S b→b=a∨wr.heap.size≤b):TSt w a A n c g v1 v2 v3 v4 (.slice none 0 0) ns ps xs L [] wr':=by
 have hl:=h.lt
 have hg:=h.hg
 have l1:=h.r1.lt
 have l2:=h.r2.lt
 have l3:=h.var.lt
 exact ⟨h.lt,hs,h.r1.turn k (fun e=>by rcases hS _ e with e | e <;> omega),h.r2.turn k (fun e=>by rcases hS _ e with e | e <;> omega),h.var.turn k (fun e=>by rcases hS _ e with e | e <;> omega),h.hg,
  h.o1.turnH k (fun b hb e=>by have:=h.o1.ltG hb; rcases hS b e with e | e <;> omega),h.o2.turnH k (fun b hb e=>by have:=h.o2.ltG hb; rcases hS b e with e | e <;> omega),h.o3.turnH k (fun b hb e=>by have:=h.o3.ltG hb; rcases hS b e with e | e <;> omega),h.o4.turnH k (fun b hb e=>by have:=h.o4.ltG hb; rcases hS b e with e | e <;> omega),OwnL.nil_ _ _ _ _ _⟩
theorem USt.turn {S:Nat→Prop} (h:USt w a A n c g v1 v2 v3 v4 vo ns ps xs L rs wr) (hs:Src w wr' a A n c) (k:Turn S wr wr') (hS:∀b,S b→b=a∨wr.heap.size≤b):USt w a A n c g v1 v2 v3 v4 vo ns ps xs L rs wr':=
 ⟨h.t.turnU hs k hS,h.oo.turnH k (fun b hb e=>by have:=h.oo.ltG hb; rcases hS b e with e | e <;> omega),fun q hq=>(h.el q hq).turnH k (fun b hb e=>by have:=(h.el q hq).ltG hb; rcases hS b e with e | e <;> omega)⟩
theorem USt.draw (h:USt w a A n c g v1 v2 v3 v4 vo ns ps xs L rs wr) (hs:Src w wr' a A n c) (ho:Only a wr wr'):USt w a A n c g v1 v2 v3 v4 vo ns ps xs L rs wr':=
 h.turn (S:=fun b=>b=a) hs (Turn.of_only ho (fun _=>rfl)) (fun _ hb=> .inl hb)
theorem USt.more (h:USt w a A n c g v1 v2 v3 v4 vo ns ps xs L rs wr) (hx:Ext wr wr'):USt w a A n c g v1 v2 v3 v4 vo ns ps xs L rs wr':=h.draw (h.t.src.more hx) (Only.of_ext hx a)
theorem USt.app (h:USt w a A n c g v1 v2 v3 v4 vo ns ps xs L rs wr) (hgr:wr.grownBy wr' vo.ownBlock) {q:RS} (ho:OwnL wr' (a+1) 60 1 RS.cells v' (rs++[q])) (hq:OwnL wr (a+1) 176 2 Reading.cells (.slice q.A q.n q.c) q.xs):USt w a A n c g v1 v2 v3 v4 v' ns ps xs L (rs++[q]) wr':=by
 have hl:=h.t.lt
 have hg:=h.t.hg
 have hle:=h.t.src.le0
 have hb:=fun k (hk:vo.ownBlock=some k)=>h.oo.block_le hk
 refine ⟨⟨hl,h.t.src.grow hgr (fun k hk=>by have:=hb k hk; omega),h.t.r1.grown hgr (fun e=>by have:=hb _ e; omega),h.t.r2.grown hgr (fun e=>by have:=hb _ e; omega),h.t.var.grown hgr (fun e=>h.oo.not_row h.t.var (by decide) g e rfl),hg,h.t.o1.grown hgr (fun k hk=> ?_),h.t.o2.grown hgr (fun k hk=> ?_),h.t.o3.grown hgr (fun k hk=> ?_),h.t.o4.grown hgr (fun k hk=> ?_),OwnL.nil_ _ _ _ _ _⟩,ho,fun p hp=> ?_⟩
 ·exact fun e=>OwnL.apart h.oo h.t.o1 (by decide) k hk e
 ·exact fun e=>OwnL.apart h.oo h.t.o2 (by decide) k hk e
 ·exact fun e=>OwnL.apart h.oo h.t.o3 (by decide) k hk e
 ·exact fun e=>OwnL.apart h.oo h.t.o4 (by decide) k hk e
 ·have hp':OwnL wr (a+1) 176 2 Reading.cells (.slice p.A p.n p.c) p.xs:=by
   rcases List.mem_append.1 hp with hp | hp
   ·exact h.el p hp
   ·obtain rfl:=List.mem_singleton.1 hp; exact hq
  exact hp'.grown hgr (fun k hk e=>OwnL.apart h.oo hp' (by decide) k hk e)
def DrawnSHs (w:World) (e:Ending) (w':World):Prop:=
 ∃(A1 A2:Option Addr) (n1 c1 n2 c2:Nat) (ns:List Node) (ps:List Pipe) (A3:Option Addr) (n3 c3:Nat) (xs:List Contract) (A4:Option Addr) (n4 c4:Nat) (L:List Nomination) (h:Int) (A5:Option Addr) (n5 c5:Nat) (rs:List RS) (band percent price:Int) (K:Option Addr) (kn kc:Nat) (ts:List Tier),
  e= .returned (.tuple #[.agg #[.slice A1 n1 c1,.slice A2 n2 c2],.slice A3 n3 c3,.slice A4 n4 c4,.int .i64 h,.slice A5 n5 c5,.agg #[.int .i64 band,.int .i64 percent,.int .i64 price,.slice K kn kc]])∧HrAt A1 A2 n1 c1 n2 c2 ns ps A3 n3 c3 xs A4 n4 c4 L w'∧SliceOf w' 1 RS.cells A5 n5 c5 rs∧(∀q∈rs,SliceOf w' 2 Reading.cells q.A q.n q.c q.xs)∧rs.length≤3∧SliceOf w' 2 Tier.cells K kn kc ts∧Ext w w'
theorem slq {w:World} {base:Nat} {q:RS} (h:OwnL w base 176 2 Reading.cells (.slice q.A q.n q.c) q.xs):SliceOf w 2 Reading.cells q.A q.n q.c q.xs:=h.slE reading_len (by omega)
theorem USt.finU {A1 A2 A3 A4 A5:Option Addr} {c1 c2 c3 c4 c5:Nat} (h:USt w a A n c g (.slice A1 ns.length c1) (.slice A2 ps.length c2) (.slice A3 xs.length c3) (.slice A4 L.length c4) (.slice A5 rs.length c5) ns ps xs L rs wr) (hz:SzH ns ps xs L []) (h3:rs.length≤3)
  {wf:World} (k:Turn (fun b=>b=w.heap.size∨b=w.heap.size+1) wr wf) {K:Option Addr} {kn kc:Nat} {ts:List Tier} (htm:SliceOf wf 2 Tier.cells K kn kc ts) (hh band percent price:Int):
  DrawnSHs w (.returned (.tuple #[.agg #[.slice A1 ns.length c1,.slice A2 ps.length c2],.slice A3 xs.length c3,.slice A4 L.length c4,.int .i64 hh,.slice A5 rs.length c5,.agg #[.int .i64 band,.int .i64 percent,.int .i64 price,.slice K kn kc]])) wf:=by
 have hl:=h.t.lt
 obtain ⟨f1,f2⟩:=h.t.finT hz k (A5:=none) (n5:=0) (c5:=0) (rs':=[]) (SliceOf.nil.2 (by decide)) htm
 refine ⟨A1,A2,ns.length,c1,ps.length,c2,ns,ps,A3,xs.length,c3,xs,A4,L.length,c4,L,hh,A5,rs.length,c5,rs,band,percent,price,K,kn,kc,ts,rfl,f1.hr,?_,fun q hq=> ?_,h3,htm,f2⟩
 ·exact (h.oo.slE rs_len (by omega)).turn k (fun b hb e=>by have:=h.oo.block_le (own_blkD hb); omega)
 ·exact (slq (h.el q hq)).turn k (fun b hb e=>by have:=(h.el q hq).block_le (own_blkD hb); omega)
set_option maxRecDepth 8000 in
set_option maxHeartbeats 8000000 in
theorem c_DrawSettleHours (A:Option Addr) (n c:Nat) (bs:List Int) (w:World) (hbs:SliceOf w 1 byteC A n c bs) (hbd:∀z∈bs,0≤z∧z≤255) (hn:n≤1048576):
  Calls Tryz.prog 45 #[.slice A n c] w (DrawnSHs w):=by
 have HD:=hide hbd
 clear hbd
 have hR1:=(Row.new w 45 [.slice none 0 0,.slice none 0 0]).ext (Ext.alloc _ (.cells #[.int .i64 0,.int .i64 0,.int .i64 0,.slice none 0 0] 73))
 have hR2:=Row.newG (W:=w.alloc (.cells #[.slice none 0 0,.slice none 0 0] 45)) (g:=w.heap.size+1) 73 [.int .i64 0,.int .i64 0,.int .i64 0,.slice none 0 0] (by simp)
 have hx0:Ext w ((w.alloc (.cells #[.slice none 0 0,.slice none 0 0] 45)).alloc (.cells #[.int .i64 0,.int .i64 0,.int .i64 0,.slice none 0 0] 73)):=(Ext.alloc _ _).and_alloc _
 go_enter Tryz.func45,Tryz.ntmps45
 go_wp2_with fail
 refine (c_l01From A n c bs _ (hbs.ext hx0) HD.out).mono ?_
 rintro e w1 ⟨a,rfl,ha,ha1,hs1,hx1⟩
 have hX1:=hx0.trans hx1
 have hz:w.heap.size+2≤a:=by simp at ha; omega
 have hS:Src w w1 a A n c:=⟨⟨bs,hbs,HD.out⟩,hn,by omega,hX1,hs1⟩
 have hR1:=hR1.ext hx1
 have hR2:=hR2.ext hx1
 have hSl:=hS.lt
 clear ha ha1 hs1 hx0 hx1 hX1
 go_wp2_with fail
 refine (c_l31Draw hS).mono ?_
 rintro e w2 ⟨v1,v2,v3,v4,ns,ps,xs,L,h,rfl,hO⟩
 have hR1:=hR1.only hO.only (by omega)
 have hR2:=hR2.only hO.only (by omega)
 have hz12:=hO.only.size
 obtain ⟨A1,c1,rfl,-⟩:=hO.o1.sl node_len (by have:=hO.b1; omega)
 obtain ⟨A2,c2,rfl,-⟩:=hO.o2.sl pipe_len (by have:=hO.b2; omega)
 obtain ⟨A3,c3,rfl,-⟩:=hO.o3.sl contract_len (by have:=hO.b3; omega)
 obtain ⟨A4,c4,rfl,-⟩:=hO.o4.sl nomination_len (by have:=hO.b4; omega)
 have HSZ:=hide (show SzH ns ps xs L [] from ⟨hO.b1,hO.b2,hO.b3,hO.b4,by simp,hO.nm⟩)
 obtain ⟨W3,HW3⟩:∃W3,Hid ((w2.alloc (.cells #[.slice A1 ns.length c1,.slice A2 ps.length c2] 45)).alloc (.cells #[] 60)=W3):=⟨_,hide rfl⟩
 have hx3:Ext w2 W3:=by rw [←HW3.out]; exact (Ext.alloc _ _).and_alloc _
 have hD:USt w a A n c w2.heap.size (.slice A1 ns.length c1) (.slice A2 ps.length c2) (.slice A3 xs.length c3) (.slice A4 L.length c4) (.slice (some ⟨w2.heap.size+1,0,none⟩) 0 0) ns ps xs L [] W3:=⟨⟨hz,hO.src.more hx3,hR1.ext hx3,hR2.ext hx3,by rw [←HW3.out]; exact (Row.new w2 45 [.slice A1 ns.length c1,.slice A2 ps.length c2]).ext (Ext.alloc _ _),by omega,(hO.o1.lowG (by omega)).ext hx3,(hO.o2.lowG (by omega)).ext hx3,(hO.o3.lowG (by omega)).ext hx3,(hO.o4.lowG (by omega)).ext hx3,OwnL.nil_ _ _ _ _ _⟩,by rw [←HW3.out]; exact own_new _ _ _ _ _ _ (by simp) (by simp; omega),fun q hq=>by cases hq⟩
 have hb7:=hO.b1
 clear hO hS hR1 hR2 hx3 hbs
 go_wp2_with fail
 rw [HW3.out]
 refine (c_next 4 hD.t.src (by omega) (by omega)).mono ?_
 rintro e w4 ⟨x4,rfl,hx4,hx4',hs4,ho4⟩
 have hD4:=hD.draw hs4 ho4
 obtain ⟨j4,rfl⟩:∃j:Nat,x4=j:=⟨x4.toNat,by omega⟩
 clear hD hs4 ho4
 go_wp2_with fail
 go_loopw [13,14] (fun v i wr=>∃(j:Nat) (rs:List RS),i= .int .i64 j∧rs.length+j≤3∧USt w a A n c w2.heap.size (.slice A1 ns.length c1) (.slice A2 ps.length c2) (.slice A3 xs.length c3) (.slice A4 L.length c4) v ns ps xs L rs wr) (fun _ i _=>(intOf i).toNat)
 case atStart=>exact ⟨j4,[],rfl,by simp; omega,hD4⟩
 case round=>
  clear hD4
  obtain ⟨j,rs,rfl,hj,hD⟩:=hrel
  obtain ⟨AO,co,rfl,-⟩:=hD.oo.form
  have hr3:rs.length≤3:=by omega
  by_cases h0:0<j
  ·obtain ⟨wo,hwo⟩:∃wo,wo=wr:=⟨_,rfl⟩
   subst hwo
   have p0:=hD.t.var.cell 0
   have p1:=hD.t.var.cell 1
   simp at p0 p1
   have pl:=hD.t.var.lt
   go_wp2_with fail
   refine (c_specPlannedReadings A1 A2 ns.length c1 ps.length c2 ns ps A3 xs.length c3 xs A4 L.length c4 L _ _ (hD.t.o1.slE node_len (by omega)) (hD.t.o2.slE pipe_len (by have:=HSZ.out.b2; omega)) (hD.t.o3.slE contract_len (by have:=HSZ.out.b3; omega)) (hD.t.o4.slE nomination_len (by have:=HSZ.out.b4; omega)) (fun x hx=>Nat.le_trans (HSZ.out.nm x hx) (by omega))).mono ?_
   rintro e wb ⟨v5,qs,z,rfl,ho5,hx5,HP⟩
   have hql:qs.length≤14:=by
    have e1:=congrArg (fun q=>q.1.length) HP.out
    have e2:=prV_len2 ns.length ns ps xs L (wrap64 (h+(rs.length:Int)))
    simp only at e1
    omega
   obtain ⟨A5,c5,rfl,-⟩:=ho5.sl reading_len (by omega)
   have hS5:=hD.t.src.more hx5
   have hT5:Turn (fun b=>b=a∨wo.heap.size≤b) wo wb:=Turn.of_ext hx5
   have hal5:=hD.t.src.lt
   clear HP p0 p1 pl
   by_cases hz0:z=0
   ·subst hz0
    clear hx5
    have hal0:=(hS5).lt
    have hlw:=hD.t.lt
    obtain ⟨m,HM⟩:∃m,Hid (qs.length=m):=⟨_,hide rfl⟩
    have hm14:m≤14:=by have:=HM.out; omega
    rw [HM.out] at ho5 ⊢
    go_wp2_with fail
    go_loopw [17] (fun i wy=>∃(k:Nat) (qs:List Reading),k≤m∧i= .int .i64 k∧Hid (qs.length=m)∧Src w wy a A n c∧OwnL wy wo.heap.size 176 2 Reading.cells (.slice A5 m c5) qs∧Turn (fun b=>b=a∨wo.heap.size≤b) wo wy) (fun i _=>m-(intOf i).toNat)
    case atStart=>exact ⟨0,qs,Nat.zero_le _,rfl,HM,hS5,ho5,hT5⟩
    case round=>
     clear hS5 ho5 hT5 hal0
     clear HM hql
     obtain ⟨k,qs,hk,rfl,HQL,hS,ho,hT⟩:=hrel
     have hal0:=hS.lt
     by_cases hlt:k<m
     ·obtain ⟨x,hxk⟩:∃x,qs[k]? =some x:=⟨_,List.getElem?_eq_getElem (by have:=HQL.out; omega)⟩
      obtain ⟨b,hA,hn',hb,hbl,hbf,hbc,-⟩:=ho.setOne reading_len (k:=k) (j:=1) (x:=x) (y:=⟨x.node,0⟩) (u:= .int .i64 0) hxk (by omega) rfl
      subst hA
      have k1:=hbc 1 (.int .i64 x.amount) rfl
      clear hbc hbf hn'
      go_wp2_with fail
      refine wp_region_phT [] (.two [0,1,2,3,4,5,7] 6 (.one [] 8 (.one [9,10,11,12] 13 (.last []))) 8 (.one [9] 6 (.one [10,11,12] 13 (.last [])))) (by kernel_rfl) (by kernel_rfl) (by intro c a w d v h; cases d <;> exact h) ?_
      simp only [wpPhT,pickL,nthO]
      repeat (go_big_quiet_step (fail))
      refine wpQuiet_nil ?_
      have hSd:=hS.more (Ext.refl _).drew
      refine ⟨?_,?_⟩
      ·go_wp2_with fail
       refine ⟨(SameC.refl [] _).drew,?_⟩
       repeat (go_big_quiet_step (fail))
       refine wpQuiet_nil ?_
       go_wp2_with fail
       refine (c_next 30 hSd (by omega) (by omega)).mono ?_
       rintro e w5 ⟨x5,rfl,hx5,hx5',hs5,ho5⟩
       have ho5o:=(Only.refl a wr).drew.trans ho5
       have hoR:=ho.only ho5o (by omega)
       obtain ⟨b',hA,hn',hb',hbl',hbf',hbc',hoN⟩:=hoR.setOne reading_len (k:=k) (j:=1) (x:=x) (y:=⟨x.node,(wrap64 (x.amount+x5/9))⟩) (u:= .int .i64 ((wrap64 (x.amount+x5/9)))) hxk (by omega) rfl
       have hbb:b=b':=by simpa using hA
       subst hbb
       clear hA hn'
       have k5:=hbc' 1 (.int .i64 x.amount) rfl
       have f5:=hbf' (k*2+1)
       have hSn:=hs5.set (p:=⟨b,k*2+1,none⟩) (by show w.heap.size≤b; omega) (by show b≠a; omega) (.int .i64 ((wrap64 (x.amount+x5/9))))
       have hTn:=(hT.trans (Turn.of_only ho5o (fun _=> .inl rfl))).trans (Turn.of_only (S:=(fun b=>b=a∨wo.heap.size≤b)) (g:=b) ((Only.refl b w5).setCell (p:=⟨b,k*2+1,none⟩) rfl (.int .i64 ((wrap64 (x.amount+x5/9))))) (fun _=> .inr hb))
       clear hbc' hbf' hoR
       go_wp2_with fail
       refine ⟨(SameC.refl [] _).drew.trans (SameC.of_only (cs:=[]) ho5 (by simp)),?_⟩
       repeat (go_big_quiet_step (fail))
       refine wpQuiet_nil ?_
       clear k1
       go_wp2_with fail
       refine ⟨((SameC.refl [] _).drew.trans (SameC.of_only (cs:=[]) ho5 (by simp))).setCell (by simp) _,?_⟩
       repeat (go_big_quiet_step (fail))
       refine wpQuiet_nil ?_
       clear ho5 f5 k5
       go_wp2_with fail
       go_roundw
       case rel=>exact ⟨k+1,qs.set k ⟨x.node,(wrap64 (x.amount+x5/9))⟩,by omega,by go_num,hide (by rw [List.length_set]; exact HQL.out),hSn,hoN,hTn⟩
       case measure=>simp [intOf]; omega
      ·go_wp2_with fail
       refine (c_next 30 hSd (by omega) (by omega)).mono ?_
       rintro e w5 ⟨x5,rfl,hx5,hx5',hs5,ho5⟩
       have ho5o:=(Only.refl a wr).drew.trans ho5
       have hoR:=ho.only ho5o (by omega)
       obtain ⟨b',hA,hn',hb',hbl',hbf',hbc',hoN⟩:=hoR.setOne reading_len (k:=k) (j:=1) (x:=x) (y:=⟨x.node,(wrap64 (x.amount+x5/9))⟩) (u:= .int .i64 ((wrap64 (x.amount+x5/9)))) hxk (by omega) rfl
       have hbb:b=b':=by simpa using hA
       subst hbb
       clear hA hn'
       have k5:=hbc' 1 (.int .i64 x.amount) rfl
       have f5:=hbf' (k*2+1)
       have hSn:=hs5.set (p:=⟨b,k*2+1,none⟩) (by show w.heap.size≤b; omega) (by show b≠a; omega) (.int .i64 ((wrap64 (x.amount+x5/9))))
       have hTn:=(hT.trans (Turn.of_only ho5o (fun _=> .inl rfl))).trans (Turn.of_only (S:=(fun b=>b=a∨wo.heap.size≤b)) (g:=b) ((Only.refl b w5).setCell (p:=⟨b,k*2+1,none⟩) rfl (.int .i64 ((wrap64 (x.amount+x5/9))))) (fun _=> .inr hb))
       clear hbc' hbf' hoR
       go_wp2_with fail
       refine ⟨(SameC.refl [] _).drew.trans (SameC.of_only (cs:=[]) ho5 (by simp)),?_⟩
       repeat (go_big_quiet_step (fail))
       refine wpQuiet_nil ?_
       clear k1
       go_wp2_with fail
       refine ⟨(SameC.refl [] _).drew.trans (SameC.of_only (cs:=[]) ho5 (by simp)),?_⟩
       repeat (go_big_quiet_step (fail))
       refine wpQuiet_nil ?_
       go_wp2_with fail
       refine ⟨((SameC.refl [] _).drew.trans (SameC.of_only (cs:=[]) ho5 (by simp))).setCell (by simp) _,?_⟩
       repeat (go_big_quiet_step (fail))
       refine wpQuiet_nil ?_
       clear ho5 f5 k5
       go_wp2_with fail
       go_roundw
       case rel=>exact ⟨k+1,qs.set k ⟨x.node,(wrap64 (x.amount+x5/9))⟩,by omega,by go_num,hide (by rw [List.length_set]; exact HQL.out),hSn,hoN,hTn⟩
       case measure=>simp [intOf]; omega
     ·have hU:=hD.turn hS hT (fun b hb=>hb)
      clear hD hT
      go_wp2_with (at_builtin; go_must (refine wpList_append_grow rfl _ _ 75 rfl (a+1) 60 _ 1 24 Tryz.underlying75 rs_info' rfl (by decide) RS.cells rs_len rs_one (.slice AO rs.length co) (rs) rfl ((hU.more (Ext.alloc _ _)).oo) (some ⟨(wr).heap.size,0,none⟩) 1 1 [(⟨A5,m,c5,qs⟩:RS)] rfl (rs_one_slice (Row.new (wr) 60 [.slice A5 m c5])) (by simp; omega) (by omega) (by simp; omega) ?_))
      intro v7 w7 ho7 hg7
      have hqq:=(ho.lowG (base':=a+1) (by omega)).ext (Ext.alloc wr (.cells #[.slice A5 m c5] 60))
      have hU7:=(hU.more (Ext.alloc wr (.cells #[.slice A5 m c5] 60))).app hg7 ho7 hqq
      clear hU ho hS ho7 hg7 hqq
      go_wp2_with fail
      go_roundw
      case rel=>exact ⟨j-1,rs++[⟨A5,m,c5,qs⟩],by go_num,by simp; omega,hU7⟩
      case measure=>simp [intOf]; omega
   ·have hbz:(z != 0)=true:=by rw [bne_iff_ne]; exact hz0
    have hlb:=hS5.lt
    go_wp2_with fail
    refine (c_next 8 hS5 (by omega) (by omega)).mono ?_
    rintro e wc ⟨x6,rfl,hx6,hx6',hs6,ho6⟩
    by_cases h6:0<x6
    ·have hd6:decide ((0:Int)<x6)=true:=decide_eq_true h6
     have hD6:=(hD.more hx5).draw hs6 ho6
     obtain ⟨w8,hw8⟩:∃w8,w8=wc:=⟨_,rfl⟩
     subst hw8
     have hD8:=hD6
     clear hD6 hD hT5 hS5 ho5 hs6 ho6
     have p0:=hD8.t.var.cell 0
     have p1:=hD8.t.var.cell 1
     simp at p0 p1
     have pl:=hD8.t.var.lt
     have hgg8:=hD8.t.hg
     have hal8:=hD8.t.src.lt
     have hlt8:=hD8.t.lt
     go_wp2_with fail
     refine wp_region_phC [(w2.heap.size,0),(w2.heap.size,1)] [([0,1,2,3,4,5],6),([],7),([8,9,10,11],12)] [] (by kernel_rfl) (by kernel_rfl) (by intro c a w d v h; cases d <;> exact h) ?_
     simp only [wpPhC,pickL,nthO]
     repeat (go_big_quiet_step (fail))
     refine wpQuiet_nil ?_
     clear p0 p1 pl
     have hvl8:=hD8.t.var.lt
     have hsm0:=(SameC.refl [(w2.heap.size,0),(w2.heap.size,1)] w8).drew
     have hDa:=hD8.more (Ext.refl w8).drew
     clear hD8
     go_wp2_with fail
     obtain ⟨bs3,hbs3,hbd3⟩:=(hDa.t.src).code
     refine (c_l29Draw a A n c bs3 w _ hbs3 hbd3 (hDa.t.src).ext (hDa.t.src).le0 (hDa.t.src).src (hDa.t.src).hn).mono ?_
     rintro e w6 ⟨band,percent,price,K,kn,kc,gT,ts,rfl,hnc,hcm,hgT,hoT,hsT,ho6⟩
     clear hbs3 hbd3
     have hD6:=hDa.draw (hDa.t.src.draw ho6 hsT) ho6
     have hsm2:=hsm0.trans (SameC.of_only (cs:=[(w2.heap.size,0),(w2.heap.size,1)]) ho6 (by simp; omega))
     have hgT':a<gT:=by simp at hgT; omega
     clear hDa hsT ho6 hgT
     have q0:=hD6.t.r1.cell 0
     have q1:=hD6.t.r1.cell 1
     simp at q0 q1
     have qf:=hD6.t.r1.frozen
     have ql:=hD6.t.r1.lt
     have t0:=hD6.t.r2.cell 0
     have t1:=hD6.t.r2.cell 1
     have t2:=hD6.t.r2.cell 2
     have t3:=hD6.t.r2.cell 3
     simp at t0 t1 t2 t3
     have tf:=hD6.t.r2.frozen
     have tl:=hD6.t.r2.lt
     go_wp2_with fail
     refine ⟨hsm2,?_⟩
     repeat (go_big_quiet_step (fail))
     refine wpQuiet_nil ?_
     go_wp2_with fail
     refine ⟨((hsm2).setCell (by simp; omega) _).setCell (by simp; omega) _,?_⟩
     repeat (go_big_quiet_step (fail))
     refine wpQuiet_nil ?_
     have hsm3:=(hsm2.setCell (p:=⟨w.heap.size,0,none⟩) (by simp; omega) (.slice A1 ns.length c1)).setCell (p:=⟨w.heap.size,1,none⟩) (by simp; omega) (.slice A2 ps.length c2)
     have k1:=turn_put w.heap.size w6 [.slice A1 ns.length c1,.slice A2 ps.length c2] (S:=fun b=>b=w.heap.size∨b=w.heap.size+1) (.inl rfl)
     have k2:=turn_put (w.heap.size+1) (putCells w6 w.heap.size 0 [.slice A1 ns.length c1,.slice A2 ps.length c2]) [.int .i64 band,.int .i64 percent,.int .i64 price,.slice K kn kc] (S:=fun b=>b=w.heap.size∨b=w.heap.size+1) (.inr rfl)
     have kk:=k1.trans k2
     have HF:=hide (hD6.finU HSZ.out hr3 kk ((hoT.slice (fun _=>rfl) hnc hcm).turn kk (fun b hb e=>by have:=(OwnS.blk hoT hb).1; omega)) h band percent price)
     clear hD6 k1 k2 kk hoT
     go_wp2_with fail
     refine ⟨((((hsm3).setCell (by simp; omega) _).setCell (by simp; omega) _).setCell (by simp) _).setCell (by simp) _,?_⟩
     repeat (go_big_quiet_step (fail))
     refine wpQuiet_nil ?_
     go_wp2_with fail
     refine bodyPost_ret (v:= .tuple #[.agg #[.slice A1 ns.length c1,.slice A2 ps.length c2],.slice A3 xs.length c3,.slice A4 L.length c4,.int .i64 h,.slice AO rs.length co,.agg #[.int .i64 band,.int .i64 percent,.int .i64 price,.slice K kn kc]]) (by simp [results,Tryz.results45,go_sem,q0,q1,t0,t1,t2,t3]) rfl ?_
     exact HF.out
    ·have hd6:decide ((0:Int)<x6)=false:=decide_eq_false h6
     have hS6:=hs6
     have ho6':=ho5.only ho6 (by omega)
     have hT6:=hT5.trans (Turn.of_only ho6 (fun _=> .inl rfl))
     clear hx5 ho5 hT5 hS5 hs6 ho6
     have hal0:=(hS6).lt
     have hlw:=hD.t.lt
     obtain ⟨m,HM⟩:∃m,Hid (qs.length=m):=⟨_,hide rfl⟩
     have hm14:m≤14:=by have:=HM.out; omega
     rw [HM.out] at ho6' ⊢
     go_wp2_with fail
     go_loopw [17] (fun i wy=>∃(k:Nat) (qs:List Reading),k≤m∧i= .int .i64 k∧Hid (qs.length=m)∧Src w wy a A n c∧OwnL wy wo.heap.size 176 2 Reading.cells (.slice A5 m c5) qs∧Turn (fun b=>b=a∨wo.heap.size≤b) wo wy) (fun i _=>m-(intOf i).toNat)
     case atStart=>exact ⟨0,qs,Nat.zero_le _,rfl,HM,hS6,ho6',hT6⟩
     case round=>
      clear hS6 ho6' hT6 hal0
      clear HM hql
      obtain ⟨k,qs,hk,rfl,HQL,hS,ho,hT⟩:=hrel
      have hal0:=hS.lt
      by_cases hlt:k<m
      ·obtain ⟨x,hxk⟩:∃x,qs[k]? =some x:=⟨_,List.getElem?_eq_getElem (by have:=HQL.out; omega)⟩
       obtain ⟨b,hA,hn',hb,hbl,hbf,hbc,-⟩:=ho.setOne reading_len (k:=k) (j:=1) (x:=x) (y:=⟨x.node,0⟩) (u:= .int .i64 0) hxk (by omega) rfl
       subst hA
       have k1:=hbc 1 (.int .i64 x.amount) rfl
       clear hbc hbf hn'
       go_wp2_with fail
       refine wp_region_phT [] (.two [0,1,2,3,4,5,7] 6 (.one [] 8 (.one [9,10,11,12] 13 (.last []))) 8 (.one [9] 6 (.one [10,11,12] 13 (.last [])))) (by kernel_rfl) (by kernel_rfl) (by intro c a w d v h; cases d <;> exact h) ?_
       simp only [wpPhT,pickL,nthO]
       repeat (go_big_quiet_step (fail))
       refine wpQuiet_nil ?_
       have hSd:=hS.more (Ext.refl _).drew
       refine ⟨?_,?_⟩
       ·go_wp2_with fail
        refine ⟨(SameC.refl [] _).drew,?_⟩
        repeat (go_big_quiet_step (fail))
        refine wpQuiet_nil ?_
        go_wp2_with fail
        refine (c_next 30 hSd (by omega) (by omega)).mono ?_
        rintro e w5 ⟨x5,rfl,hx5,hx5',hs5,ho5⟩
        have ho5o:=(Only.refl a wr).drew.trans ho5
        have hoR:=ho.only ho5o (by omega)
        obtain ⟨b',hA,hn',hb',hbl',hbf',hbc',hoN⟩:=hoR.setOne reading_len (k:=k) (j:=1) (x:=x) (y:=⟨x.node,(wrap64 (x.amount+x5/9))⟩) (u:= .int .i64 ((wrap64 (x.amount+x5/9)))) hxk (by omega) rfl
        have hbb:b=b':=by simpa using hA
        subst hbb
        clear hA hn'
        have k5:=hbc' 1 (.int .i64 x.amount) rfl
        have f5:=hbf' (k*2+1)
        have hSn:=hs5.set (p:=⟨b,k*2+1,none⟩) (by show w.heap.size≤b; omega) (by show b≠a; omega) (.int .i64 ((wrap64 (x.amount+x5/9))))
        have hTn:=(hT.trans (Turn.of_only ho5o (fun _=> .inl rfl))).trans (Turn.of_only (S:=(fun b=>b=a∨wo.heap.size≤b)) (g:=b) ((Only.refl b w5).setCell (p:=⟨b,k*2+1,none⟩) rfl (.int .i64 ((wrap64 (x.amount+x5/9))))) (fun _=> .inr hb))
        clear hbc' hbf' hoR
        go_wp2_with fail
        refine ⟨(SameC.refl [] _).drew.trans (SameC.of_only (cs:=[]) ho5 (by simp)),?_⟩
        repeat (go_big_quiet_step (fail))
        refine wpQuiet_nil ?_
        clear k1
        go_wp2_with fail
        refine ⟨((SameC.refl [] _).drew.trans (SameC.of_only (cs:=[]) ho5 (by simp))).setCell (by simp) _,?_⟩
        repeat (go_big_quiet_step (fail))
        refine wpQuiet_nil ?_
        clear ho5 f5 k5
        go_wp2_with fail
        go_roundw
        case rel=>exact ⟨k+1,qs.set k ⟨x.node,(wrap64 (x.amount+x5/9))⟩,by omega,by go_num,hide (by rw [List.length_set]; exact HQL.out),hSn,hoN,hTn⟩
        case measure=>simp [intOf]; omega
       ·go_wp2_with fail
        refine (c_next 30 hSd (by omega) (by omega)).mono ?_
        rintro e w5 ⟨x5,rfl,hx5,hx5',hs5,ho5⟩
        have ho5o:=(Only.refl a wr).drew.trans ho5
        have hoR:=ho.only ho5o (by omega)
        obtain ⟨b',hA,hn',hb',hbl',hbf',hbc',hoN⟩:=hoR.setOne reading_len (k:=k) (j:=1) (x:=x) (y:=⟨x.node,(wrap64 (x.amount+x5/9))⟩) (u:= .int .i64 ((wrap64 (x.amount+x5/9)))) hxk (by omega) rfl
        have hbb:b=b':=by simpa using hA
        subst hbb
        clear hA hn'
        have k5:=hbc' 1 (.int .i64 x.amount) rfl
        have f5:=hbf' (k*2+1)
        have hSn:=hs5.set (p:=⟨b,k*2+1,none⟩) (by show w.heap.size≤b; omega) (by show b≠a; omega) (.int .i64 ((wrap64 (x.amount+x5/9))))
        have hTn:=(hT.trans (Turn.of_only ho5o (fun _=> .inl rfl))).trans (Turn.of_only (S:=(fun b=>b=a∨wo.heap.size≤b)) (g:=b) ((Only.refl b w5).setCell (p:=⟨b,k*2+1,none⟩) rfl (.int .i64 ((wrap64 (x.amount+x5/9))))) (fun _=> .inr hb))
        clear hbc' hbf' hoR
        go_wp2_with fail
        refine ⟨(SameC.refl [] _).drew.trans (SameC.of_only (cs:=[]) ho5 (by simp)),?_⟩
        repeat (go_big_quiet_step (fail))
        refine wpQuiet_nil ?_
        clear k1
        go_wp2_with fail
        refine ⟨(SameC.refl [] _).drew.trans (SameC.of_only (cs:=[]) ho5 (by simp)),?_⟩
        repeat (go_big_quiet_step (fail))
        refine wpQuiet_nil ?_
        go_wp2_with fail
        refine ⟨((SameC.refl [] _).drew.trans (SameC.of_only (cs:=[]) ho5 (by simp))).setCell (by simp) _,?_⟩
        repeat (go_big_quiet_step (fail))
        refine wpQuiet_nil ?_
        clear ho5 f5 k5
        go_wp2_with fail
        go_roundw
        case rel=>exact ⟨k+1,qs.set k ⟨x.node,(wrap64 (x.amount+x5/9))⟩,by omega,by go_num,hide (by rw [List.length_set]; exact HQL.out),hSn,hoN,hTn⟩
        case measure=>simp [intOf]; omega
      ·have hU:=hD.turn hS hT (fun b hb=>hb)
       clear hD hT
       go_wp2_with (at_builtin; go_must (refine wpList_append_grow rfl _ _ 75 rfl (a+1) 60 _ 1 24 Tryz.underlying75 rs_info' rfl (by decide) RS.cells rs_len rs_one (.slice AO rs.length co) (rs) rfl ((hU.more (Ext.alloc _ _)).oo) (some ⟨(wr).heap.size,0,none⟩) 1 1 [(⟨A5,m,c5,qs⟩:RS)] rfl (rs_one_slice (Row.new (wr) 60 [.slice A5 m c5])) (by simp; omega) (by omega) (by simp; omega) ?_))
       intro v7 w7 ho7 hg7
       have hqq:=(ho.lowG (base':=a+1) (by omega)).ext (Ext.alloc wr (.cells #[.slice A5 m c5] 60))
       have hU7:=(hU.more (Ext.alloc wr (.cells #[.slice A5 m c5] 60))).app hg7 ho7 hqq
       clear hU ho hS ho7 hg7 hqq
       go_wp2_with fail
       go_roundw
       case rel=>exact ⟨j-1,rs++[⟨A5,m,c5,qs⟩],by go_num,by simp; omega,hU7⟩
       case measure=>simp [intOf]; omega
  ·obtain rfl:j=0:=by omega
   obtain ⟨w8,hw8⟩:∃w8,w8=wr:=⟨_,rfl⟩
   subst hw8
   have hD8:=hD
   clear hD
   have p0:=hD8.t.var.cell 0
   have p1:=hD8.t.var.cell 1
   simp at p0 p1
   have pl:=hD8.t.var.lt
   have hgg8:=hD8.t.hg
   have hal8:=hD8.t.src.lt
   have hlt8:=hD8.t.lt
   go_wp2_with fail
   refine wp_region_phC [(w2.heap.size,0),(w2.heap.size,1)] [([0,1,2,3,4,5],6),([],7),([8,9,10,11],12)] [] (by kernel_rfl) (by kernel_rfl) (by intro c a w d v h; cases d <;> exact h) ?_
   simp only [wpPhC,pickL,nthO]
   repeat (go_big_quiet_step (fail))
   refine wpQuiet_nil ?_
   clear p0 p1 pl
   have hvl8:=hD8.t.var.lt
   have hsm0:=(SameC.refl [(w2.heap.size,0),(w2.heap.size,1)] w8).drew
   have hDa:=hD8.more (Ext.refl w8).drew
   clear hD8
   go_wp2_with fail
   obtain ⟨bs3,hbs3,hbd3⟩:=(hDa.t.src).code
   refine (c_l29Draw a A n c bs3 w _ hbs3 hbd3 (hDa.t.src).ext (hDa.t.src).le0 (hDa.t.src).src (hDa.t.src).hn).mono ?_
   rintro e w6 ⟨band,percent,price,K,kn,kc,gT,ts,rfl,hnc,hcm,hgT,hoT,hsT,ho6⟩
   clear hbs3 hbd3
   have hD6:=hDa.draw (hDa.t.src.draw ho6 hsT) ho6
   have hsm2:=hsm0.trans (SameC.of_only (cs:=[(w2.heap.size,0),(w2.heap.size,1)]) ho6 (by simp; omega))
   have hgT':a<gT:=by simp at hgT; omega
   clear hDa hsT ho6 hgT
   have q0:=hD6.t.r1.cell 0
   have q1:=hD6.t.r1.cell 1
   simp at q0 q1
   have qf:=hD6.t.r1.frozen
   have ql:=hD6.t.r1.lt
   have t0:=hD6.t.r2.cell 0
   have t1:=hD6.t.r2.cell 1
   have t2:=hD6.t.r2.cell 2
   have t3:=hD6.t.r2.cell 3
   simp at t0 t1 t2 t3
   have tf:=hD6.t.r2.frozen
   have tl:=hD6.t.r2.lt
   go_wp2_with fail
   refine ⟨hsm2,?_⟩
   repeat (go_big_quiet_step (fail))
   refine wpQuiet_nil ?_
   go_wp2_with fail
   refine ⟨((hsm2).setCell (by simp; omega) _).setCell (by simp; omega) _,?_⟩
   repeat (go_big_quiet_step (fail))
   refine wpQuiet_nil ?_
   have hsm3:=(hsm2.setCell (p:=⟨w.heap.size,0,none⟩) (by simp; omega) (.slice A1 ns.length c1)).setCell (p:=⟨w.heap.size,1,none⟩) (by simp; omega) (.slice A2 ps.length c2)
   have k1:=turn_put w.heap.size w6 [.slice A1 ns.length c1,.slice A2 ps.length c2] (S:=fun b=>b=w.heap.size∨b=w.heap.size+1) (.inl rfl)
   have k2:=turn_put (w.heap.size+1) (putCells w6 w.heap.size 0 [.slice A1 ns.length c1,.slice A2 ps.length c2]) [.int .i64 band,.int .i64 percent,.int .i64 price,.slice K kn kc] (S:=fun b=>b=w.heap.size∨b=w.heap.size+1) (.inr rfl)
   have kk:=k1.trans k2
   have HF:=hide (hD6.finU HSZ.out hr3 kk ((hoT.slice (fun _=>rfl) hnc hcm).turn kk (fun b hb e=>by have:=(OwnS.blk hoT hb).1; omega)) h band percent price)
   clear hD6 k1 k2 kk hoT
   go_wp2_with fail
   refine ⟨((((hsm3).setCell (by simp; omega) _).setCell (by simp; omega) _).setCell (by simp) _).setCell (by simp) _,?_⟩
   repeat (go_big_quiet_step (fail))
   refine wpQuiet_nil ?_
   go_wp2_with fail
   refine bodyPost_ret (v:= .tuple #[.agg #[.slice A1 ns.length c1,.slice A2 ps.length c2],.slice A3 xs.length c3,.slice A4 L.length c4,.int .i64 h,.slice AO rs.length co,.agg #[.int .i64 band,.int .i64 percent,.int .i64 price,.slice K kn kc]]) (by simp [results,Tryz.results45,go_sem,q0,q1,t0,t1,t2,t3]) rfl ?_
   exact HF.out
end
end Go.Proofs.YtfkpghdmljjegaaGreat
