/-
  The reference's draw of what an hour is settled for.
-/
import Derived.Test.YtfkpghdmljjegaaGreatVe20
import Derived.Test.YtfkpghdmljjegaaGreatVe21
import Derived.Test.YtfkpghdmljjegaaGreatVe34
import Derived.Test.YtfkpghdmljjegaaGreatVe02
namespace Go.Proofs.YtfkpghdmljjegaaGreat
open Go.RowKit
structure TSt (w:World) (a:Nat) (A:Option Addr) (n c g:Nat) (v1 v2 v3 v4 v5:Value) (ns:List Node) (ps:List Pipe) (xs:List Contract) (L:List Nomination) (rs:List Reading) (wr:World):Prop where
 lt:w.heap.size+2≤a
 src:Src w wr a A n c
 r1:Row wr w.heap.size 45 [.slice none 0 0,.slice none 0 0]
 r2:Row wr (w.heap.size+1) 73 [.int .i64 0,.int .i64 0,.int .i64 0,.slice none 0 0]
 var:Row wr g 45 [v1,v2]
 hg:a<g
 o1:OwnL wr (a+1) 223 3 Node.cells v1 ns
 o2:OwnL wr (a+1) 181 5 Pipe.cells v2 ps
 o3:OwnL wr (a+1) 153 8 Contract.cells v3 xs
 o4:OwnL wr (a+1) 157 4 Nomination.cells v4 L
 o5:OwnL wr (a+1) 176 2 Reading.cells v5 rs
section
variable {w wr wr':World} {a n c g:Nat} {A:Option Addr} {v1 v2 v3 v4 v5 v':Value} {ns:List Node} {ps:List Pipe} {xs:List Contract} {L:List Nomination} {rs:List Reading}
theorem TSt.draw (h:TSt w a A n c g v1 v2 v3 v4 v5 ns ps xs L rs wr) (hs:Src w wr' a A n c) (ho:Only a wr wr'):TSt w a A n c g v1 v2 v3 v4 v5 ns ps xs L rs wr':=
 have hl:=h.lt
 have hg:=h.hg
 ⟨h.lt,hs,h.r1.only ho (by omega),h.r2.only ho (by omega),h.var.only ho (by omega),h.hg,h.o1.only ho (by omega),h.o2.only ho (by omega),h.o3.only ho (by omega),h.o4.only ho (by omega),h.o5.only ho (by omega)⟩
theorem TSt.more (h:TSt w a A n c g v1 v2 v3 v4 v5 ns ps xs L rs wr) (hx:Ext wr wr'):TSt w a A n c g v1 v2 v3 v4 v5 ns ps xs L rs wr':=h.draw (h.src.more hx) (Only.of_ext hx a)
theorem TSt.grow (h:TSt w a A n c g v1 v2 v3 v4 v5 ns ps xs L rs wr) (hgr:wr.grownBy wr' v5.ownBlock) {rs':List Reading} (ho:OwnL wr' (a+1) 176 2 Reading.cells v' rs'):TSt w a A n c g v1 v2 v3 v4 v' ns ps xs L rs' wr':=by
 have hl:=h.lt
 have hg:=h.hg
 have hle:=h.src.le0
 have hb:=fun k (hk:v5.ownBlock=some k)=>h.o5.block_le hk
 refine ⟨hl,h.src.grow hgr (fun k hk=>by have:=hb k hk; omega),h.r1.grown hgr (fun e=>by have:=hb _ e; omega),h.r2.grown hgr (fun e=>by have:=hb _ e; omega),h.var.grown hgr (fun e=>h.o5.not_row h.var (by decide) g e rfl),hg,h.o1.grown hgr (fun k hk=> ?_),h.o2.grown hgr (fun k hk=> ?_),h.o3.grown hgr (fun k hk=> ?_),h.o4.grown hgr (fun k hk=> ?_),ho⟩
 ·exact fun e=>OwnL.apart h.o5 h.o1 (by decide) k hk e
 ·exact fun e=>OwnL.apart h.o5 h.o2 (by decide) k hk e
 ·exact fun e=>OwnL.apart h.o5 h.o3 (by decide) k hk e
 ·exact fun e=>OwnL.apart h.o5 h.o4 (by decide) k hk e
theorem TSt.set (h:TSt w a A n c g v1 v2 v3 v4 v5 ns ps xs L rs wr) {k j:Nat} {x y:Reading} {u:Value} (hk:rs[k]? =some x) (hj:j<2) (hy:y.cells=x.cells.set j u):
  ∃b c',v5= .slice (some ⟨b,0,none⟩) rs.length c'∧a<b∧b<wr.heap.size∧b≠g∧(∀i,wr.frozen? ⟨b,i,none⟩=false)∧(∀i v,x.cells[i]? =some v→wr.cell? ⟨b,k*2+i,none⟩=some v)∧TSt w a A n c g v1 v2 v3 v4 v5 ns ps xs L (rs.set k y) (wr.setCell ⟨b,k*2+j,none⟩ u):=by
 obtain ⟨A5,c5,rfl,_⟩:=h.o5.form
 obtain ⟨b,rfl,_,hb,hlt,hf,hc,ho⟩:=h.o5.setOne reading_len hk hj hy
 have hne:b≠g:=fun e=>h.o5.not_row h.var (by decide) b rfl (by rw [e])
 exact ⟨b,c5,rfl,by omega,hlt,hne,hf,hc,h.grow ((Only.refl b wr).setCell rfl u) ho⟩
theorem TSt.other (h:TSt w a A n c g v1 v2 v3 v4 v5 ns ps xs L rs wr) (hx:Ext wr wr') {rs':List Reading} (ho:OwnL wr' (a+1) 176 2 Reading.cells v' rs'):TSt w a A n c g v1 v2 v3 v4 v' ns ps xs L rs' wr':=
 have k:=h.more hx
 ⟨k.lt,k.src,k.r1,k.r2,k.var,k.hg,k.o1,k.o2,k.o3,k.o4,ho⟩
structure ShAt (A1 A2:Option Addr) (n1 c1 n2 c2:Nat) (ns:List Node) (ps:List Pipe) (A3:Option Addr) (n3 c3:Nat) (xs:List Contract) (A4:Option Addr) (n4 c4:Nat) (L:List Nomination) (A5:Option Addr) (n5 c5:Nat) (rs:List Reading) (K:Option Addr) (kn kc:Nat) (ts:List Tier) (w:World):Prop where
 hr:HrAt A1 A2 n1 c1 n2 c2 ns ps A3 n3 c3 xs A4 n4 c4 L w
 rd:SliceOf w 2 Reading.cells A5 n5 c5 rs
 tm:SliceOf w 2 Tier.cells K kn kc ts
def DrawnSH (w:World) (e:Ending) (w':World):Prop:=
 ∃(A1 A2:Option Addr) (n1 c1 n2 c2:Nat) (ns:List Node) (ps:List Pipe) (A3:Option Addr) (n3 c3:Nat) (xs:List Contract) (A4:Option Addr) (n4 c4:Nat) (L:List Nomination) (h:Int) (A5:Option Addr) (n5 c5:Nat) (rs:List Reading) (band percent price:Int) (K:Option Addr) (kn kc:Nat) (ts:List Tier),
  e= .returned (.tuple #[.agg #[.slice A1 n1 c1,.slice A2 n2 c2],.slice A3 n3 c3,.slice A4 n4 c4,.int .i64 h,.slice A5 n5 c5,.agg #[.int .i64 band,.int .i64 percent,.int .i64 price,.slice K kn kc]])∧ShAt A1 A2 n1 c1 n2 c2 ns ps A3 n3 c3 xs A4 n4 c4 L A5 n5 c5 rs K kn kc ts w'∧Ext w w'
structure SzH (ns:List Node) (ps:List Pipe) (xs:List Contract) (L:List Nomination) (rs:List Reading):Prop where
 b1:ns.length≤7
 b2:ps.length≤30
 b3:xs.length≤40
 b4:L.length≤210
 b5:rs.length≤60
 nm:Short ns
theorem TSt.fin {A1 A2 A3 A4 A5:Option Addr} {c1 c2 c3 c4 c5:Nat} (h:TSt w a A n c g (.slice A1 ns.length c1) (.slice A2 ps.length c2) (.slice A3 xs.length c3) (.slice A4 L.length c4) (.slice A5 rs.length c5) ns ps xs L rs wr) (hz:SzH ns ps xs L rs)
  {K:Option Addr} {kn kc gT:Nat} {ts:List Tier} (hoT:OwnS wr gT 70 Tier.cells K kn ts) (hnc:kn≤kc) (hcm:kc≤9223372036854775807) (hgT:a<gT) (band percent price:Int):
  ShAt A1 A2 ns.length c1 ps.length c2 ns ps A3 xs.length c3 xs A4 L.length c4 L A5 rs.length c5 rs K kn kc ts (putCells (putCells wr w.heap.size 0 [.slice A1 ns.length c1,.slice A2 ps.length c2]) (w.heap.size+1) 0 [.int .i64 band,.int .i64 percent,.int .i64 price,.slice K kn kc])∧Ext w (putCells (putCells wr w.heap.size 0 [.slice A1 ns.length c1,.slice A2 ps.length c2]) (w.heap.size+1) 0 [.int .i64 band,.int .i64 percent,.int .i64 price,.slice K kn kc]):=by
 have hl:=h.lt
 have t1:=Turn.of_only (S:=fun b=>b=w.heap.size) ((Only.refl w.heap.size wr).put 0 [.slice A1 ns.length c1,.slice A2 ps.length c2]) (fun _=>rfl)
 have t2:=Turn.of_only (S:=fun b=>b=w.heap.size+1) ((Only.refl (w.heap.size+1) (putCells wr w.heap.size 0 [.slice A1 ns.length c1,.slice A2 ps.length c2])).put 0 [.int .i64 band,.int .i64 percent,.int .i64 price,.slice K kn kc]) (fun _=>rfl)
 have fr:∀ {α:Type} {size:Nat} {f:α→List Value} {A':Option Addr} {n' c':Nat} {l:List α},SliceOf wr size f A' n' c' l→(∀b,blkOf A' n'=some b→a<b)→SliceOf (putCells (putCells wr w.heap.size 0 [.slice A1 ns.length c1,.slice A2 ps.length c2]) (w.heap.size+1) 0 [.int .i64 band,.int .i64 percent,.int .i64 price,.slice K kn kc]) size f A' n' c' l:=fun hs hb=>
  (hs.turn t1 (fun b hb' e=>by have:=hb b hb'; omega)).turn t2 (fun b hb' e=>by have:=hb b hb'; omega)
 refine ⟨⟨⟨fr (h.o1.slE node_len (by have:=hz.b1; omega)) (fun b hb=>h.o1.block_le (own_blkD hb)),fr (h.o2.slE pipe_len (by have:=hz.b2; omega)) (fun b hb=>h.o2.block_le (own_blkD hb)),fr (h.o3.slE contract_len (by have:=hz.b3; omega)) (fun b hb=>h.o3.block_le (own_blkD hb)),fr (h.o4.slE nomination_len (by have:=hz.b4; omega)) (fun b hb=>h.o4.block_le (own_blkD hb)),fun x hx=>Nat.le_trans (hz.nm x hx) (by omega),hz.b1,hz.b2,hz.b3,hz.b4⟩,fr (h.o5.slE reading_len (by have:=hz.b5; omega)) (fun b hb=>h.o5.block_le (own_blkD hb)),fr (hoT.slice (fun _=>rfl) hnc hcm) (fun b hb=>by have:=(OwnS.blk hoT hb).1; omega)⟩,(h.src.ext.put (Nat.le_refl _) _ _).put (by omega) _ _⟩
theorem blk_isD {g n b:Nat} (h:blkOf (some ⟨g,0,none⟩) n=some b):b=g:=by
 unfold blkOf at h
 split at h
 ·cases h
 ·simpa using h.symm
theorem TSt.finT {A1 A2 A3 A4:Option Addr} {c1 c2 c3 c4:Nat} (h:TSt w a A n c g (.slice A1 ns.length c1) (.slice A2 ps.length c2) (.slice A3 xs.length c3) (.slice A4 L.length c4) v5 ns ps xs L rs wr) (hz:SzH ns ps xs L [])
  {wf:World} (k:Turn (fun b=>b=w.heap.size∨b=w.heap.size+1) wr wf) {A5:Option Addr} {n5 c5:Nat} {rs':List Reading} (hrd:SliceOf wf 2 Reading.cells A5 n5 c5 rs') {K:Option Addr} {kn kc:Nat} {ts:List Tier} (htm:SliceOf wf 2 Tier.cells K kn kc ts):
  ShAt A1 A2 ns.length c1 ps.length c2 ns ps A3 xs.length c3 xs A4 L.length c4 L A5 n5 c5 rs' K kn kc ts wf∧Ext w wf:=by
 have hl:=h.lt
 have fr:∀ {α:Type} {size:Nat} {f:α→List Value} {A':Option Addr} {n' c':Nat} {l:List α},SliceOf wr size f A' n' c' l→(∀b,blkOf A' n'=some b→a<b)→SliceOf wf size f A' n' c' l:=fun hs hb=>
  hs.turn k (fun b hb' e=>by have:=hb b hb'; omega)
 exact ⟨⟨⟨fr (h.o1.slE node_len (by have:=hz.b1; omega)) (fun b hb=>h.o1.block_le (own_blkD hb)),fr (h.o2.slE pipe_len (by have:=hz.b2; omega)) (fun b hb=>h.o2.block_le (own_blkD hb)),fr (h.o3.slE contract_len (by have:=hz.b3; omega)) (fun b hb=>h.o3.block_le (own_blkD hb)),fr (h.o4.slE nomination_len (by have:=hz.b4; omega)) (fun b hb=>h.o4.block_le (own_blkD hb)),fun x hx=>Nat.le_trans (hz.nm x hx) (by omega),hz.b1,hz.b2,hz.b3,hz.b4⟩,hrd,htm⟩,h.src.ext.turn k (fun b hb=>by omega)⟩
theorem TSt.finR {A1 A2 A3 A4:Option Addr} {c1 c2 c3 c4:Nat} (h:TSt w a A n c g (.slice A1 ns.length c1) (.slice A2 ps.length c2) (.slice A3 xs.length c3) (.slice A4 L.length c4) v5 ns ps xs L rs wr) (hz:SzH ns ps xs L [])
  {wf:World} (k:Turn (fun b=>b=w.heap.size∨b=w.heap.size+1) wr wf) {A5:Option Addr} {n5 c5:Nat} {rs':List Reading} (hrd:SliceOf wf 2 Reading.cells A5 n5 c5 rs') {K:Option Addr} {kn kc:Nat} {ts:List Tier} (htm:SliceOf wf 2 Tier.cells K kn kc ts) (hh band percent price:Int):
  DrawnSH w (.returned (.tuple #[.agg #[.slice A1 ns.length c1,.slice A2 ps.length c2],.slice A3 xs.length c3,.slice A4 L.length c4,.int .i64 hh,.slice A5 n5 c5,.agg #[.int .i64 band,.int .i64 percent,.int .i64 price,.slice K kn kc]])) wf:=
 have hf:=h.finT hz k hrd htm
 ⟨A1,A2,ns.length,c1,ps.length,c2,ns,ps,A3,xs.length,c3,xs,A4,L.length,c4,L,hh,A5,n5,c5,rs',band,percent,price,K,kn,kc,ts,rfl,hf.1,hf.2⟩
theorem turn_put (g:Nat) (wr:World) (vs:List Value) {S:Nat→Prop} (hS:S g):Turn S wr (putCells wr g 0 vs):=Turn.of_only ((Only.refl g wr).put 0 vs) (fun _=>hS)
theorem prV_len2 (n1:Nat) (ns:List Node) (ps:List Pipe) (xs:List Contract) (L:List Nomination) (h:Int):(prV n1 ns ps xs L h).1.length≤2*n1:=by
 unfold prV
 split
 ·unfold rfV
  split
  ·split
   ·rename_i q hq
    exact rfR_len hq
   ·simp
  ·simp
 ·simp
theorem rdOneY (y:Reading):∀u∈y.cells,u.oneCell'=true:=by intro u hu; simp [Reading.cells] at hu; rcases hu with rfl | rfl <;> rfl
set_option maxRecDepth 8000 in
set_option maxHeartbeats 8000000 in
theorem c_DrawSettleHour (A:Option Addr) (n c:Nat) (bs:List Int) (w:World) (hbs:SliceOf w 1 byteC A n c bs) (hbd:∀z∈bs,0≤z∧z≤255) (hn:n≤1048576):
  Calls Tryz.prog 74 #[.slice A n c] w (DrawnSH w):=by
 have HD:=hide hbd
 clear hbd
 have hR1:=(Row.new w 45 [.slice none 0 0,.slice none 0 0]).ext (Ext.alloc _ (.cells #[.int .i64 0,.int .i64 0,.int .i64 0,.slice none 0 0] 73))
 have hR2:=Row.newG (W:=w.alloc (.cells #[.slice none 0 0,.slice none 0 0] 45)) (g:=w.heap.size+1) 73 [.int .i64 0,.int .i64 0,.int .i64 0,.slice none 0 0] (by simp)
 have hx0:Ext w ((w.alloc (.cells #[.slice none 0 0,.slice none 0 0] 45)).alloc (.cells #[.int .i64 0,.int .i64 0,.int .i64 0,.slice none 0 0] 73)):=(Ext.alloc _ _).and_alloc _
 go_enter Tryz.func74,Tryz.ntmps74
 go_wp2_with fail
 refine (c_l01From A n c bs _ (hbs.ext hx0) HD.out).mono ?_
 rintro e w1 ⟨a,rfl,ha,ha1,hs1,hx1⟩
 have hX1:=hx0.trans hx1
 have hz:w.heap.size+2≤a:=by simp at ha; omega
 have hS:Src w w1 a A n c:=⟨⟨bs,hbs,HD.out⟩,hn,by omega,hX1,hs1⟩
 have hR1:=hR1.ext hx1
 have hR2:=hR2.ext hx1
 have hSl:=hS.lt
 clear ha ha1 hs1 hx0 hx1 hX1
 go_wp2_with fail
 refine (c_l31Draw hS).mono ?_
 rintro e w2 ⟨v1,v2,v3,v4,ns,ps,xs,L,h,rfl,hO⟩
 have hR1:=hR1.only hO.only (by omega)
 have hR2:=hR2.only hO.only (by omega)
 have hz12:=hO.only.size
 obtain ⟨A1,c1,rfl,-⟩:=hO.o1.sl node_len (by have:=hO.b1; omega)
 obtain ⟨A2,c2,rfl,-⟩:=hO.o2.sl pipe_len (by have:=hO.b2; omega)
 obtain ⟨A3,c3,rfl,-⟩:=hO.o3.sl contract_len (by have:=hO.b3; omega)
 obtain ⟨A4,c4,rfl,-⟩:=hO.o4.sl nomination_len (by have:=hO.b4; omega)
 have HSZ:=hide (show SzH ns ps xs L [] from ⟨hO.b1,hO.b2,hO.b3,hO.b4,by simp,hO.nm⟩)
 obtain ⟨W3,HW3⟩:∃W3,Hid (w2.alloc (.cells #[.slice A1 ns.length c1,.slice A2 ps.length c2] 45)=W3):=⟨_,hide rfl⟩
 have hx3:Ext w2 W3:=by rw [←HW3.out]; exact Ext.alloc _ _
 have hD:TSt w a A n c w2.heap.size (.slice A1 ns.length c1) (.slice A2 ps.length c2) (.slice A3 xs.length c3) (.slice A4 L.length c4) (.slice none 0 0) ns ps xs L [] W3:=⟨hz,hO.src.more hx3,hR1.ext hx3,hR2.ext hx3,by rw [←HW3.out]; exact Row.new w2 _ _,by omega,(hO.o1.lowG (by omega)).ext hx3,(hO.o2.lowG (by omega)).ext hx3,(hO.o3.lowG (by omega)).ext hx3,(hO.o4.lowG (by omega)).ext hx3,OwnL.nil_ _ _ _ _ _⟩
 have hb7:=hO.b1
 clear hO hS hR1 hR2 hx3 hbs
 go_wp2_with fail
 rw [HW3.out]
 refine (c_specPlannedReadings A1 A2 ns.length c1 ps.length c2 ns ps A3 xs.length c3 xs A4 L.length c4 L h _ (hD.o1.slE node_len (by omega)) (hD.o2.slE pipe_len (by have:=HSZ.out.b2; omega)) (hD.o3.slE contract_len (by have:=HSZ.out.b3; omega)) (hD.o4.slE nomination_len (by have:=HSZ.out.b4; omega)) (fun x hx=>Nat.le_trans (HSZ.out.nm x hx) (by omega))).mono ?_
 rintro e w4 ⟨v5,rs,z,rfl,ho5,hx4,HP⟩
 have hrl:rs.length≤14:=by
  have e1:=congrArg (fun q=>q.1.length) HP.out
  have e2:=prV_len2 ns.length ns ps xs L h
  simp only at e1
  omega
 have hal3:=hD.src.lt
 have hD4:TSt w a A n c w2.heap.size (.slice A1 ns.length c1) (.slice A2 ps.length c2) (.slice A3 xs.length c3) (.slice A4 L.length c4) v5 ns ps xs L rs w4:=hD.other hx4 (ho5.lowG (by omega))
 obtain ⟨A5,c5,rfl,-⟩:=ho5.sl reading_len (by omega)
 clear hD ho5 hx4 HP
 by_cases hz0:z=0
 ·subst hz0
  have hgg:=hD4.hg
  go_wp2_with fail
  go_loopw [15] (fun i wr=>∃(k:Nat) (qs:List Reading),k≤rs.length∧i= .int .i64 k∧Hid (qs.length=rs.length)∧TSt w a A n c w2.heap.size (.slice A1 ns.length c1) (.slice A2 ps.length c2) (.slice A3 xs.length c3) (.slice A4 L.length c4) (.slice A5 rs.length c5) ns ps xs L qs wr) (fun i _=>rs.length-(intOf i).toNat)
  case atStart=>exact ⟨0,rs,Nat.zero_le _,rfl,hide rfl,hD4⟩
  case round=>
   clear hD4
   obtain ⟨k,qs,hk,rfl,HQL,hD⟩:=hrel
   by_cases hlt:k<rs.length
   ·obtain ⟨x,hxk⟩:∃x,qs[k]? =some x:=⟨_,List.getElem?_eq_getElem (by have:=HQL.out; omega)⟩
    obtain ⟨b,c',hv2,hb,hbl,hbg,hbf,hbc,-⟩:=hD.set (j:=1) (y:=⟨x.node,0⟩) (u:= .int .i64 0) hxk (by omega) rfl
    injection hv2 with hA2 hnn hcc
    clear hnn
    subst hA2 hcc
    have k1:=hbc 1 (.int .i64 x.amount) rfl
    have hba:=hD.src.lt
    clear hbc
    go_wp2_with fail
    refine wp_region_phT [] (.two [0,1,2,3,4,5,7] 6 (.one [] 8 (.one [9,10,11,12] 13 (.last []))) 8 (.one [] 6 (.one [9,10,11,12] 13 (.last [])))) (by kernel_rfl) (by kernel_rfl) (by intro c a w d v h; cases d <;> exact h) ?_
    simp only [wpPhT,pickL,nthO]
    repeat (go_big_quiet_step (fail))
    refine wpQuiet_nil ?_
    have hDa:=hD.more (Ext.refl _).drew
    clear hD
    refine ⟨?_,?_⟩
    ·go_wp2_with fail
     refine ⟨(SameC.refl [] _).drew,?_⟩
     repeat (go_big_quiet_step (fail))
     refine wpQuiet_nil ?_
     go_wp2_with fail
     refine (c_next 7 hDa.src (by omega) (by omega)).mono ?_
     rintro e w5 ⟨x5,rfl,hx5,hx5',hs5,ho5⟩
     obtain ⟨b',c'',hv5,hb5,hbl5,hbg5,hbf5,hbc5,hD6⟩:=(hDa.draw hs5 ho5).set (j:=1) (y:=⟨x.node,wrap64 (wrap64 (x.amount+x5)-3)⟩) (u:= .int .i64 (wrap64 (wrap64 (x.amount+x5)-3))) hxk (by omega) rfl
     have hbb:b=b':=by simpa using (Value.slice.inj hv5).1
     subst hbb
     clear hv5
     have k5:=hbc5 1 (.int .i64 x.amount) rfl
     have f5:=hbf5 (k*2+1)
     clear hbc5 hbf5 hDa hs5
     go_wp2_with fail
     refine ⟨(SameC.refl [] _).drew.trans (SameC.of_only (cs:=[]) ho5 (by simp)),?_⟩
     repeat (go_big_quiet_step (fail))
     refine wpQuiet_nil ?_
     go_wp2_with fail
     refine ⟨((SameC.refl [] _).drew.trans (SameC.of_only (cs:=[]) ho5 (by simp))).setCell (by simp) _,?_⟩
     repeat (go_big_quiet_step (fail))
     refine wpQuiet_nil ?_
     clear ho5 f5 k5
     go_wp2_with fail
     go_roundw
     case rel=>exact ⟨k+1,qs.set k ⟨x.node,wrap64 (wrap64 (x.amount+x5)-3)⟩,by omega,by go_num,hide (by rw [List.length_set]; exact HQL.out),hD6⟩
     case measure=>simp [intOf]; omega
    ·go_wp2_with fail
     refine (c_next 7 hDa.src (by omega) (by omega)).mono ?_
     rintro e w5 ⟨x5,rfl,hx5,hx5',hs5,ho5⟩
     obtain ⟨b',c'',hv5,hb5,hbl5,hbg5,hbf5,hbc5,hD6⟩:=(hDa.draw hs5 ho5).set (j:=1) (y:=⟨x.node,wrap64 (wrap64 (x.amount+x5)-3)⟩) (u:= .int .i64 (wrap64 (wrap64 (x.amount+x5)-3))) hxk (by omega) rfl
     have hbb:b=b':=by simpa using (Value.slice.inj hv5).1
     subst hbb
     clear hv5
     have k5:=hbc5 1 (.int .i64 x.amount) rfl
     have f5:=hbf5 (k*2+1)
     clear hbc5 hbf5 hDa hs5
     go_wp2_with fail
     refine ⟨(SameC.refl [] _).drew.trans (SameC.of_only (cs:=[]) ho5 (by simp)),?_⟩
     repeat (go_big_quiet_step (fail))
     refine wpQuiet_nil ?_
     clear k1
     go_wp2_with fail
     refine ⟨(SameC.refl [] _).drew.trans (SameC.of_only (cs:=[]) ho5 (by simp)),?_⟩
     repeat (go_big_quiet_step (fail))
     refine wpQuiet_nil ?_
     go_wp2_with fail
     refine ⟨((SameC.refl [] _).drew.trans (SameC.of_only (cs:=[]) ho5 (by simp))).setCell (by simp) _,?_⟩
     repeat (go_big_quiet_step (fail))
     refine wpQuiet_nil ?_
     clear ho5 f5 k5
     go_wp2_with fail
     go_roundw
     case rel=>exact ⟨k+1,qs.set k ⟨x.node,wrap64 (wrap64 (x.amount+x5)-3)⟩,by omega,by go_num,hide (by rw [List.length_set]; exact HQL.out),hD6⟩
     case measure=>simp [intOf]; omega
   ·obtain rfl:k=rs.length:=by omega
    clear hk
    go_wp2_with fail
    clear hlt
    refine (c_next 8 hD.src (by omega) (by omega)).mono ?_
    rintro e w5 ⟨x5,rfl,hx5,hx5',hs5,ho5⟩
    have hD5:=hD.draw hs5 ho5
    clear hD hs5 ho5
    by_cases h8:x5=0
    ·subst h8
     clear hx5 hx5'
     have p0:=hD5.var.cell 0
     have p1:=hD5.var.cell 1
     simp at p0 p1
     have pl:=hD5.var.lt
     go_wp2_with fail
     refine (c_next ns.length hD5.src (by omega) (by omega)).mono ?_
     rintro e w7 ⟨x7,rfl,hx7,hx7',hs7,ho7⟩
     have hD7:=hD5.draw hs7 ho7
     clear hD5 hs7 ho7 p0 p1 pl hx7 hx7'
     have hb7':=hD7.src.lt
     go_wp2_with (at_builtin; go_must (refine wpList_append_grow rfl _ _ 60 rfl (a+1) 176 _ 2 16 Tryz.underlying60 reading_info rfl (by decide) Reading.cells reading_len rdOneY (.slice A5 rs.length c5) (qs) rfl (hD7.o5.ext (Ext.alloc _ _)) _ 1 1 [(⟨x7,9⟩:Reading)] rfl (new_one reading_len w7 176 (⟨x7,9⟩:Reading)) (by have:=HQL.out; simp; omega) (by omega) (by simp; omega) ?_))
     intro v8 w8 ho8 hg8
     have hD8:=(hD7.more (Ext.alloc w7 (.cells #[.int .i64 x7,.int .i64 9] 176))).grow hg8 ho8
     have hq8:(qs++[(⟨x7,9⟩:Reading)]).length≤15:=by have:=HQL.out; simp; omega
     clear hD7
     generalize qs++[(⟨x7,9⟩:Reading)]=q8 at *
     obtain ⟨A8,c8,rfl,-⟩:=ho8.form
     clear ho8 hg8
     have p0:=hD8.var.cell 0
     have p1:=hD8.var.cell 1
     simp at p0 p1
     have pl:=hD8.var.lt
     have hgg8:=hD8.hg
     have hal8:=hD8.src.lt
     have hlt8:=hD8.lt
     go_wp2_with fail
     refine wp_region_phC [(w2.heap.size,0),(w2.heap.size,1)] [([0,1,2,3,4,5],6),([],7),([8,9,10,11],12)] [] (by kernel_rfl) (by kernel_rfl) (by intro c a w d v h; cases d <;> exact h) ?_
     simp only [wpPhC,pickL,nthO]
     repeat (go_big_quiet_step (fail))
     refine wpQuiet_nil ?_
     clear p0 p1 pl
     have hvl8:=hD8.var.lt
     have hsm0:=(SameC.refl [(w2.heap.size,0),(w2.heap.size,1)] w8).drew
     have hDa:=hD8.more (Ext.refl w8).drew
     clear hD8
     go_wp2_with fail
     obtain ⟨bs3,hbs3,hbd3⟩:=(hDa.src).code
     refine (c_l29Draw a A n c bs3 w _ hbs3 hbd3 (hDa.src).ext (hDa.src).le0 (hDa.src).src (hDa.src).hn).mono ?_
     rintro e w6 ⟨band,percent,price,K,kn,kc,gT,ts,rfl,hnc,hcm,hgT,hoT,hsT,ho6⟩
     clear hbs3 hbd3
     have hD6:=hDa.draw (hDa.src.draw ho6 hsT) ho6
     have hsm2:=hsm0.trans (SameC.of_only (cs:=[(w2.heap.size,0),(w2.heap.size,1)]) ho6 (by simp; omega))
     have hrd:=hD6.o5.slE reading_len (by omega)
     have hgT':a<gT:=by simp at hgT; omega
     clear hDa hsT ho6 hgT
     have q0:=hD6.r1.cell 0
     have q1:=hD6.r1.cell 1
     simp at q0 q1
     have qf:=hD6.r1.frozen
     have ql:=hD6.r1.lt
     have t0:=hD6.r2.cell 0
     have t1:=hD6.r2.cell 1
     have t2:=hD6.r2.cell 2
     have t3:=hD6.r2.cell 3
     simp at t0 t1 t2 t3
     have tf:=hD6.r2.frozen
     have tl:=hD6.r2.lt
     go_wp2_with fail
     refine ⟨hsm2,?_⟩
     repeat (go_big_quiet_step (fail))
     refine wpQuiet_nil ?_
     go_wp2_with fail
     refine ⟨((hsm2).setCell (by simp; omega) _).setCell (by simp; omega) _,?_⟩
     repeat (go_big_quiet_step (fail))
     refine wpQuiet_nil ?_
     have hsm3:=(hsm2.setCell (p:=⟨w.heap.size,0,none⟩) (by simp; omega) (.slice A1 ns.length c1)).setCell (p:=⟨w.heap.size,1,none⟩) (by simp; omega) (.slice A2 ps.length c2)
     have k1:=turn_put w.heap.size w6 [.slice A1 ns.length c1,.slice A2 ps.length c2] (S:=fun b=>b=w.heap.size∨b=w.heap.size+1) (.inl rfl)
     have k2:=turn_put (w.heap.size+1) (putCells w6 w.heap.size 0 [.slice A1 ns.length c1,.slice A2 ps.length c2]) [.int .i64 band,.int .i64 percent,.int .i64 price,.slice K kn kc] (S:=fun b=>b=w.heap.size∨b=w.heap.size+1) (.inr rfl)
     have kk:=k1.trans k2
     have HF:=hide (hD6.finR HSZ.out kk (hrd.turn kk (fun b hb e=>by have:=hD6.o5.block_le (own_blkD hb); omega)) ((hoT.slice (fun _=>rfl) hnc hcm).turn kk (fun b hb e=>by have:=(OwnS.blk hoT hb).1; omega)) h band percent price)
     clear hD6 k1 k2 kk hrd hoT
     go_wp2_with fail
     refine ⟨((((hsm3).setCell (by simp; omega) _).setCell (by simp; omega) _).setCell (by simp) _).setCell (by simp) _,?_⟩
     repeat (go_big_quiet_step (fail))
     refine wpQuiet_nil ?_
     go_wp2_with fail
     refine bodyPost_ret (v:= .tuple #[.agg #[.slice A1 ns.length c1,.slice A2 ps.length c2],.slice A3 xs.length c3,.slice A4 L.length c4,.int .i64 h,.slice A8 q8.length c8,.agg #[.int .i64 band,.int .i64 percent,.int .i64 price,.slice K kn kc]]) (by simp [results,Tryz.results74,go_sem,q0,q1,t0,t1,t2,t3]) rfl ?_
     exact HF.out
    ·have b8:(x5==0)=false:=by rw [beq_eq_false_iff_ne]; exact h8
     obtain ⟨q8,hq8q,hq8l⟩:∃q8,q8=qs∧q8.length=rs.length:=⟨qs,rfl,HQL.out⟩
     subst hq8q
     have hq8:q8.length≤15:=by omega
     rw [←hq8l] at hD5 ⊢
     obtain ⟨w8,hw8⟩:∃w8,w8=w5:=⟨_,rfl⟩
     subst hw8
     obtain ⟨A8,hA8⟩:∃A8,A8=A5:=⟨_,rfl⟩
     obtain ⟨c8,hc8⟩:∃c8,c8=c5:=⟨_,rfl⟩
     subst hA8 hc8
     have hD8:=hD5
     clear hD5 hq8l
     have p0:=hD8.var.cell 0
     have p1:=hD8.var.cell 1
     simp at p0 p1
     have pl:=hD8.var.lt
     have hgg8:=hD8.hg
     have hal8:=hD8.src.lt
     have hlt8:=hD8.lt
     go_wp2_with fail
     refine wp_region_phC [(w2.heap.size,0),(w2.heap.size,1)] [([0,1,2,3,4,5],6),([],7),([8,9,10,11],12)] [] (by kernel_rfl) (by kernel_rfl) (by intro c a w d v h; cases d <;> exact h) ?_
     simp only [wpPhC,pickL,nthO]
     repeat (go_big_quiet_step (fail))
     refine wpQuiet_nil ?_
     clear p0 p1 pl
     have hvl8:=hD8.var.lt
     have hsm0:=(SameC.refl [(w2.heap.size,0),(w2.heap.size,1)] w8).drew
     have hDa:=hD8.more (Ext.refl w8).drew
     clear hD8
     go_wp2_with fail
     obtain ⟨bs3,hbs3,hbd3⟩:=(hDa.src).code
     refine (c_l29Draw a A n c bs3 w _ hbs3 hbd3 (hDa.src).ext (hDa.src).le0 (hDa.src).src (hDa.src).hn).mono ?_
     rintro e w6 ⟨band,percent,price,K,kn,kc,gT,ts,rfl,hnc,hcm,hgT,hoT,hsT,ho6⟩
     clear hbs3 hbd3
     have hD6:=hDa.draw (hDa.src.draw ho6 hsT) ho6
     have hsm2:=hsm0.trans (SameC.of_only (cs:=[(w2.heap.size,0),(w2.heap.size,1)]) ho6 (by simp; omega))
     have hrd:=hD6.o5.slE reading_len (by omega)
     have hgT':a<gT:=by simp at hgT; omega
     clear hDa hsT ho6 hgT
     have q0:=hD6.r1.cell 0
     have q1:=hD6.r1.cell 1
     simp at q0 q1
     have qf:=hD6.r1.frozen
     have ql:=hD6.r1.lt
     have t0:=hD6.r2.cell 0
     have t1:=hD6.r2.cell 1
     have t2:=hD6.r2.cell 2
     have t3:=hD6.r2.cell 3
     simp at t0 t1 t2 t3
     have tf:=hD6.r2.frozen
     have tl:=hD6.r2.lt
     go_wp2_with fail
     refine ⟨hsm2,?_⟩
     repeat (go_big_quiet_step (fail))
     refine wpQuiet_nil ?_
     go_wp2_with fail
     refine ⟨((hsm2).setCell (by simp; omega) _).setCell (by simp; omega) _,?_⟩
     repeat (go_big_quiet_step (fail))
     refine wpQuiet_nil ?_
     have hsm3:=(hsm2.setCell (p:=⟨w.heap.size,0,none⟩) (by simp; omega) (.slice A1 ns.length c1)).setCell (p:=⟨w.heap.size,1,none⟩) (by simp; omega) (.slice A2 ps.length c2)
     have k1:=turn_put w.heap.size w6 [.slice A1 ns.length c1,.slice A2 ps.length c2] (S:=fun b=>b=w.heap.size∨b=w.heap.size+1) (.inl rfl)
     have k2:=turn_put (w.heap.size+1) (putCells w6 w.heap.size 0 [.slice A1 ns.length c1,.slice A2 ps.length c2]) [.int .i64 band,.int .i64 percent,.int .i64 price,.slice K kn kc] (S:=fun b=>b=w.heap.size∨b=w.heap.size+1) (.inr rfl)
     have kk:=k1.trans k2
     have HF:=hide (hD6.finR HSZ.out kk (hrd.turn kk (fun b hb e=>by have:=hD6.o5.block_le (own_blkD hb); omega)) ((hoT.slice (fun _=>rfl) hnc hcm).turn kk (fun b hb e=>by have:=(OwnS.blk hoT hb).1; omega)) h band percent price)
     clear hD6 k1 k2 kk hrd hoT
     go_wp2_with fail
     refine ⟨((((hsm3).setCell (by simp; omega) _).setCell (by simp; omega) _).setCell (by simp) _).setCell (by simp) _,?_⟩
     repeat (go_big_quiet_step (fail))
     refine wpQuiet_nil ?_
     go_wp2_with fail
     refine bodyPost_ret (v:= .tuple #[.agg #[.slice A1 ns.length c1,.slice A2 ps.length c2],.slice A3 xs.length c3,.slice A4 L.length c4,.int .i64 h,.slice A8 q8.length c8,.agg #[.int .i64 band,.int .i64 percent,.int .i64 price,.slice K kn kc]]) (by simp [results,Tryz.results74,go_sem,q0,q1,t0,t1,t2,t3]) rfl ?_
     exact HF.out
 ·have hb:(z != 0)=true:=by rw [bne_iff_ne]; exact hz0
  have p0:=hD4.var.cell 0
  have p1:=hD4.var.cell 1
  simp at p0 p1
  have pl:=hD4.var.lt
  have hgg:=hD4.hg
  have hal4:=hD4.src.lt
  go_wp2_with fail
  clear hb
  refine wp_region_phT [(w2.heap.size,0),(w2.heap.size,1)] (.two [0,1,2,3,4,6] 5 (.one [] 7 (.one [] 8 (.one [9,10,11,12] 13 (.last [])))) 7 (.two [] 5 (.one [] 8 (.one [9,10,11,12] 13 (.last []))) 8 (.one [9,10,11] 5 (.one [12] 13 (.last []))))) (by kernel_rfl) (by kernel_rfl) (by intro c a w d v h; cases d <;> exact h) ?_
  simp only [wpPhT,pickL,nthO]
  repeat (go_big_quiet_step (fail))
  refine wpQuiet_nil ?_
  clear p0 p1 pl
  have hsm0:=(SameC.refl [(w2.heap.size,0),(w2.heap.size,1)] w4).drew
  have hvl:=hD4.var.lt
  have hltw:=hD4.lt
  refine ⟨?_,?_⟩
  ·have hDa:=hD4.more ((Ext.alloc w4 (.cells #[.int .i64 0,.int .i64 3] 176)).drew)
   have hsm1:SameC [(w2.heap.size,0),(w2.heap.size,1)] w4 (w4.alloc (.cells #[.int .i64 0,.int .i64 3] 176)).drew:=SameC.of_ext ((Ext.alloc _ _).drew) (by simp; omega)
   have hrd:SliceOf (w4.alloc (.cells #[.int .i64 0,.int .i64 3] 176)).drew 2 Reading.cells (some ⟨w4.heap.size,0,none⟩) 1 1 [⟨0,3⟩]:=(new_one (f:=Reading.cells) reading_len w4 176 ⟨0,3⟩).ext (Ext.refl _).drew
   clear hD4
   go_wp2_with fail
   refine ⟨hsm1,?_⟩
   repeat (go_big_quiet_step (fail))
   refine wpQuiet_nil ?_
   go_wp2_with fail
   obtain ⟨bs3,hbs3,hbd3⟩:=(hDa.src).code
   refine (c_l29Draw a A n c bs3 w _ hbs3 hbd3 (hDa.src).ext (hDa.src).le0 (hDa.src).src (hDa.src).hn).mono ?_
   rintro e w6 ⟨band,percent,price,K,kn,kc,gT,ts,rfl,hnc,hcm,hgT,hoT,hsT,ho6⟩
   clear hbs3 hbd3
   have hD6:=hDa.draw (hDa.src.draw ho6 hsT) ho6
   have hsm2:=hsm1.trans (SameC.of_only (cs:=[(w2.heap.size,0),(w2.heap.size,1)]) ho6 (by simp; omega))
   have hrd6:=hrd.turn (S:=fun b=>b=a) (Turn.of_only ho6 (fun _=>rfl)) (fun b hb e=>by have:=blk_isD hb; omega)
   have hgT':w4.heap.size<gT:=by simp at hgT; omega
   clear hDa hrd hsT ho6 hgT
   have q0:=hD6.r1.cell 0
   have q1:=hD6.r1.cell 1
   simp at q0 q1
   have qf:=hD6.r1.frozen
   have ql:=hD6.r1.lt
   have t0:=hD6.r2.cell 0
   have t1:=hD6.r2.cell 1
   have t2:=hD6.r2.cell 2
   have t3:=hD6.r2.cell 3
   simp at t0 t1 t2 t3
   have tf:=hD6.r2.frozen
   have tl:=hD6.r2.lt
   go_wp2_with fail
   refine ⟨hsm2,?_⟩
   repeat (go_big_quiet_step (fail))
   refine wpQuiet_nil ?_
   go_wp2_with fail
   refine ⟨((hsm2).setCell (by simp; omega) _).setCell (by simp; omega) _,?_⟩
   repeat (go_big_quiet_step (fail))
   refine wpQuiet_nil ?_
   have hsm3:=(hsm2.setCell (p:=⟨w.heap.size,0,none⟩) (by simp; omega) (.slice A1 ns.length c1)).setCell (p:=⟨w.heap.size,1,none⟩) (by simp; omega) (.slice A2 ps.length c2)
   have k1:=turn_put w.heap.size w6 [.slice A1 ns.length c1,.slice A2 ps.length c2] (S:=fun b=>b=w.heap.size∨b=w.heap.size+1) (.inl rfl)
   have k2:=turn_put (w.heap.size+1) (putCells w6 w.heap.size 0 [.slice A1 ns.length c1,.slice A2 ps.length c2]) [.int .i64 band,.int .i64 percent,.int .i64 price,.slice K kn kc] (S:=fun b=>b=w.heap.size∨b=w.heap.size+1) (.inr rfl)
   have kk:=k1.trans k2
   have HF:=hide (hD6.finR HSZ.out kk (hrd6.turn kk (fun b hb e=>by have:=blk_isD hb; omega)) ((hoT.slice (fun _=>rfl) hnc hcm).turn kk (fun b hb e=>by have:=(OwnS.blk hoT hb).1; omega)) h band percent price)
   clear hD6 k1 k2 kk hrd6 hoT
   go_wp2_with fail
   refine ⟨((((hsm3).setCell (by simp; omega) _).setCell (by simp; omega) _).setCell (by simp) _).setCell (by simp) _,?_⟩
   repeat (go_big_quiet_step (fail))
   refine wpQuiet_nil ?_
   go_wp2_with fail
   refine bodyPost_ret (v:= .tuple #[.agg #[.slice A1 ns.length c1,.slice A2 ps.length c2],.slice A3 xs.length c3,.slice A4 L.length c4,.int .i64 h,.slice (some ⟨w4.heap.size,0,none⟩) 1 1,.agg #[.int .i64 band,.int .i64 percent,.int .i64 price,.slice K kn kc]]) (by simp [results,Tryz.results74,go_sem,q0,q1,t0,t1,t2,t3]) rfl ?_
   exact HF.out
  ·have hDa:=hD4.more (Ext.refl w4).drew
   clear hD4
   go_wp2_with fail
   obtain ⟨bs3,hbs3,hbd3⟩:=(hDa.src).code
   refine (c_l29Draw a A n c bs3 w _ hbs3 hbd3 (hDa.src).ext (hDa.src).le0 (hDa.src).src (hDa.src).hn).mono ?_
   rintro e w6 ⟨band,percent,price,K,kn,kc,gT,ts,rfl,hnc,hcm,hgT,hoT,hsT,ho6⟩
   clear hbs3 hbd3
   have hO6:=(Only.refl a w4).drew.trans ho6
   have hD6:=hDa.draw (hDa.src.draw ho6 hsT) ho6
   have hsm2:=hsm0.trans (SameC.of_only (cs:=[(w2.heap.size,0),(w2.heap.size,1)]) ho6 (by simp; omega))
   have hsz6:=hO6.size
   have hgT':w4.heap.size≤gT:=hgT
   clear hDa hsT ho6 hgT
   go_wp2_with fail
   refine ⟨hsm2,?_⟩
   repeat (go_big_quiet_step (fail))
   refine wpQuiet_nil ?_
   refine ⟨?_,?_⟩
   ·have hrd:SliceOf (w6.alloc (.cells #[.int .i64 0,.int .i64 3] 176)) 2 Reading.cells (some ⟨w6.heap.size,0,none⟩) 1 1 [⟨0,3⟩]:=new_one (f:=Reading.cells) reading_len w6 176 ⟨0,3⟩
    obtain ⟨w7,HW7⟩:∃w7,Hid (w6.alloc (.cells #[.int .i64 0,.int .i64 3] 176)=w7):=⟨_,hide rfl⟩
    have hx7:Ext w6 w7:=by rw [←HW7.out]; exact Ext.alloc _ _
    rw [HW7.out] at hrd
    have hD7:=hD6.more hx7
    have hoT7:=hoT.ext hx7
    have hv6:=hD6.var.lt
    have hsm3:=hsm2.trans (SameC.of_ext (cs:=[(w2.heap.size,0),(w2.heap.size,1)]) hx7 (by simp; omega))
    clear hD6 hoT
    go_wp2_with fail
    rw [HW7.out]
    have q0:=hD7.r1.cell 0
    have q1:=hD7.r1.cell 1
    simp at q0 q1
    have qf:=hD7.r1.frozen
    have ql:=hD7.r1.lt
    have t0:=hD7.r2.cell 0
    have t1:=hD7.r2.cell 1
    have t2:=hD7.r2.cell 2
    have t3:=hD7.r2.cell 3
    simp at t0 t1 t2 t3
    have tf:=hD7.r2.frozen
    have tl:=hD7.r2.lt
    refine ⟨hsm3,?_⟩
    repeat (go_big_quiet_step (fail))
    refine wpQuiet_nil ?_
    go_wp2_with fail
    refine ⟨((hsm3).setCell (by simp; omega) _).setCell (by simp; omega) _,?_⟩
    repeat (go_big_quiet_step (fail))
    refine wpQuiet_nil ?_
    have hsm4:=(hsm3.setCell (p:=⟨w.heap.size,0,none⟩) (by simp; omega) (.slice A1 ns.length c1)).setCell (p:=⟨w.heap.size,1,none⟩) (by simp; omega) (.slice A2 ps.length c2)
    have k1:=turn_put w.heap.size w7 [.slice A1 ns.length c1,.slice A2 ps.length c2] (S:=fun b=>b=w.heap.size∨b=w.heap.size+1) (.inl rfl)
    have k2:=turn_put (w.heap.size+1) (putCells w7 w.heap.size 0 [.slice A1 ns.length c1,.slice A2 ps.length c2]) [.int .i64 band,.int .i64 percent,.int .i64 price,.slice K kn kc] (S:=fun b=>b=w.heap.size∨b=w.heap.size+1) (.inr rfl)
    have kk:=k1.trans k2
    have HF:=hide (hD7.finR HSZ.out kk (hrd.turn kk (fun b hb e=>by have:=blk_isD hb; omega)) ((hoT7.slice (fun _=>rfl) hnc hcm).turn kk (fun b hb e=>by have:=(OwnS.blk hoT7 hb).1; omega)) h band percent price)
    clear hD7 k1 k2 kk hrd hoT7
    go_wp2_with fail
    refine ⟨((((hsm4).setCell (by simp; omega) _).setCell (by simp; omega) _).setCell (by simp) _).setCell (by simp) _,?_⟩
    repeat (go_big_quiet_step (fail))
    refine wpQuiet_nil ?_
    go_wp2_with fail
    refine bodyPost_ret (v:= .tuple #[.agg #[.slice A1 ns.length c1,.slice A2 ps.length c2],.slice A3 xs.length c3,.slice A4 L.length c4,.int .i64 h,.slice (some ⟨w6.heap.size,0,none⟩) 1 1,.agg #[.int .i64 band,.int .i64 percent,.int .i64 price,.slice K kn kc]]) (by simp [results,Tryz.results74,go_sem,q0,q1,t0,t1,t2,t3]) rfl ?_
    exact HF.out
   ·have q0:=hD6.r1.cell 0
    have q1:=hD6.r1.cell 1
    simp at q0 q1
    have qf:=hD6.r1.frozen
    have ql:=hD6.r1.lt
    have t0:=hD6.r2.cell 0
    have t1:=hD6.r2.cell 1
    have t2:=hD6.r2.cell 2
    have t3:=hD6.r2.cell 3
    simp at t0 t1 t2 t3
    have tf:=hD6.r2.frozen
    have tl:=hD6.r2.lt
    go_wp2_with fail
    refine ⟨((hsm2).setCell (by simp; omega) _).setCell (by simp; omega) _,?_⟩
    repeat (go_big_quiet_step (fail))
    refine wpQuiet_nil ?_
    have hsm3:=(hsm2.setCell (p:=⟨w.heap.size,0,none⟩) (by simp; omega) (.slice A1 ns.length c1)).setCell (p:=⟨w.heap.size,1,none⟩) (by simp; omega) (.slice A2 ps.length c2)
    have ho8:=(Only.refl w.heap.size w6).put 0 [.slice A1 ns.length c1,.slice A2 ps.length c2]
    have hr8:=hD6.r2.only ho8 (by omega)
    have k1:=turn_put w.heap.size w6 [.slice A1 ns.length c1,.slice A2 ps.length c2] (S:=fun b=>b=w.heap.size∨b=w.heap.size+1) (.inl rfl)
    have hs8:w6.heap.size≤(putCells w6 w.heap.size 0 [.slice A1 ns.length c1,.slice A2 ps.length c2]).heap.size:=ho8.size
    have hv6:=hD6.var.lt
    obtain ⟨w8,HW8⟩:∃w8,Hid (putCells w6 w.heap.size 0 [.slice A1 ns.length c1,.slice A2 ps.length c2]=w8):=⟨_,hide rfl⟩
    have HW8':Hid ((w6.setCell ⟨w.heap.size,0,none⟩ (.slice A1 ns.length c1)).setCell ⟨w.heap.size,1,none⟩ (.slice A2 ps.length c2)=w8):=HW8
    have y0:((w6.setCell ⟨w.heap.size,0,none⟩ (.slice A1 ns.length c1)).setCell ⟨w.heap.size,1,none⟩ (.slice A2 ps.length c2)).cell? ⟨w.heap.size,0,none⟩=some (.slice A1 ns.length c1):=by simp [go_sem,q0]
    have y1:((w6.setCell ⟨w.heap.size,0,none⟩ (.slice A1 ns.length c1)).setCell ⟨w.heap.size,1,none⟩ (.slice A2 ps.length c2)).cell? ⟨w.heap.size,1,none⟩=some (.slice A2 ps.length c2):=by simp [go_sem,q1]
    rw [HW8'.out] at y0 y1
    rw [HW8.out] at k1 hr8 hs8
    rw [HW8'.out] at hsm3
    rw [HW8'.out]
    clear q0 q1 qf ql t0 t1 t2 t3 tf tl ho8
    go_wp2_with fail
    have hsm4:SameC [(w2.heap.size,0),(w2.heap.size,1)] w4 (w8.alloc (.cells #[.int .i64 0,.int .i64 3] 176)):=hsm3.trans (SameC.of_ext (cs:=[(w2.heap.size,0),(w2.heap.size,1)]) (Ext.alloc _ _) (by simp; omega))
    refine ⟨hsm4,?_⟩
    repeat (go_big_quiet_step (fail))
    refine wpQuiet_nil ?_
    obtain ⟨w9,HW9⟩:∃w9,Hid (w8.alloc (.cells #[.int .i64 0,.int .i64 3] 176)=w9):=⟨_,hide rfl⟩
    have hx9:Ext w8 w9:=by rw [←HW9.out]; exact Ext.alloc _ _
    have hrd:SliceOf w9 2 Reading.cells (some ⟨w8.heap.size,0,none⟩) 1 1 [⟨0,3⟩]:=by rw [←HW9.out]; exact new_one (f:=Reading.cells) reading_len w8 176 ⟨0,3⟩
    rw [HW9.out] at hsm4
    rw [HW9.out]
    have hr9:=hr8.ext hx9
    have t0:=hr9.cell 0
    have t1:=hr9.cell 1
    have t2:=hr9.cell 2
    have t3:=hr9.cell 3
    simp at t0 t1 t2 t3
    have tf:=hr9.frozen
    have tl:=hr9.lt
    have q0:=((Turn.of_ext (S:=fun _=>False) hx9).cell (by omega) (fun e=>e)).trans y0
    have q1:=((Turn.of_ext (S:=fun _=>False) hx9).cell (by omega) (fun e=>e)).trans y1
    have k2:=(k1.trans (Turn.of_ext hx9)).trans (turn_put (w.heap.size+1) w9 [.int .i64 band,.int .i64 percent,.int .i64 price,.slice K kn kc] (S:=fun b=>b=w.heap.size∨b=w.heap.size+1) (.inr rfl))
    have kz:=turn_put (w.heap.size+1) w9 [.int .i64 band,.int .i64 percent,.int .i64 price,.slice K kn kc] (S:=fun b=>b=w.heap.size∨b=w.heap.size+1) (.inr rfl)
    have HF:=hide (hD6.finR HSZ.out k2 (hrd.turn kz (fun b hb e=>by have:=blk_isD hb; omega)) ((hoT.slice (fun _=>rfl) hnc hcm).turn k2 (fun b hb e=>by have:=(OwnS.blk hoT hb).1; omega)) h band percent price)
    clear hD6 k1 k2 kz hrd hoT hr8 hr9
    go_wp2_with fail
    refine ⟨((((hsm4).setCell (by simp; omega) _).setCell (by simp; omega) _).setCell (by simp) _).setCell (by simp) _,?_⟩
    repeat (go_big_quiet_step (fail))
    refine wpQuiet_nil ?_
    go_wp2_with fail
    refine bodyPost_ret (v:= .tuple #[.agg #[.slice A1 ns.length c1,.slice A2 ps.length c2],.slice A3 xs.length c3,.slice A4 L.length c4,.int .i64 h,.slice (some ⟨w8.heap.size,0,none⟩) 1 1,.agg #[.int .i64 band,.int .i64 percent,.int .i64 price,.slice K kn kc]]) (by simp [results,Tryz.results74,go_sem,q0,q1,t0,t1,t2,t3]) rfl ?_
    exact HF.out
end
end Go.Proofs.YtfkpghdmljjegaaGreat
