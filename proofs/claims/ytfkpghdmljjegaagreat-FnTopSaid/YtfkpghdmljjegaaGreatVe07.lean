/-
  The reference's draw of a network.
-/
import Derived.Test.YtfkpghdmljjegaaGreatVe04
import Derived.Test.YtfkpghdmljjegaaGreatVe06
import Derived.Test.YtfkpghdmljjegaaGreatVe01
import Derived.Test.YtfkpghdmljjegaaGreatVe03
namespace Go.Proofs.YtfkpghdmljjegaaGreat
open Go.RowKit
theorem node_one' (y:Node):∀u∈y.cells,u.oneCell'=true:=by intro u hu; simp [Node.cells] at hu; rcases hu with rfl | rfl | rfl <;> rfl
theorem pipe_one' (y:Pipe):∀u∈y.cells,u.oneCell'=true:=by intro u hu; simp [Pipe.cells] at hu; rcases hu with rfl | rfl | rfl | rfl | rfl <;> rfl
theorem new_one {α:Type} {size:Nat} {f:α→List Value} (hf:∀x,(f x).length=size) (W:World) (t:TypeId) (x:α):SliceOf (W.alloc (.cells (f x).toArray t)) size f (some ⟨W.heap.size,0,none⟩) 1 1 [x]:=by
 have h:RowOf (W.alloc (.cells (f x).toArray t)) W.heap.size t f [x]:=by
  have h0:=Row.new W t (f x)
  unfold RowOf
  rw [List.flatMap_cons,List.flatMap_nil,List.append_nil]
  exact h0
 exact h.slice hf rfl (by omega)
def Short (ns:List Node):Prop:=∀x∈ns,x.name.size≤100
theorem Short.snoc {ns:List Node} (h:Short ns) {x:Node} (hx:x.name.size≤100):Short (ns++[x]):=by
 intro y hy
 rcases List.mem_append.1 hy with hy | hy
 ·exact h y hy
 ·obtain rfl:=List.mem_singleton.1 hy; exact hx
structure NSt (w0 w:World) (a:Nat) (A:Option Addr) (n c:Nat) (v1 v2:Value) (ns:List Node) (ps:List Pipe) (wr:World):Prop where
 lt:a<w.heap.size
 src:Src w0 wr a A n c
 only:Only a w wr
 res:Row wr w.heap.size 45 [.slice none 0 0,.slice none 0 0]
 o1:OwnL wr (w.heap.size+1) 223 3 Node.cells v1 ns
 o2:OwnL wr (w.heap.size+1) 181 5 Pipe.cells v2 ps
 nm:Short ns
def DrawnNet (w0:World) (a:Nat) (A:Option Addr) (n c:Nat) (w:World) (e:Ending) (w':World):Prop:=
 ∃(v1 v2:Value) (ns:List Node) (ps:List Pipe),e= .returned (.agg #[v1,v2])∧Src w0 w' a A n c∧Only a w w'∧OwnL w' (w.heap.size+1) 223 3 Node.cells v1 ns∧OwnL w' (w.heap.size+1) 181 5 Pipe.cells v2 ps∧1≤ns.length∧ns.length≤7∧ps.length≤12∧Short ns
section
variable {w0 w wr wr':World} {a n c:Nat} {A:Option Addr} {v1 v2 v':Value} {ns:List Node} {ps:List Pipe}
theorem NSt.draw (h:NSt w0 w a A n c v1 v2 ns ps wr) (hs:Src w0 wr' a A n c) (ho:Only a wr wr'):NSt w0 w a A n c v1 v2 ns ps wr':=
 have hl:=h.lt
 ⟨h.lt,hs,h.only.trans ho,h.res.only ho (by omega),h.o1.only ho (by omega),h.o2.only ho (by omega),h.nm⟩
theorem NSt.more (h:NSt w0 w a A n c v1 v2 ns ps wr) (hx:Ext wr wr'):NSt w0 w a A n c v1 v2 ns ps wr':=h.draw (h.src.more hx) (Only.of_ext hx a)
theorem NSt.app1 (h:NSt w0 w a A n c v1 v2 ns ps wr) (hg:wr.grownBy wr' v1.ownBlock) {ns':List Node} (ho:OwnL wr' (w.heap.size+1) 223 3 Node.cells v' ns') (hn:Short ns'):NSt w0 w a A n c v' v2 ns' ps wr':=by
 have hl:=h.lt
 have hle:=h.src.le0
 have hb:=fun k (hk:v1.ownBlock=some k)=>h.o1.block_le hk
 refine ⟨h.lt,h.src.grow hg (fun k hk=>by have:=hb k hk; omega),h.only.grown hg (fun k hk=> .inl (by have:=hb k hk; omega)),h.res.grown hg (fun e=>by have:=hb _ e; omega),ho,h.o2.grown hg (fun k hk=> ?_),hn⟩
 exact fun e=>OwnL.apart h.o1 h.o2 (by decide) k hk e
theorem NSt.app2 (h:NSt w0 w a A n c v1 v2 ns ps wr) (hg:wr.grownBy wr' v2.ownBlock) {ps':List Pipe} (ho:OwnL wr' (w.heap.size+1) 181 5 Pipe.cells v' ps'):NSt w0 w a A n c v1 v' ns ps' wr':=by
 have hl:=h.lt
 have hle:=h.src.le0
 have hb:=fun k (hk:v2.ownBlock=some k)=>h.o2.block_le hk
 refine ⟨h.lt,h.src.grow hg (fun k hk=>by have:=hb k hk; omega),h.only.grown hg (fun k hk=> .inl (by have:=hb k hk; omega)),h.res.grown hg (fun e=>by have:=hb _ e; omega),h.o1.grown hg (fun k hk=> ?_),ho,h.nm⟩
 exact fun e=>OwnL.apart h.o2 h.o1 (by decide) k hk e
theorem NSt.fin (h:NSt w0 w a A n c v1 v2 ns ps wr) (h1:1≤ns.length) (h2:ns.length≤7) (h3:ps.length≤12):
  DrawnNet w0 a A n c w (.returned (.agg #[v1,v2])) (putCells wr w.heap.size 0 [v1,v2]):=by
 have hl:=h.lt
 have hle:=h.src.le0
 exact ⟨v1,v2,ns,ps,rfl,h.src.put (by omega) (by omega) _ _,h.only.putNew (Nat.le_refl _) _ _,h.o1.put h.res (by decide) _ _,h.o2.put h.res (by decide) _ _,h1,h2,h3,h.nm⟩
set_option maxHeartbeats 2000000 in
theorem c_l02Draw (h:Src w0 w a A n c):
  Calls Tryz.prog 307 #[.pointer (some ⟨a,0,none⟩)] w (DrawnNet w0 a A n c w):=by
 have hal:=h.lt
 have hle:=h.le0
 have hR:=Row.new w 45 [.slice none 0 0,.slice none 0 0]
 go_enter Tryz.func307,Tryz.ntmps307
 go_wp2_with fail
 refine (c_next 7 (h.more (Ext.alloc _ _)) (by omega) (by omega)).mono ?_
 rintro e w1 ⟨x1,rfl,hx1,hx1',hs1,ho1⟩
 obtain ⟨q,rfl⟩:=Int.eq_ofNat_of_zero_le hx1
 have hq:q≤6:=by omega
 have hz1:=ho1.size
 simp at hz1
 have hD1:NSt w0 w a A n c (.slice (some ⟨w1.heap.size,0,none⟩) 0 0) (.slice (some ⟨w1.heap.size+1,0,none⟩) 0 0) [] [] ((w1.alloc (.cells #[] 223)).alloc (.cells #[] 181)):=by
  refine ⟨hal,(hs1.more (Ext.alloc _ _)).more (Ext.alloc _ _),((((Only.of_ext (Ext.alloc w _) a).trans ho1).trans (Only.of_ext (Ext.alloc _ _) a)).trans (Only.of_ext (Ext.alloc _ _) a)),((hR.only ho1 (by omega)).ext (Ext.alloc _ _)).ext (Ext.alloc _ _),(OwnL.empty w1 _ _ _ _ (by omega)).ext (Ext.alloc _ _),?_,by intro x hx; cases hx⟩
  have h2:=OwnL.empty (w1.alloc (.cells #[] 223)) (w.heap.size+1) 181 5 Pipe.cells (by simp; omega)
  rw [World.size_alloc] at h2
  exact h2
 clear hR hs1 ho1
 have e1:(1:Int)+(q:Int)=((q+1:Nat):Int):=by omega
 go_wp2_with fail
 go_loopw [4,5,6] (fun u1 u2 i wr=>∃(k:Nat) (ns:List Node) (ps:List Pipe),k≤q+1∧i= .int .i64 k∧ns.length=k∧ps.length≤k∧NSt w0 w a A n c u1 u2 ns ps wr) (fun _ _ i _=>q+1-(intOf i).toNat)
 case atStart=>exact ⟨0,[],[],Nat.zero_le _,rfl,rfl,Nat.le_refl _,hD1⟩
 case round=>
  obtain ⟨k,ns,ps,hk,rfl,hns,hps,hD⟩:=hrel
  clear hD1
  have hszr:=hD.res.lt
  by_cases hlt:k<q+1
  ·have d1:decide ((k:Int)<(q:Int)+1)=true:=decide_eq_true (by omega)
   go_wp2_with fail
   refine (c_l02DrawNode k (by omega) hD.src).mono ?_
   rintro e w2 ⟨x,rfl,hxn,hs2,ho2⟩
   have hD2:=hD.draw hs2 ho2
   have hsz2:=hD2.res.lt
   clear hD hs2 ho2
   go_wp2_with (at_builtin; go_must (refine wpList_append_grow rfl _ _ 42 rfl (w.heap.size+1) 223 _ 3 32 Tryz.underlying42 node_info rfl (by decide) Node.cells node_len node_one' _ _ rfl (hD2.o1.ext (Ext.alloc _ _)) _ 1 1 [x] rfl (new_one node_len w2 223 x) (by simp; omega) (by omega) (by first | exact Nat.le_refl _ | omega | (simp; done) | (simp; omega)) ?_))
   intro v3 w3 hown3 hg3
   have hD3:=(hD2.more (Ext.alloc w2 (.cells #[.string x.name,.int .i64 x.low,.int .i64 x.high] 223))).app1 hg3 hown3 (hD2.nm.snoc hxn)
   clear hD2 hown3 hg3
   by_cases h0:k=0
   ·subst h0
    go_wp2_with fail
    go_roundw
    case rel=>exact ⟨1,_,_,by omega,by go_num,by rw [List.length_append,hns]; rfl,by omega,hD3⟩
    case measure=>simp [intOf]
   ·have d2:decide ((0:Int)<(k:Int))=true:=decide_eq_true (by omega)
    go_wp2_with fail
    refine (c_next 16 hD3.src (by omega) (by omega)).mono ?_
    rintro e w4 ⟨x4,rfl,hx4,hx4',hs4,ho4⟩
    have hD4:=hD3.draw hs4 ho4
    clear hD3 hs4 ho4
    by_cases h4:0<x4
    ·have d4:decide (0<x4)=true:=decide_eq_true h4
     go_wp2_with fail
     refine (c_next (k:Int) hD4.src (by omega) (by omega)).mono ?_
     rintro e w5 ⟨x5,rfl,hx5,hx5',hs5,ho5⟩
     have hD5:=hD4.draw hs5 ho5
     clear hD4 hs5 ho5
     go_wp2_with fail
     refine (c_l02DrawPipe x5 k hD5.src).mono ?_
     rintro e w6 ⟨p,rfl,hs6,ho6⟩
     have hD6:=hD5.draw hs6 ho6
     have hsz6:=hD6.res.lt
     clear hD5 hs6 ho6
     go_wp2_with (at_builtin; go_must (refine wpList_append_grow rfl _ _ 43 rfl (w.heap.size+1) 181 _ 5 40 Tryz.underlying43 pipe_info rfl (by decide) Pipe.cells pipe_len pipe_one' _ _ rfl (hD6.o2.ext (Ext.alloc _ _)) _ 1 1 [p] rfl (new_one pipe_len w6 181 p) (by simp; omega) (by omega) (by first | exact Nat.le_refl _ | omega | (simp; done) | (simp; omega)) ?_))
     intro v7 w7 hown7 hg7
     have hD7:=(hD6.more (Ext.alloc w6 (.cells #[.int .i64 p.src,.int .i64 p.dst,.int .i64 p.k,.int .i64 p.volume,.int .i64 p.limit] 181))).app2 hg7 hown7
     clear hD6 hown7 hg7
     go_wp2_with fail
     go_roundw
     case rel=>exact ⟨k+1,_,_,by omega,by go_num,by simp; omega,by simp; omega,hD7⟩
     case measure=>simp [intOf]; omega
    ·have d4:decide (0<x4)=false:=decide_eq_false h4
     go_wp2_with fail
     go_roundw
     case rel=>exact ⟨k+1,_,_,by omega,by go_num,by simp; omega,by omega,hD4⟩
     case measure=>simp [intOf]; omega
  ·obtain rfl:k=q+1:=by omega
   have d1:decide (((q+1:Nat):Int)<(q:Int)+1)=false:=decide_eq_false (by omega)
   go_wp2_with fail
   refine (c_next 3 hD.src (by omega) (by omega)).mono ?_
   rintro e w2 ⟨x2,rfl,hx2,hx2',hs2,ho2⟩
   have hD2:=hD.draw hs2 ho2
   clear hD hs2 ho2
   go_wp2_with fail
   go_loopw [5,7] (fun u2 i wr=>∃(j:Nat) (ps:List Pipe),j≤2∧i= .int .i64 j∧ps.length+j≤9∧NSt w0 w a A n c u4 u2 ns ps wr) (fun _ i _=>(intOf i).toNat)
   case atStart=>
    refine ⟨x2.toNat,ps,by omega,by rw [Int.toNat_of_nonneg hx2],by omega,hD2⟩
   case round=>
    obtain ⟨j,ps,hj,rfl,hps,hD⟩:=hrel
    clear hD2
    have hszr:=hD.res.lt
    by_cases hgo:0<j∧1≤q
    ·obtain ⟨hj0,hq1⟩:=hgo
     have d2:decide ((0:Int)<(j:Int))=true:=decide_eq_true (by omega)
     have d3:decide ((1:Int)<(q:Int)+1)=true:=decide_eq_true (by omega)
     go_wp2_with fail
     refine (c_next ((q:Int)+1) hD.src (by omega) (by omega)).mono ?_
     rintro e w3 ⟨x3,rfl,hx3,hx3',hs3,ho3⟩
     have hD3:=hD.draw hs3 ho3
     clear hD hs3 ho3
     have e2:IntKind.i64.wrap ((q:Int)+1-1)=(q:Int):=by rw [IntWalk.i64_in _ (by omega)]; omega
     go_wp2_with fail
     refine (c_next _ hD3.src (by omega) (by omega)).mono ?_
     rintro e w4 ⟨x4,rfl,hx4,hx4',hs4,ho4⟩
     have hD4:=hD3.draw hs4 ho4
     clear hD3 hs4 ho4
     go_wp2_with fail
     refine (c_l02DrawPipe _ _ hD4.src).mono ?_
     rintro e w6 ⟨p,rfl,hs6,ho6⟩
     have hD6:=hD4.draw hs6 ho6
     have hsz6:=hD6.res.lt
     clear hD4 hs6 ho6
     go_wp2_with (at_builtin; go_must (refine wpList_append_grow rfl _ _ 43 rfl (w.heap.size+1) 181 _ 5 40 Tryz.underlying43 pipe_info rfl (by decide) Pipe.cells pipe_len pipe_one' _ _ rfl (hD6.o2.ext (Ext.alloc _ _)) _ 1 1 [p] rfl (new_one pipe_len w6 181 p) (by simp; omega) (by omega) (by first | exact Nat.le_refl _ | omega | (simp; done) | (simp; omega)) ?_))
     intro v7 w7 hown7 hg7
     have hD7:=(hD6.more (Ext.alloc w6 (.cells #[.int .i64 p.src,.int .i64 p.dst,.int .i64 p.k,.int .i64 p.volume,.int .i64 p.limit] 181))).app2 hg7 hown7
     clear hD6 hown7 hg7
     go_wp2_with fail
     go_roundw
     case rel=>exact ⟨j-1,_,by omega,by go_num,by simp; omega,hD7⟩
     case measure=>simp [intOf]; omega
    ·obtain ⟨A1,c1,e4,_,_⟩:=hD.o1.form
     rw [hns] at e4
     subst e4
     obtain ⟨A2,c2,rfl,_,_⟩:=hD.o2.form
     have hF:=hide (hD.fin (by omega) (by omega) (by omega))
     have r0:=hD.res.cell 0
     have r1:=hD.res.cell 1
     simp at r0 r1
     have f0:=hD.res.frozen 0
     have f1:=hD.res.frozen 1
     clear hD
     by_cases hj0:j=0
     ·subst hj0
      go_wp2_with fail
      refine bodyPost_ret (v:= .agg #[.slice A1 (q+1) c1,.slice A2 ps.length c2]) (by simp [results,Tryz.results307,go_sem,r0,r1]) rfl ?_
      exact hF.out
     ·have d2:decide ((0:Int)<(j:Int))=true:=decide_eq_true (by omega)
      have d3:decide ((1:Int)<(q:Int)+1)=false:=decide_eq_false (by omega)
      go_wp2_with fail
      refine bodyPost_ret (v:= .agg #[.slice A1 (q+1) c1,.slice A2 ps.length c2]) (by simp [results,Tryz.results307,go_sem,r0,r1]) rfl ?_
      exact hF.out
end
end Go.Proofs.YtfkpghdmljjegaaGreat
namespace Go.Proofs.YtfkpghdmljjegaaGreat
open Go.RowKit
section
variable {P:Program}
theorem run_append_zero (w:World) (t ty e:TypeId) (i:TypeInfo) (ht:P.underlying t=some (.slice e)) (hi:P.info? e=some i) (g:Nat) (A:Option Addr) (c:Nat):
  (Builtin.append_ #[t,t] ty #[.slice (some ⟨g,0,none⟩) 0 0,.slice A 0 c]).run P w= .ok (.slice (some ⟨g,0,none⟩) 0 0) w:=by
 cases A <;> simp [Builtin.append_,run_underlying ht,sizeOf,typeInfo,hi,Builtin.lenOf,Builtin.firstCells,storeCells,loadCells,loadCellsFrom]
theorem wpList_append_fresh {α:Type} {ops:Array Oper} {rest:List Oper} {o:Oper} {a:Act} {Q:Exit→Act→World→Prop} {w:World} (hgd:o.guard=none) (s x:Operand) (t:TypeId)
  (ho:o.op= .call {callee:= .builtin .append,args:= #[s,x],argTypes:= #[t,t]}) (base:Nat) (e:TypeId) (z:Value) (size bytes:Nat) (ht:P.underlying t=some (.slice e))
  (hi:(P.info? e).map (fun i=>(i.zero,i.size,i.bytes))=some (some z,size,bytes)) (hzs:z.cells.size=size) (hsz:0<size) (f:α→List Value) (hf:∀y,(f y).length=size) (_:∀y,∀u∈f y,u.oneCell'=true)
  (g:Nat) (hs:a.eval s= .slice (some ⟨g,0,none⟩) 0 0) (hr:Row w g e []) (hbg:base≤g) (A:Option Addr) (m c:Nat) (ys:List α) (hx:a.eval x= .slice A m c) (hsrc:SliceOf w size f A m c ys)
  (hlen:m≤1000000000) (hb:bytes≤10000) (hbase:base≤w.heap.size)
  (h:∀v' w',OwnL w' base e size f v' ys→Ext w w'→wpList P ops Q rest (a.put o.dst v') w'):wpList P ops Q (o::rest) a w:=by
 have hown:OwnL w base e size f (.slice (some ⟨g,0,none⟩) 0 0) []:=⟨by simp,.inr ⟨g,0,#[],rfl,hbg,hr,by simp,by simp,by simp,by simp⟩⟩
 by_cases hm:m=0
 ·subst hm
  have hys:ys=[]:=List.eq_nil_of_length_eq_zero hsrc.1.symm
  subst hys
  obtain ⟨i,hi1,_⟩:=info_parts hi
  exact Lib.wpList_append_run w hgd s x t t ho _ (.slice A 0 c) hs hx _ w (run_append_zero w t o.type e i ht hi1 g A c) (h _ w hown (Ext.refl _))
 ·obtain ⟨i,hi1,hi2,hi3,hi4⟩:=info_parts hi
  obtain ⟨hm1,hc1,hc2,hc3⟩:=hsrc
  obtain ⟨b,off,rfl,hbl,hc⟩:=hc3 (by omega)
  have hnews:∀j u,(ys.flatMap f)[j]? =some u→w.cell? ((⟨b,off,none⟩:Addr).add j)=some u:=by
   intro j u hu
   have hj:j<(ys.flatMap f).length:=(List.getElem?_eq_some_iff.1 hu).1
   rw [flat_len hf] at hj
   have hadd:(Addr.add ⟨b,off,none⟩ j)=⟨b,off+j,none⟩:=by unfold Addr.add; split <;> simp_all
   rw [hadd]
   have hq:j/size<ys.length:=by
    apply Nat.div_lt_of_lt_mul; rw [Nat.mul_comm]; exact hj
   have hy:ys[j/size]? =some ys[j/size]:=List.getElem?_eq_getElem hq
   have hr:j % size<(f ys[j/size]).length:=by rw [hf]; exact Nat.mod_lt _ hsz
   have hu':(f ys[j/size])[j % size]? =some ((f ys[j/size])[j % size]):=List.getElem?_eq_getElem hr
   have hfl:=flat_get hf hy hu'
   have hjj:j/size*size+j % size=j:=by rw [Nat.mul_comm]; exact Nat.div_add_mod j size
   rw [hjj] at hfl
   rw [hfl] at hu
   injection hu with hu
   rw [←hu]
   have:=hc _ _ hy _ _ hu'
   rw [Nat.add_assoc,hjj] at this
   exact this
  have hl:(ys.flatMap f).length=m*i.size:=by rw [flat_len hf,hm1,hi3]
  have hmm:m*i.bytes≤1000000000*10000:=Nat.mul_le_mul hlen (by rw [hi4]; exact hb)
  have hge:=grownCap_ge w m 0 e
  have hcm:=grownCap_le_maxLen w m 0 e (by simp only [maxLen]; omega)
  have hr:=run_append_grow (P:=P) w t o.type e i z ht hi1 hi2 ⟨g,0,none⟩ 0 0 [] (by simp) (by intro j u hu; simp at hu) ⟨b,off,none⟩ m c (ys.flatMap f) hl hnews (by omega) (by omega) (growslice_fits (by omega) (by rw [Nat.zero_add]; omega))
  simp only [Nat.zero_add] at hr
  refine Lib.wpList_append_run w hgd s x t t ho _ (.slice (some ⟨b,off,none⟩) m c) hs hx _ _ hr (h _ _ ⟨by rw [hl,hi3,hm1],.inr ⟨w.heap.size,_,_,by rw [←hm1],hbase,heap_alloc_new w.drew _,by omega,hcm,?_,?_⟩⟩ ((Ext.refl w).drew.and_alloc _))
  ·simp only [Array.size_append,List.size_toArray,size_zeroCells,hzs,hl,hi3,List.length_nil,Nat.zero_add, ←Nat.add_mul]
   congr 1
   omega
  ·simp only [Array.toList_append,List.nil_append]
   rw [←hm1, ←hi3, ←hl]
   exact List.take_left
theorem src_cells {α:Type} {w:World} {size:Nat} {f:α→List Value} {b off m c:Nat} {ys:List α} (hf:∀y,(f y).length=size) (hsz:0<size) (hsrc:SliceOf w size f (some ⟨b,off,none⟩) m c ys):
  ∀j u,(ys.flatMap f)[j]? =some u→w.cell? ((⟨b,off,none⟩:Addr).add j)=some u:=by
 intro j u hu
 have hj:j<(ys.flatMap f).length:=(List.getElem?_eq_some_iff.1 hu).1
 rw [flat_len hf] at hj
 have hadd:(Addr.add ⟨b,off,none⟩ j)=⟨b,off+j,none⟩:=by unfold Addr.add; split <;> simp_all
 rw [hadd]
 have hq:j/size<ys.length:=by
  apply Nat.div_lt_of_lt_mul; rw [Nat.mul_comm]; exact hj
 have hy:ys[j/size]? =some ys[j/size]:=List.getElem?_eq_getElem hq
 have hr:j % size<(f ys[j/size]).length:=by rw [hf]; exact Nat.mod_lt _ hsz
 have hu':(f ys[j/size])[j % size]? =some ((f ys[j/size])[j % size]):=List.getElem?_eq_getElem hr
 have hfl:=flat_get hf hy hu'
 have hjj:j/size*size+j % size=j:=by rw [Nat.mul_comm]; exact Nat.div_add_mod j size
 rw [hjj] at hfl
 rw [hfl] at hu
 injection hu with hu
 rw [←hu]
 obtain ⟨x,hx,hc⟩:=hsrc.at_ (k:=j/size) (by rw [hsrc.1]; exact hq)
 rw [hy] at hx
 injection hx with hx
 subst hx
 have:=hc _ _ hu'
 rw [Nat.add_assoc,hjj] at this
 exact this
theorem run_append_where (w:World) (base:Nat) (t ty e:TypeId) (i:TypeInfo) (z:Value) (ht:P.underlying t=some (.slice e)) (hi:P.info? e=some i) (hz:i.zero=some z)
  (v:Value) (n:Nat) (xs:List Value) (hown:w.ownsRow base e i.size v n xs) (a:Addr) (m c:Nat) (news:List Value) (hl:news.length=m*i.size) (hnews:∀j u,news[j]? =some u→w.cell? (a.add j)=some u) (h1:∀u∈news,u.oneCell'=true)
  (h63:n+m≤maxLen) (hbytes:(n+m)*i.bytes≤140737488355328) (v':Value) (w':World) (h:(Builtin.append_ #[t,t] ty #[v,.slice (some a) m c]).run P w= .ok v' w'):
  ∀k,v'.ownBlock=some k→v.ownBlock=some k∨w.heap.size≤k:=by
 have hsmall:n+m≤9223372036854775807:=by simp only [maxLen] at h63; omega
 intro k hk
 rcases hown.2 with ⟨rfl,rfl⟩ | ⟨g,cap,cur,rfl,hbg,hg,hnc,hcm,hcs,htake⟩
 ·by_cases hm:m=0
  ·subst hm
   have hr:(Builtin.append_ #[t,t] ty #[.slice none 0 0,.slice (some a) 0 c]).run P w= .ok (.slice none 0 0) w:=by
    simp [Builtin.append_,run_underlying ht,sizeOf,typeInfo,hi,Builtin.lenOf,Builtin.firstCells,loadCells,loadCellsFrom]
   rw [hr] at h
   injection h with h _
   subst h
   cases hk
  ·have hr:=run_append_nil (P:=P) w t ty e i z ht hi hz a m c news hl hnews (by omega) (by omega) (by have hb:=hbytes; simp only [Nat.zero_add] at hb; omega)
   rw [hr] at h
   injection h with h _
   subst h
   simp [Value.ownBlock] at hk
   right; omega
 ·by_cases hroom:n+m≤cap
  ·have hfit:n*i.size+news.length≤cur.size:=by rw [hl,hcs, ←Nat.add_mul]; exact Nat.mul_le_mul_right _ hroom
   have hr:=run_append_room (P:=P) w t ty e i ht hi g n cap cur hg a m c news hl hnews h1 hroom hfit
   rw [hr] at h
   injection h with h _
   subst h
   left; exact hk
  ·have holds:∀j u,xs[j]? =some u→w.cell? ((⟨g,0,none⟩:Addr).add j)=some u:=hown.cells (g:=g) rfl
   have hr:=run_append_grow (P:=P) w t ty e i z ht hi hz ⟨g,0,none⟩ n cap xs hown.1 holds a m c news hl hnews (by omega) (by omega) (growslice_fits (by omega) hbytes)
   rw [hr] at h
   injection h with h _
   subst h
   simp [Value.ownBlock] at hk
   right; omega
theorem wpList_append_where {α:Type} {ops:Array Oper} {rest:List Oper} {o:Oper} {a:Act} {Q:Exit→Act→World→Prop} {w:World} (hgd:o.guard=none) (s x:Operand) (t:TypeId)
  (ho:o.op= .call {callee:= .builtin .append,args:= #[s,x],argTypes:= #[t,t]}) (base:Nat) (e:TypeId) (z:Value) (size bytes:Nat) (ht:P.underlying t=some (.slice e))
  (hi:(P.info? e).map (fun i=>(i.zero,i.size,i.bytes))=some (some z,size,bytes)) (hzs:z.cells.size=size) (hsz:0<size) (f:α→List Value) (hf:∀y,(f y).length=size) (h1:∀y,∀u∈f y,u.oneCell'=true)
  (v:Value) (L:List α) (hs:a.eval s=v) (hown:OwnL w base e size f v L) (b off m c:Nat) (ys:List α) (hx:a.eval x= .slice (some ⟨b,off,none⟩) m c) (hsrc:SliceOf w size f (some ⟨b,off,none⟩) m c ys)
  (hlen:L.length+m≤1000000000) (hb:bytes≤10000) (hbase:base≤w.heap.size)
  (h:∀v' w',OwnL w' base e size f v' (L++ys)→w.grownBy w' v.ownBlock→(∀k,v'.ownBlock=some k→v.ownBlock=some k∨w.heap.size≤k)→wpList P ops Q rest (a.put o.dst v') w'):wpList P ops Q (o::rest) a w:=by
 obtain ⟨i,hi1,hi2,hi3,hi4⟩:=info_parts hi
 have hnews:=src_cells hf hsz hsrc
 have hl:(ys.flatMap f).length=m*size:=by rw [flat_len hf,hsrc.1]
 have hone:∀u∈ys.flatMap f,u.oneCell'=true:=fun u hu=>by
  obtain ⟨y,_,hy⟩:=List.mem_flatMap.1 hu
  exact h1 y u hy
 have hby:(L.length+m)*bytes≤140737488355328:=by
  have:(L.length+m)*bytes≤1000000000*10000:=Nat.mul_le_mul hlen hb
  omega
 have h63:L.length+m≤maxLen:=by simp only [maxLen]; omega
 obtain ⟨v',w',hr,h2,h3,_⟩:=run_append_own (P:=P) w base t o.type e i z size bytes ht hi1 hi2 hi3 hi4 hzs hsz v L.length (L.flatMap f) hown ⟨b,off,none⟩ m c (ys.flatMap f) hl hnews hone h63 hby hbase
 refine Lib.wpList_append_run w hgd s x t t ho v (.slice (some ⟨b,off,none⟩) m c) hs hx v' w' hr (h v' w' ?_ h3 (run_append_where w base t o.type e i z ht hi1 hi2 v L.length (L.flatMap f) (by rw [hi3]; exact hown) ⟨b,off,none⟩ m c (ys.flatMap f) (by rw [hi3]; exact hl) hnews hone h63 (by rw [hi4]; exact hby) v' w' hr))
 unfold OwnL
 rw [List.length_append,List.flatMap_append, ←hsrc.1]
 exact h2
end
end Go.Proofs.YtfkpghdmljjegaaGreat
namespace Go.Proofs.YtfkpghdmljjegaaGreat
open Go.RowKit
theorem own_new {α:Type} (W:World) (base:Nat) (t:TypeId) (size:Nat) (f:α→List Value) (g:Nat) (hg:g=W.heap.size) (hb:base≤g):OwnL (W.alloc (.cells #[] t)) base t size f (.slice (some ⟨g,0,none⟩) 0 0) []:=by
 subst hg; exact OwnL.empty W base t size f hb
end Go.Proofs.YtfkpghdmljjegaaGreat
namespace Go.Proofs.YtfkpghdmljjegaaGreat
open Go.RowKit
theorem int_one' (y:Int):∀u∈intC y,u.oneCell'=true:=by intro u hu; simp [intC] at hu; subst hu; rfl
def EndsIn (N:Nat) (ps:List Pipe):Prop:=∀p∈ps,0≤p.src∧p.src<N∧0≤p.dst∧p.dst<N
theorem netB_facts {ns:List Node} {ps:List Pipe} (h:netB ns ps=true):EndsIn ns.length ps∧1≤ns.length∧ns.length≤24∧ps.length≤40:=by
 simp only [netB,Bool.and_eq_true,decide_eq_true_eq] at h
 obtain ⟨⟨⟨⟨h1,h2⟩,h3⟩,-⟩,h5⟩:=h
 refine ⟨fun p hp=> ?_,h1,h2,h3⟩
 have:=List.all_eq_true.1 h5 p hp
 simp only [pipeB,Bool.and_eq_true,inB_true] at this
 omega
def AtB (ps:List Pipe) (x:Int) (E:List Int):Prop:=∀z∈E,∃(k:Nat) (p:Pipe),z=k∧ps[k]? =some p∧(p.src=x∨p.dst=x)
theorem AtB.nil {ps:List Pipe} {x:Int}:AtB ps x []:=fun z hz=>by cases hz
theorem AtB.snoc {ps:List Pipe} {x:Int} {E:List Int} (h:AtB ps x E) {k:Nat} {p:Pipe} (hk:ps[k]? =some p) (hp:p.src=x∨p.dst=x):AtB ps x (E++[(k:Int)]):=by
 intro z hz
 rcases List.mem_append.1 hz with hz | hz
 ·exact h z hz
 ·obtain rfl:=List.mem_singleton.1 hz; exact ⟨k,p,rfl,hk,hp⟩
def RetI (Q:List Int→Prop) (w:World) (e:Ending) (w':World):Prop:=
 ∃v E,e= .returned v∧OwnL w' w.heap.size 2 1 intC v E∧Hid (Q E)∧Ext w w'
theorem OwnL.lowG {α:Type} {w:World} {base base':Nat} {e:TypeId} {size:Nat} {f:α→List Value} {v:Value} {L:List α} (h:OwnL w base e size f v L) (hb:base'≤base):OwnL w base' e size f v L:=by
 obtain ⟨h1,h2⟩:=h
 refine ⟨h1,?_⟩
 rcases h2 with h2 | ⟨k,cap,cur,hv,hb',r⟩
 ·exact .inl h2
 ·exact .inr ⟨k,cap,cur,hv,by omega,r⟩
def RetB (w:World) (e:Ending) (w':World):Prop:=∃b:Bool,e= .returned (.bool b)∧Ext w w'
def RetN (N:Nat) (w:World) (e:Ending) (w':World):Prop:=∃y:Nat,e= .returned (.int .i64 (y:Int))∧y<N∧Ext w w'
set_option maxHeartbeats 1000000 in
theorem c_l02At (A1 A2:Option Addr) (n1 c1 n2 c2:Nat) (ps:List Pipe) (w:World) (hs2:SliceOf w 5 Pipe.cells A2 n2 c2 ps) (x:Int) (m2:n2≤1048576):
  Calls Tryz.prog 302 #[.agg #[.slice A1 n1 c1,.slice A2 n2 c2],.int .i64 x] w (RetI (fun E=>AtB ps x E∧E.length≤n2) w):=by
 have hB:=Row.new w 45 [.slice A1 n1 c1,.slice A2 n2 c2]
 have hx0:Ext w (w.alloc (.cells #[.slice A1 n1 c1,.slice A2 n2 c2] 45)):=Ext.alloc _ _
 go_enter Tryz.func302,Tryz.ntmps302
 go_wp2_with fail
 go_loopw [5,6] (fun v i wr=>∃(k:Nat) (E:List Int),k≤n2∧i= .int .i64 k∧E.length≤k∧Hid (AtB ps x E)∧OwnL wr (w.heap.size+1) 2 1 intC v E∧Ext (w.alloc (.cells #[.slice A1 n1 c1,.slice A2 n2 c2] 45)) wr) (fun _ i _=>n2-(intOf i).toNat)
 case atStart=>exact ⟨0,[],Nat.zero_le _,rfl,by simp,hide AtB.nil,own_new (w.alloc (.cells #[.slice A1 n1 c1,.slice A2 n2 c2] 45)) (w.heap.size+1) _ _ _ _ (by simp) (by omega),Ext.alloc _ _⟩
 case round=>
  obtain ⟨k,E,hk,rfl,hE,HE,hown,hx⟩:=hrel
  have hxz:=hx.size
  have hbl:=(hB.ext hx).lt
  have hb1:=(hB.ext hx).cell 1
  simp at hb1 hxz
  by_cases hlt:k<n2
  ·obtain ⟨b,off,p,rfl,hb,hxk,hc⟩:=(hs2.ext (hx0.trans hx)).get hlt
   have HK:=hide hxk
   clear hxk
   have hc0:=hc 0 _ rfl
   have hc1:=hc 1 _ rfl
   clear hc
   simp only [Nat.add_zero] at hc0
   cases e0:(p.src==x)
   ·cases e1:(p.dst==x)
    ·go_wp2_with fail
     go_roundw
     case rel=>exact ⟨k+1,E,by omega,by go_num,by omega,HE,hown,hx⟩
     case measure=>simp [intOf]; omega
    ·have HN:=hide (AtB.snoc HE.out HK.out (.inr (by simpa using e1)))
     go_wp2_with (at_builtin; go_must (refine wpList_append_one rfl _ _ 24 rfl (w.heap.size+1) 2 _ 1 8 Tryz.underlying24 int_info rfl (by decide) intC intC_len int_one' _ _ rfl (hown.ext (Ext.alloc _ _)) _ (k:Int) rfl _ rfl (by first | rfl | simp) (by omega) (by omega) (by omega) ?_))
     intro v1 w4 hown4 hext4
     have hx4:=hext4 _ (by simp) (hx.and_alloc _)
     go_wp2_with fail
     go_roundw
     case rel=>exact ⟨k+1,_,by omega,by go_num,by simp; omega,HN,hown4,hx4⟩
     case measure=>simp [intOf]; omega
   ·have HN:=hide (AtB.snoc HE.out HK.out (.inl (by simpa using e0)))
    go_wp2_with (at_builtin; go_must (refine wpList_append_one rfl _ _ 24 rfl (w.heap.size+1) 2 _ 1 8 Tryz.underlying24 int_info rfl (by decide) intC intC_len int_one' _ _ rfl (hown.ext (Ext.alloc _ _)) _ (k:Int) rfl _ rfl (by first | rfl | simp) (by omega) (by omega) (by omega) ?_))
    intro v1 w4 hown4 hext4
    have hx4:=hext4 _ (by simp) (hx.and_alloc _)
    go_wp2_with fail
    go_roundw
    case rel=>exact ⟨k+1,_,by omega,by go_num,by simp; omega,HN,hown4,hx4⟩
    case measure=>simp [intOf]; omega
  ·obtain rfl:n2=k:=by omega
   go_wp2_with fail
   go_ret
   exact ⟨_,E,rfl,hown.lowG (by omega),hide ⟨HE.out,hE⟩,hx0.trans hx⟩
set_option maxHeartbeats 1000000 in
theorem c_l02Other (A1 A2:Option Addr) (n1 c1 n2 c2:Nat) (ps:List Pipe) (w:World) (hs2:SliceOf w 5 Pipe.cells A2 n2 c2 ps) (N:Nat) (hN:N≤1048576) (he:EndsIn N ps) (k:Nat) (p:Pipe) (hk:ps[k]? =some p) (x:Int) (hx:p.src=x∨p.dst=x):
  Calls Tryz.prog 278 #[.agg #[.slice A1 n1 c1,.slice A2 n2 c2],.int .i64 k,.int .i64 x] w (RetN N w):=by
 obtain ⟨W,HW⟩:∃W,Hid ((w.alloc (.cells #[.slice A1 n1 c1,.slice A2 n2 c2] 45))=W):=⟨_,hide rfl⟩
 have hB:Row W w.heap.size 45 [.slice A1 n1 c1,.slice A2 n2 c2]:=by rw [←HW.out]; exact Row.new w 45 [.slice A1 n1 c1,.slice A2 n2 c2]
 have hx0:Ext w W:=by rw [←HW.out]; exact Ext.alloc _ _
 have hkl:k<n2:=by rw [hs2.len]; exact (List.getElem?_eq_some_iff.1 hk).1
 obtain ⟨b,off,p',rfl,hb,hk',hc⟩:=(hs2.ext hx0).get hkl
 have hb1:=hB.cell 1
 simp at hb1
 have hbl:=hB.lt
 obtain rfl:p'=p:=by rw [hk] at hk'; exact (Option.some.inj hk').symm
 have hc0:=hc 0 _ rfl
 have hc1:=hc 1 _ rfl
 clear hc hk'
 simp only [Nat.add_zero] at hc0
 obtain ⟨h1,h2,h3,h4⟩:=he _ (List.mem_of_getElem? hk)
 clear hk
 have e1:IntKind.i64.wrap (p'.src+p'.dst)=p'.src+p'.dst:=IntWalk.i64_in _ (by omega)
 have e2:IntKind.i64.wrap (p'.src+p'.dst-x)=p'.src+p'.dst-x:=IntWalk.i64_in _ (by rcases hx with h | h <;> omega)
 have HX:=hide hx
 clear hx
 go_enter Tryz.func278,Tryz.ntmps278
 go_wp2_with fail
 rw [HW.out]
 refine wp_region_later (by kernel_rfl) (by kernel_rfl) ?_
 repeat (go_big_quiet_step (fail))
 refine wpQuiet_nil ?_
 intro w1 hx1
 go_wp2_with fail
 go_ret
 refine ⟨(p'.src+p'.dst-x).toNat,?_,by rcases HX.out with h | h <;> omega,hx0.trans hx1⟩
 rw [Int.toNat_of_nonneg (by rcases HX.out with h | h <;> omega)]; rfl
set_option maxHeartbeats 1000000 in
theorem c_l02Has (A:Option Addr) (n c:Nat) (L:List Int) (x:Int) (w:World) (hL:SliceOf w 1 intC A n c L) (hn:n≤1048576):
  Calls Tryz.prog 313 #[.slice A n c,.int .i64 x] w (RetB w):=by
 go_enter Tryz.func313,Tryz.ntmps313
 go_wp2_with fail
 go_loop [5] (fun i=>∃k:Nat,k≤n∧i= .int .i64 k) (fun i=>n-(intOf i).toNat)
 case atStart=>exact ⟨0,Nat.zero_le _,rfl⟩
 case round=>
  obtain ⟨k,hk,rfl⟩:=hrel
  by_cases hlt:k<n
  ·obtain ⟨b,off,z,rfl,hb,hxk,hc⟩:=hL.get hlt
   have hc0:=hc 0 _ rfl
   clear hc hxk
   simp only [Nat.add_zero,Nat.mul_one] at hc0
   cases e0:(z==x)
   ·go_wp2_with fail
    go_round
    case rel=>exact ⟨k+1,by omega,by go_num⟩
    case measure=>simp [intOf]; omega
   ·go_wp2_with fail
    go_ret
    exact ⟨true,rfl,Ext.refl _⟩
  ·obtain rfl:n=k:=by omega
   go_wp2_with fail
   go_ret
   exact ⟨false,rfl,Ext.refl _⟩
end Go.Proofs.YtfkpghdmljjegaaGreat
