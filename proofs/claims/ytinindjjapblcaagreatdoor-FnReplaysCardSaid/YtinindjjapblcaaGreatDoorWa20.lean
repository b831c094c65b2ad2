/-
  cloneRoom of the program.
-/
import Derived.Test.YtinindjjapblcaaGreatDoorWa19
import Derived.Deep.Cut
namespace Go.Proofs.YtinindjjapblcaaGreatDoor
open Go.RowKit
theorem OwnA.tag_ne {α β:Type} {w:World} {t t':TypeId} {f:α→List Value} {f':β→List Value} {A A':Option Addr} {n c n' c':Nat} {xs:List α} {ys:List β} (h:OwnA w t f A n c xs) (h':OwnA w t' f' A' n' c' ys) (ht:t≠t') (b:Nat) (hb:blkOf A n=some b):blkOf A' n'≠some b:=by
 intro hb'
 obtain ⟨g,ho,_⟩:=h.own
 obtain ⟨g',ho',_⟩:=h'.own
 obtain ⟨rfl,hn⟩:=ho.blk hb
 obtain ⟨e,hn'⟩:=ho'.blk hb'
 subst e
 obtain ⟨_,r,hr⟩:=ho.2 hn
 obtain ⟨_,r',hr'⟩:=ho'.2 hn'
 unfold Row at hr hr'
 rw [hr] at hr'
 simp at hr'
 exact ht hr'.2
theorem OwnA.row_ne {α:Type} {w:World} {t t':TypeId} {f:α→List Value} {A:Option Addr} {n c:Nat} {xs:List α} {g:Nat} {cs:List Value} (h:OwnA w t f A n c xs) (hr:Row w g t' cs) (ht:t≠t') (b:Nat) (hb:blkOf A n=some b):b≠g:=by
 rintro rfl
 obtain ⟨g',ho,_⟩:=h.own
 obtain ⟨rfl,hn⟩:=ho.blk hb
 obtain ⟨_,r,hr'⟩:=ho.2 hn
 unfold Row at hr hr'
 rw [hr] at hr'
 simp at hr'
 exact ht hr'.2.symm
structure CMid (W0:World) (wx:World) (gO:Nat) (B1 B2 B3 B4:Option Addr) (k1 d1 k2 d2 k3 d3 k4 d4:Nat) (v:Value) (ns:List Node) (ps:List Pipe) (xs:List Contract) (L:List Nomination):Prop where
 lo:W0.heap.size≤gO
 row:Row wx gO 32 [.slice B1 k1 d1,.slice B2 k2 d2,.slice B3 k3 d3,.slice B4 k4 d4,v]
 o1:OwnA wx 147 Node.cells B1 k1 d1 ns
 o2:OwnA wx 149 Pipe.cells B2 k2 d2 ps
 o3:OwnA wx 98 Contract.cells B3 k3 d3 xs
 o4:OwnA wx 79 Nomination.cells B4 k4 d4 L
 l1:∀b,blkOf B1 k1=some b→W0.heap.size≤b
 l2:∀b,blkOf B2 k2=some b→W0.heap.size≤b
 l3:∀b,blkOf B3 k3=some b→W0.heap.size≤b
 l4:∀b,blkOf B4 k4=some b→W0.heap.size≤b
 ext:Ext W0 wx
section
variable {W0 wx wy:World} {gO:Nat} {B1 B2 B3 B4:Option Addr} {k1 d1 k2 d2 k3 d3 k4 d4:Nat} {v:Value} {ns:List Node} {ps:List Pipe} {xs:List Contract} {L:List Nomination}
theorem CMid.ex (h:CMid W0 wx gO B1 B2 B3 B4 k1 d1 k2 d2 k3 d3 k4 d4 v ns ps xs L) (hx:Ext wx wy):CMid W0 wy gO B1 B2 B3 B4 k1 d1 k2 d2 k3 d3 k4 d4 v ns ps xs L:=
 ⟨h.lo,h.row.ext hx,h.o1.ext hx,h.o2.ext hx,h.o3.ext hx,h.o4.ext hx,h.l1,h.l2,h.l3,h.l4,h.ext.trans hx⟩
theorem CMid.turn {S:Nat→Prop} (h:CMid W0 wx gO B1 B2 B3 B4 k1 d1 k2 d2 k3 d3 k4 d4 v ns ps xs L) (k:Turn S wx wy) (hO:¬S gO) (h1:∀b,blkOf B1 k1=some b→¬S b) (h2:∀b,blkOf B2 k2=some b→¬S b) (h3:∀b,blkOf B3 k3=some b→¬S b) (h4:∀b,blkOf B4 k4=some b→¬S b) (hS:∀b,S b→W0.heap.size≤b):CMid W0 wy gO B1 B2 B3 B4 k1 d1 k2 d2 k3 d3 k4 d4 v ns ps xs L:=
 ⟨h.lo,h.row.turn k hO,h.o1.turn k h1,h.o2.turn k h2,h.o3.turn k h3,h.o4.turn k h4,h.l1,h.l2,h.l3,h.l4,h.ext.turn k hS⟩
theorem CMid.put (h:CMid W0 wx gO B1 B2 B3 B4 k1 d1 k2 d2 k3 d3 k4 d4 v ns ps xs L) (u:Value):CMid W0 (wx.setCell ⟨gO,4,none⟩ u) gO B1 B2 B3 B4 k1 d1 k2 d2 k3 d3 k4 d4 u ns ps xs L:=
 ⟨h.lo,h.row.set_ 4 u,h.o1.far (h.o1.row_ne h.row (by decide)) u,h.o2.far (h.o2.row_ne h.row (by decide)) u,h.o3.far (h.o3.row_ne h.row (by decide)) u,h.o4.far (h.o4.row_ne h.row (by decide)) u,h.l1,h.l2,h.l3,h.l4,h.ext.setCell h.lo u⟩
end
theorem OwnL.row_at {α:Type} {w:World} {base:Nat} {e:TypeId} {size:Nat} {f:α→List Value} {v:Value} {L:List α} (h:OwnL w base e size f v L) {k:Nat} (hk:v.ownBlock=some k):∃cs,Row w k e cs:=by
 rcases h.2 with ⟨rfl,_⟩ | ⟨g,cap,cur,rfl,hb,hh,_⟩
 ·simp [Value.ownBlock] at hk
 ·simp [Value.ownBlock] at hk
  subst hk
  exact ⟨cur.toList,by unfold Row; simpa using hh⟩
theorem row_tag {w:World} {g:Nat} {t t':TypeId} {cs cs':List Value} (h:Row w g t cs) (h':Row w g t' cs'):t=t':=by
 unfold Row at h h'
 rw [h] at h'
 simp at h'
 exact h'.2
theorem OwnA.own_ne {α β:Type} {w:World} {t e:TypeId} {f:α→List Value} {A:Option Addr} {n c:Nat} {xs:List α} {base size:Nat} {f':β→List Value} {v:Value} {L:List β} (h:OwnA w t f A n c xs) (ho:OwnL w base e size f' v L) (ht:t≠e) (b:Nat) (hb:blkOf A n=some b):v.ownBlock≠some b:=by
 intro hv
 obtain ⟨g,hs,_⟩:=h.own
 obtain ⟨rfl,hn⟩:=hs.blk hb
 obtain ⟨_,r,hr⟩:=hs.2 hn
 obtain ⟨cs,hr'⟩:=ho.row_at hv
 exact ht (row_tag hr hr')
theorem OwnL.tag_ne {α β:Type} {w:World} {e e':TypeId} {base base' size size':Nat} {f:α→List Value} {f':β→List Value} {v v':Value} {L:List α} {L':List β} (h:OwnL w base e size f v L) (h':OwnL w base' e' size' f' v' L') (ht:e≠e') (k:Nat) (hk:v.ownBlock=some k):v'.ownBlock≠some k:=by
 intro hv
 obtain ⟨cs,hr⟩:=h.row_at hk
 obtain ⟨cs',hr'⟩:=h'.row_at hv
 exact ht (row_tag hr hr')
theorem OwnL.far_ne {α:Type} {w:World} {base:Nat} {e:TypeId} {size:Nat} {f:α→List Value} {v:Value} {L:List α} (h:OwnL w base e size f v L) {p:Addr} (hp:∀k,v.ownBlock=some k→k≠p.block) (u:Value):OwnL (w.setCell p u) base e size f v L:=by
 obtain ⟨h1,h2⟩:=h
 refine ⟨h1,?_⟩
 rcases h2 with h2 | ⟨k,cap,cur,hv,hb,hh,r⟩
 ·exact .inl h2
 ·exact .inr ⟨k,cap,cur,hv,hb,(Below.heap_setCell w p u k (hp k (by rw [hv]; rfl))).trans hh,r⟩
theorem OwnL.base {α:Type} {w:World} {base base':Nat} {e:TypeId} {size:Nat} {f:α→List Value} {v:Value} {L:List α} (h:OwnL w base e size f v L) (hb:base'≤base):OwnL w base' e size f v L:=by
 obtain ⟨h1,h2⟩:=h
 refine ⟨h1,?_⟩
 rcases h2 with h2 | ⟨k,cap,cur,hv,hb',r⟩
 ·exact .inl h2
 ·exact .inr ⟨k,cap,cur,hv,by omega,r⟩
theorem Turn.of_grown {w w':World} {row:Option Nat} (h:w.grownBy w' row):Turn (fun b=>row=some b) w w':=⟨h.os,h.tape,h.output,h.size,fun k hk hne=>h.block k hk (fun e=>hne e.symm)⟩
structure RDone (wr:World) (base:Nat) (v:Value) (rs':List RS) (old:List RS):Prop where
 o5:OwnL wr base 81 1 RS.cells v rs'
 map:rs'.map RS.xs=old.map RS.xs
 o6:∀q∈rs',OwnL wr base 84 2 Reading.cells (.slice q.A q.n q.c) q.xs
 sep:SepL (rs'.map fun q=>blkOf q.A q.n)
 sep2:SepL (rs'.map fun q=>Value.ownBlock (.slice q.A q.n q.c))
theorem OwnL.toA' {α:Type} {w:World} {base:Nat} {t:TypeId} {size:Nat} {f:α→List Value} {A:Option Addr} {n c:Nat} {L:List α} (h:OwnL w base t size f (.slice A n c) L) (hf:∀x,(f x).length=size) (hs:0<size):OwnA w t f A n c L∧∀b,blkOf A n=some b→base≤b:=by
 obtain ⟨A',c',hv,ho,hb⟩:=h.toA hf hs
 injection hv with h1 h2 h3
 subst h1 h2 h3
 exact ⟨ho,hb⟩
theorem sep_snoc {l:List (Option Nat)} {x:Option Nat} (h:SepL l) (hx:∀b,x=some b→some b ∉ l):SepL (l++[x]):=by
 intro i j b hij hi hj
 rcases Nat.lt_or_ge i l.length with h1 | h1
 ·rw [List.getElem?_append_left h1] at hi
  rcases Nat.lt_or_ge j l.length with h2 | h2
  ·rw [List.getElem?_append_left h2] at hj
   exact h i j b hij hi hj
  ·rw [List.getElem?_append_right h2,List.getElem?_singleton] at hj
   split at hj
   ·injection hj with hj; exact hx b hj (List.mem_of_getElem? hi)
   ·cases hj
 ·rw [List.getElem?_append_right h1,List.getElem?_singleton] at hi
  split at hi
  ·injection hi with hi
   rcases Nat.lt_or_ge j l.length with h2 | h2
   ·rw [List.getElem?_append_left h2] at hj
    exact hx b hi (List.mem_of_getElem? hj)
   ·rw [List.getElem?_append_right h2,List.getElem?_singleton] at hj
    split at hj
    ·omega
    ·cases hj
  ·cases hi
theorem rs_one (y:RS):∀u∈y.cells,u.oneCell'=true:=by intro u hu; simp [RS.cells] at hu; subst hu; rfl
theorem rs_info':(Tryz.prog.info? 81).map (fun i=>(i.zero,i.size,i.bytes))=some (some (.slice none 0 0),1,24):=by kernel_rfl
theorem rs_one_slice {w:World} {g:Nat} {A:Option Addr} {n c:Nat} {xs:List Reading} (h:Row w g 81 [.slice A n c]):SliceOf w 1 RS.cells (some ⟨g,0,none⟩) 1 1 [⟨A,n,c,xs⟩]:=
 RowOf.slice (t:=81) (xs:=[(⟨A,n,c,xs⟩:RS)]) (f:=RS.cells) h rs_len rfl (by omega)
theorem RDone.step {wr wa w5:World} {base vn vc qcc:Nat} {VA QA:Option Addr} {rs' old old':List RS} {qx:List Reading} {v5:Value} (hD:RDone wr base (.slice VA vn vc) rs' old) (hxa:Ext wr wa) (oq:OwnL wa wr.heap.size 84 2 Reading.cells (.slice QA qx.length qcc) qx) (hb:base≤wr.heap.size)
  (o5:OwnL w5 base 81 1 RS.cells v5 (rs'++[⟨QA,qx.length,qcc,qx⟩])) (g5:wa.grownBy w5 (Value.ownBlock (.slice VA vn vc))) (hold:old'.map RS.xs=old.map RS.xs++[qx]):RDone w5 base v5 (rs'++[⟨QA,qx.length,qcc,qx⟩]) old':=by
 have ho:=hD.o5.ext hxa
 refine ⟨o5,by rw [List.map_append,hold,hD.map]; rfl,fun q hq=> ?_,?_,?_⟩
 ·rcases List.mem_append.1 hq with hq | hq
  ·exact ((hD.o6 q hq).ext hxa).grown g5 (OwnL.tag_ne ((hD.o6 q hq).ext hxa) ho (by decide))
  ·simp at hq
   subst hq
   exact (oq.base hb).grown g5 (OwnL.tag_ne oq ho (by decide))
 ·rw [List.map_append,List.map_singleton]
  refine sep_snoc hD.sep (fun b hb' hm=> ?_)
  obtain ⟨q,hq,he⟩:=List.mem_map.1 hm
  have h1:=(oq.toA' reading_len (by decide)).2 b hb'
  have h2:=((hD.o6 q hq).toA' reading_len (by decide)).1.lt he
  omega
 ·rw [List.map_append,List.map_singleton]
  refine sep_snoc hD.sep2 (fun b hb' hm=> ?_)
  obtain ⟨q,hq,he⟩:=List.mem_map.1 hm
  have h1:=oq.block_le hb'
  have h2:=(World.ownsRow.lt (hD.o6 q hq) b he).2
  omega
theorem RDone.put {w5:World} {base gO:Nat} {v:Value} {rs' old:List RS} {cs:List Value} (hD:RDone w5 base v rs' old) (hr:Row w5 gO 32 cs) (u:Value):RDone (w5.setCell ⟨gO,4,none⟩ u) base v rs' old:=
 ⟨hD.o5.far_ne (fun k hk e=>OwnL.blk_ne hD.o5 hr (by decide) k hk (by rw [e])) u,hD.map,fun q hq=>(hD.o6 q hq).far_ne (fun k hk e=>OwnL.blk_ne (hD.o6 q hq) hr (by decide) k hk (by rw [e])) u,hD.sep,hD.sep2⟩
theorem take_map {rs:List RS} {k:Nat} {q:RS} (h:rs[k]? =some q):(rs.take (k+1)).map RS.xs=(rs.take k).map RS.xs++[q.xs]:=by rw [List.take_add_one,h,List.map_append]; rfl
structure LRoom (w:World) (lo hi:Nat) (A1 A2 A3 A4 A5:Option Addr) (n1 c1 n2 c2 n3 c3 n4 c4 n5 c5:Nat) (r:Room):Prop where
 own:ROwn w lo hi A1 A2 A3 A4 A5 n1 c1 n2 c2 n3 c3 n4 c4 n5 c5 r
 r5:OwnL w lo 81 1 RS.cells (.slice A5 n5 c5) r.rs
 r6:∀q∈r.rs,OwnL w lo 84 2 Reading.cells (.slice q.A q.n q.c) q.xs
 sep2:SepL (r.rs.map fun q=>Value.ownBlock (.slice q.A q.n q.c))
def RetLR (R:Room) (w:World) (e:Ending) (w':World):Prop:=
 ∃(A1 A2 A3 A4 A5:Option Addr) (n1 c1 n2 c2 n3 c3 n4 c4 n5 c5:Nat) (r':Room),e= .returned (.agg #[.slice A1 n1 c1,.slice A2 n2 c2,.slice A3 n3 c3,.slice A4 n4 c4,.slice A5 n5 c5])∧LRoom w' w.heap.size w'.heap.size A1 A2 A3 A4 A5 n1 c1 n2 c2 n3 c3 n4 c4 n5 c5 r'∧r'.Like R∧Ext w w'
theorem OwnL.set5 {α:Type} {w:World} {base:Nat} {e:TypeId} {size:Nat} {f:α→List Value} {v:Value} {L:List α} (h:OwnL w base e size f v L) {g:Nat} (hg:∀k,v.ownBlock=some k→k≠g) (u0 u1 u2 u3 u4:Value):
  OwnL (((((w.setCell ⟨g,0,none⟩ u0).setCell ⟨g,1,none⟩ u1).setCell ⟨g,2,none⟩ u2).setCell ⟨g,3,none⟩ u3).setCell ⟨g,4,none⟩ u4) base e size f v L:=
 ((((h.far_ne (p:=⟨g,0,none⟩) hg u0).far_ne (p:=⟨g,1,none⟩) hg u1).far_ne (p:=⟨g,2,none⟩) hg u2).far_ne (p:=⟨g,3,none⟩) hg u3).far_ne (p:=⟨g,4,none⟩) hg u4
theorem LRoom.of {w:World} {lo:Nat} {A1 A2 A3 A4 A5:Option Addr} {n1 c1 n2 c2 n3 c3 n4 c4 n5 c5:Nat} {ns:List Node} {ps:List Pipe} {xs:List Contract} {L:List Nomination} {rs:List RS} (o1:OwnA w 147 Node.cells A1 n1 c1 ns) (o2:OwnA w 149 Pipe.cells A2 n2 c2 ps) (o3:OwnA w 98 Contract.cells A3 n3 c3 xs) (o4:OwnA w 79 Nomination.cells A4 n4 c4 L)
  (l1:∀b,blkOf A1 n1=some b→lo≤b) (l2:∀b,blkOf A2 n2=some b→lo≤b) (l3:∀b,blkOf A3 n3=some b→lo≤b) (l4:∀b,blkOf A4 n4=some b→lo≤b)
  (r5:OwnL w lo 81 1 RS.cells (.slice A5 n5 c5) rs) (r6:∀q∈rs,OwnL w lo 84 2 Reading.cells (.slice q.A q.n q.c) q.xs) (sep:SepL (rs.map fun q=>blkOf q.A q.n)) (sep2:SepL (rs.map fun q=>Value.ownBlock (.slice q.A q.n q.c))):LRoom w lo w.heap.size A1 A2 A3 A4 A5 n1 c1 n2 c2 n3 c3 n4 c4 n5 c5 ⟨ns,ps,xs,L,rs⟩:=by
 obtain ⟨o5,l5⟩:=r5.toA' rs_len (by decide)
 have o6:∀q∈rs,OwnA w 84 Reading.cells q.A q.n q.c q.xs:=fun q hq=>((r6 q hq).toA' reading_len (by decide)).1
 have l6:∀q∈rs,∀b,blkOf q.A q.n=some b→lo≤b:=fun q hq=>((r6 q hq).toA' reading_len (by decide)).2
 refine ⟨⟨o1,o2,o3,o4,o5,o6,?_,sep,?_,?_,?_⟩,r5,r6,sep2⟩
 ·exact sepP (o1.tag_ne o2 (by decide)) (o1.tag_ne o3 (by decide)) (o1.tag_ne o4 (by decide)) (o1.tag_ne o5 (by decide)) (o2.tag_ne o3 (by decide)) (o2.tag_ne o4 (by decide)) (o2.tag_ne o5 (by decide)) (o3.tag_ne o4 (by decide)) (o3.tag_ne o5 (by decide)) (o4.tag_ne o5 (by decide))
 ·rintro b hb ⟨q,hq,hqb⟩
  simp only [List.mem_cons,List.not_mem_nil,or_false] at hb
  rcases hb with hb | hb | hb | hb | hb
  ·exact o1.tag_ne (o6 q hq) (by decide) b hb.symm hqb
  ·exact o2.tag_ne (o6 q hq) (by decide) b hb.symm hqb
  ·exact o3.tag_ne (o6 q hq) (by decide) b hb.symm hqb
  ·exact o4.tag_ne (o6 q hq) (by decide) b hb.symm hqb
  ·exact o5.tag_ne (o6 q hq) (by decide) b hb.symm hqb
 ·intro b hb
  simp only [List.mem_cons,List.not_mem_nil,or_false] at hb
  rcases hb with hb | hb | hb | hb | hb
  ·exact ⟨l1 b hb.symm,o1.lt hb.symm⟩
  ·exact ⟨l2 b hb.symm,o2.lt hb.symm⟩
  ·exact ⟨l3 b hb.symm,o3.lt hb.symm⟩
  ·exact ⟨l4 b hb.symm,o4.lt hb.symm⟩
  ·exact ⟨l5 b hb.symm,o5.lt hb.symm⟩
 ·rintro b ⟨q,hq,hqb⟩
  exact ⟨l6 q hq b hqb,(o6 q hq).lt hqb⟩
set_option maxHeartbeats 8000000 in
theorem c_cloneRoom (A1 A2 A3 A4 A5:Option Addr) (n1 c1 n2 c2 n3 c3 n4 c4 n5 c5:Nat) (r:Room) (w:World) (hat:RoomAt w A1 A2 A3 A4 A5 n1 c1 n2 c2 n3 c3 n4 c4 n5 c5 r) (hf:RoomFits r) (m1:n1≤1048576) (m2:n2≤1048576) (m3:n3≤1048576):
  Calls Tryz.prog 93 #[.agg #[.slice A1 n1 c1,.slice A2 n2 c2,.slice A3 n3 c3,.slice A4 n4 c4,.slice A5 n5 c5]] w (RetLR r w):=by
 obtain ⟨W0,HW⟩:∃W0,Hid ((w.alloc (.cells #[.slice A1 n1 c1,.slice A2 n2 c2,.slice A3 n3 c3,.slice A4 n4 c4,.slice A5 n5 c5] 32)).alloc (.cells #[.slice none 0 0,.slice none 0 0,.slice none 0 0,.slice none 0 0,.slice none 0 0] 32)=W0):=⟨_,hide rfl⟩
 have hin:RoomIn W0 w.heap.size A1 A2 A3 A4 A5 n1 c1 n2 c2 n3 c3 n4 c4 n5 c5:=by rw [←HW.out]; exact (RoomIn.new w A1 A2 A3 A4 A5 n1 c1 n2 c2 n3 c3 n4 c4 n5 c5 32).ext (Ext.alloc _ _)
 have x0:Ext w W0:=by rw [←HW.out]; exact (Ext.alloc _ _).and_alloc _
 have hza:W0.heap.size≤w.heap.size+2:=by rw [←HW.out]; simp
 have hzb:w.heap.size+2≤W0.heap.size:=by rw [←HW.out]; simp
 have m4:n4≤1048576:=by have:=hf.L; rw [hat.s4.len]; omega
 obtain ⟨hlt,y0,y1,y2,y3,y4⟩:=hin
 go_enter Tryz.func93,Tryz.ntmps93
 go_wp2_with fail
 rw [HW.out]
 go_cut [3] from 6 (fun s3 wx=>∃gO B1 B2 B3 B4 k1 d1 k2 d2 k3 d3 k4 d4,s3= .pointer (some ⟨gO,0,none⟩)∧CMid W0 wx gO B1 B2 B3 B4 k1 d1 k2 d2 k3 d3 k4 d4 (.slice none 0 0) r.ns r.ps r.xs r.L)
 case first=>
  refine wp_region_phT [(w.heap.size,0),(w.heap.size,1),(w.heap.size,2),(w.heap.size,3)] (.two [0,1,3,4,6,7] 2 (.two [] 5 (.two [] 8 (.one [9] 10 (.one [] 11 (.last []))) 10 (.one [] 8 (.one [9] 11 (.last [])))) 10 (.one [] 5 (.one [] 8 (.one [9] 11 (.last []))))) 10 (.one [] 2 (.one [] 5 (.one [] 8 (.one [9] 11 (.last [])))))) (by kernel_rfl) (by kernel_rfl) (by intro c a w d v h; cases d <;> exact h) ?_
  simp only [wpPhT,pickL,nthO]
  repeat (go_big_quiet_step (fail))
  refine wpQuiet_nil ?_
  have rz:∀X:World,Ext W0 X→SameC [(w.heap.size,0),(w.heap.size,1),(w.heap.size,2),(w.heap.size,3)] W0 X:=fun X hX=>SameC.of_ext hX (by simp; omega)
  have X0:Ext W0 W0.drew:=(Ext.refl W0).drew
  refine ⟨?_,?_⟩
  ·skip
   go_wp2_with fail
   refine (c_cloneNetwork A1 A2 n1 c1 n2 c2 r.ns r.ps _ (hat.s1.ext (x0.trans X0)) (hat.s2.ext (x0.trans X0)) m1 m2).mono ?_
   rintro e w1 ⟨B1,k1,d1,B2,k2,d2,rfl,o1,o2,l1,l2,_,hx1⟩
   have l1:=fun b hb=>Nat.le_trans X0.size (l1 b hb)
   have l2:=fun b hb=>Nat.le_trans X0.size (l2 b hb)
   have X1:=X0.trans hx1
   go_wp2_with fail
   refine ⟨rz _ X1,wpQuiet_nil ⟨?_,?_⟩⟩
   ·skip
    go_wp2_with fail
    refine (c_cloneContract A3 n3 c3 r.xs _ (hat.s3.ext (x0.trans X1)) m3).mono ?_
    rintro e w2 ⟨B3,k3,d3,rfl,o3,l3,hx2⟩
    have o1:=o1.ext hx2
    have o2:=o2.ext hx2
    have l3:=fun b hb=>Nat.le_trans X1.size (l3 b hb)
    have X2:=X1.trans hx2
    go_wp2_with fail
    refine ⟨rz _ X2,wpQuiet_nil ⟨?_,?_⟩⟩
    ·skip
     go_wp2_with fail
     refine (c_cloneNomination A4 n4 c4 r.L _ (hat.s4.ext (x0.trans X2)) m4).mono ?_
     rintro e w3 ⟨B4,k4,d4,rfl,o4,l4,hx3⟩
     have o1:=o1.ext hx3
     have o2:=o2.ext hx3
     have o3:=o3.ext hx3
     have l4:=fun b hb=>Nat.le_trans X2.size (l4 b hb)
     have X3:=X2.trans hx3
     go_wp2_with fail
     refine ⟨rz _ X3,?_⟩
     repeat (go_big_quiet_step (fail))
     refine wpQuiet_nil ?_
     go_wp2_with fail
     have hx4:Ext w3 (w3.alloc (.cells #[.slice none 0 0,.slice none 0 0,.slice none 0 0,.slice none 0 0,.slice none 0 0] 32)):=Ext.alloc _ _
     have rO:=Row.new w3 32 [.slice none 0 0,.slice none 0 0,.slice none 0 0,.slice none 0 0,.slice none 0 0]
     have gO:W0.heap.size≤w3.heap.size:=X3.size
     obtain ⟨w4,hw4⟩:∃w4,(w3.alloc (.cells #[.slice none 0 0,.slice none 0 0,.slice none 0 0,.slice none 0 0,.slice none 0 0] 32))=w4:=⟨_,rfl⟩
     rw [hw4] at hx4 ⊢
     replace rO:Row w4 w3.heap.size 32 [.slice none 0 0,.slice none 0 0,.slice none 0 0,.slice none 0 0,.slice none 0 0]:=by rw [←hw4]; exact rO
     clear hw4
     have o1:=o1.ext hx4
     have o2:=o2.ext hx4
     have o3:=o3.ext hx4
     have o4:=o4.ext hx4
     have X4:=X3.trans hx4
     refine ⟨rz _ X4,wpQuiet_nil ?_⟩
     have q0:=rO.cell 0
     have f0:=rO.frozen 0
     have q1:=rO.cell 1
     have f1:=rO.frozen 1
     have q2:=rO.cell 2
     have f2:=rO.frozen 2
     have q3:=rO.cell 3
     have f3:=rO.frozen 3
     have q4:=rO.cell 4
     have f4:=rO.frozen 4
     have hgl:=rO.lt
     simp only [List.getElem?_cons_zero,List.getElem?_cons_succ] at q0 q1 q2 q3 q4
     have X5:=((((X4.setCell (p:=⟨w3.heap.size,0,none⟩) gO (.slice B1 k1 d1)).setCell (p:=⟨w3.heap.size,1,none⟩) gO (.slice B2 k2 d2)).setCell (p:=⟨w3.heap.size,2,none⟩) gO (.slice B3 k3 d3)).setCell (p:=⟨w3.heap.size,3,none⟩) gO (.slice B4 k4 d4)).setCell (p:=⟨w3.heap.size,4,none⟩) gO (.slice none 0 0)
     go_wp2_with fail
     refine ⟨rz _ X5,wpQuiet_nil ?_⟩
     go_wp2_with fail
     go_meet
     case rel=>exact ⟨_,B1,B2,B3,B4,k1,d1,k2,d2,k3,d3,k4,d4,rfl,⟨gO,((((rO.set_ 0 _).set_ 1 _).set_ 2 _).set_ 3 _).set_ 4 _,o1.set5 (o1.row_ne rO (by decide)) _ _ _ _ _,o2.set5 (o2.row_ne rO (by decide)) _ _ _ _ _,o3.set5 (o3.row_ne rO (by decide)) _ _ _ _ _,o4.set5 (o4.row_ne rO (by decide)) _ _ _ _ _,l1,l2,l3,l4,X5⟩⟩
    ·skip
     go_wp2_with fail
     have hx3:Ext w2 (w2.alloc (.cells #[.slice none 0 0,.slice none 0 0,.slice none 0 0,.slice none 0 0,.slice none 0 0] 32)):=Ext.alloc _ _
     have rO:=Row.new w2 32 [.slice none 0 0,.slice none 0 0,.slice none 0 0,.slice none 0 0,.slice none 0 0]
     have gO:W0.heap.size≤w2.heap.size:=X2.size
     obtain ⟨w3,hw3⟩:∃w3,(w2.alloc (.cells #[.slice none 0 0,.slice none 0 0,.slice none 0 0,.slice none 0 0,.slice none 0 0] 32))=w3:=⟨_,rfl⟩
     rw [hw3] at hx3 ⊢
     replace rO:Row w3 w2.heap.size 32 [.slice none 0 0,.slice none 0 0,.slice none 0 0,.slice none 0 0,.slice none 0 0]:=by rw [←hw3]; exact rO
     clear hw3
     have o1:=o1.ext hx3
     have o2:=o2.ext hx3
     have o3:=o3.ext hx3
     have X3:=X2.trans hx3
     refine ⟨rz _ X3,wpQuiet_nil ?_⟩
     go_wp2_with fail
     refine (c_cloneNomination A4 n4 c4 r.L _ (hat.s4.ext (x0.trans X3)) m4).mono ?_
     rintro e w4 ⟨B4,k4,d4,rfl,o4,l4,hx4⟩
     have o1:=o1.ext hx4
     have o2:=o2.ext hx4
     have o3:=o3.ext hx4
     have rO:=rO.ext hx4
     have l4:=fun b hb=>Nat.le_trans X3.size (l4 b hb)
     have X4:=X3.trans hx4
     go_wp2_with fail
     refine ⟨rz _ X4,?_⟩
     repeat (go_big_quiet_step (fail))
     refine wpQuiet_nil ?_
     have q0:=rO.cell 0
     have f0:=rO.frozen 0
     have q1:=rO.cell 1
     have f1:=rO.frozen 1
     have q2:=rO.cell 2
     have f2:=rO.frozen 2
     have q3:=rO.cell 3
     have f3:=rO.frozen 3
     have q4:=rO.cell 4
     have f4:=rO.frozen 4
     have hgl:=rO.lt
     simp only [List.getElem?_cons_zero,List.getElem?_cons_succ] at q0 q1 q2 q3 q4
     have X5:=((((X4.setCell (p:=⟨w2.heap.size,0,none⟩) gO (.slice B1 k1 d1)).setCell (p:=⟨w2.heap.size,1,none⟩) gO (.slice B2 k2 d2)).setCell (p:=⟨w2.heap.size,2,none⟩) gO (.slice B3 k3 d3)).setCell (p:=⟨w2.heap.size,3,none⟩) gO (.slice B4 k4 d4)).setCell (p:=⟨w2.heap.size,4,none⟩) gO (.slice none 0 0)
     go_wp2_with fail
     refine ⟨rz _ X5,wpQuiet_nil ?_⟩
     go_wp2_with fail
     go_meet
     case rel=>exact ⟨_,B1,B2,B3,B4,k1,d1,k2,d2,k3,d3,k4,d4,rfl,⟨gO,((((rO.set_ 0 _).set_ 1 _).set_ 2 _).set_ 3 _).set_ 4 _,o1.set5 (o1.row_ne rO (by decide)) _ _ _ _ _,o2.set5 (o2.row_ne rO (by decide)) _ _ _ _ _,o3.set5 (o3.row_ne rO (by decide)) _ _ _ _ _,o4.set5 (o4.row_ne rO (by decide)) _ _ _ _ _,l1,l2,l3,l4,X5⟩⟩
   ·skip
    go_wp2_with fail
    have hx2:Ext w1 (w1.alloc (.cells #[.slice none 0 0,.slice none 0 0,.slice none 0 0,.slice none 0 0,.slice none 0 0] 32)):=Ext.alloc _ _
    have rO:=Row.new w1 32 [.slice none 0 0,.slice none 0 0,.slice none 0 0,.slice none 0 0,.slice none 0 0]
    have gO:W0.heap.size≤w1.heap.size:=X1.size
    obtain ⟨w2,hw2⟩:∃w2,(w1.alloc (.cells #[.slice none 0 0,.slice none 0 0,.slice none 0 0,.slice none 0 0,.slice none 0 0] 32))=w2:=⟨_,rfl⟩
    rw [hw2] at hx2 ⊢
    replace rO:Row w2 w1.heap.size 32 [.slice none 0 0,.slice none 0 0,.slice none 0 0,.slice none 0 0,.slice none 0 0]:=by rw [←hw2]; exact rO
    clear hw2
    have o1:=o1.ext hx2
    have o2:=o2.ext hx2
    have X2:=X1.trans hx2
    refine ⟨rz _ X2,wpQuiet_nil ?_⟩
    go_wp2_with fail
    refine (c_cloneContract A3 n3 c3 r.xs _ (hat.s3.ext (x0.trans X2)) m3).mono ?_
    rintro e w3 ⟨B3,k3,d3,rfl,o3,l3,hx3⟩
    have o1:=o1.ext hx3
    have o2:=o2.ext hx3
    have rO:=rO.ext hx3
    have l3:=fun b hb=>Nat.le_trans X2.size (l3 b hb)
    have X3:=X2.trans hx3
    go_wp2_with fail
    refine ⟨rz _ X3,wpQuiet_nil ?_⟩
    go_wp2_with fail
    refine (c_cloneNomination A4 n4 c4 r.L _ (hat.s4.ext (x0.trans X3)) m4).mono ?_
    rintro e w4 ⟨B4,k4,d4,rfl,o4,l4,hx4⟩
    have o1:=o1.ext hx4
    have o2:=o2.ext hx4
    have rO:=rO.ext hx4
    have o3:=o3.ext hx4
    have l4:=fun b hb=>Nat.le_trans X3.size (l4 b hb)
    have X4:=X3.trans hx4
    go_wp2_with fail
    refine ⟨rz _ X4,?_⟩
    repeat (go_big_quiet_step (fail))
    refine wpQuiet_nil ?_
    have q0:=rO.cell 0
    have f0:=rO.frozen 0
    have q1:=rO.cell 1
    have f1:=rO.frozen 1
    have q2:=rO.cell 2
    have f2:=rO.frozen 2
    have q3:=rO.cell 3
    have f3:=rO.frozen 3
    have q4:=rO.cell 4
    have f4:=rO.frozen 4
    have hgl:=rO.lt
    simp only [List.getElem?_cons_zero,List.getElem?_cons_succ] at q0 q1 q2 q3 q4
    have X5:=((((X4.setCell (p:=⟨w1.heap.size,0,none⟩) gO (.slice B1 k1 d1)).setCell (p:=⟨w1.heap.size,1,none⟩) gO (.slice B2 k2 d2)).setCell (p:=⟨w1.heap.size,2,none⟩) gO (.slice B3 k3 d3)).setCell (p:=⟨w1.heap.size,3,none⟩) gO (.slice B4 k4 d4)).setCell (p:=⟨w1.heap.size,4,none⟩) gO (.slice none 0 0)
    go_wp2_with fail
    refine ⟨rz _ X5,wpQuiet_nil ?_⟩
    go_wp2_with fail
    go_meet
    case rel=>exact ⟨_,B1,B2,B3,B4,k1,d1,k2,d2,k3,d3,k4,d4,rfl,⟨gO,((((rO.set_ 0 _).set_ 1 _).set_ 2 _).set_ 3 _).set_ 4 _,o1.set5 (o1.row_ne rO (by decide)) _ _ _ _ _,o2.set5 (o2.row_ne rO (by decide)) _ _ _ _ _,o3.set5 (o3.row_ne rO (by decide)) _ _ _ _ _,o4.set5 (o4.row_ne rO (by decide)) _ _ _ _ _,l1,l2,l3,l4,X5⟩⟩
  ·skip
   go_wp2_with fail
   have hx1:Ext W0.drew (W0.alloc (.cells #[.slice none 0 0,.slice none 0 0,.slice none 0 0,.slice none 0 0,.slice none 0 0] 32)).drew:=(Ext.alloc W0.drew _)
   have rO:Row (W0.alloc (.cells #[.slice none 0 0,.slice none 0 0,.slice none 0 0,.slice none 0 0,.slice none 0 0] 32)).drew W0.heap.size 32 [.slice none 0 0,.slice none 0 0,.slice none 0 0,.slice none 0 0,.slice none 0 0]:=(Row.new W0 32 [.slice none 0 0,.slice none 0 0,.slice none 0 0,.slice none 0 0,.slice none 0 0]).drew
   have gO:W0.heap.size≤W0.heap.size:=Nat.le_refl _
   obtain ⟨w1,hw1⟩:∃w1,(W0.alloc (.cells #[.slice none 0 0,.slice none 0 0,.slice none 0 0,.slice none 0 0,.slice none 0 0] 32)).drew=w1:=⟨_,rfl⟩
   rw [hw1] at hx1 ⊢
   replace rO:Row w1 W0.heap.size 32 [.slice none 0 0,.slice none 0 0,.slice none 0 0,.slice none 0 0,.slice none 0 0]:=by rw [←hw1]; exact rO
   clear hw1
   have X1:=X0.trans hx1
   refine ⟨rz _ X1,wpQuiet_nil ?_⟩
   go_wp2_with fail
   refine (c_cloneNetwork A1 A2 n1 c1 n2 c2 r.ns r.ps _ (hat.s1.ext (x0.trans X1)) (hat.s2.ext (x0.trans X1)) m1 m2).mono ?_
   rintro e w2 ⟨B1,k1,d1,B2,k2,d2,rfl,o1,o2,l1,l2,_,hx2⟩
   have rO:=rO.ext hx2
   have l1:=fun b hb=>Nat.le_trans X1.size (l1 b hb)
   have l2:=fun b hb=>Nat.le_trans X1.size (l2 b hb)
   have X2:=X1.trans hx2
   go_wp2_with fail
   refine ⟨rz _ X2,wpQuiet_nil ?_⟩
   go_wp2_with fail
   refine (c_cloneContract A3 n3 c3 r.xs _ (hat.s3.ext (x0.trans X2)) m3).mono ?_
   rintro e w3 ⟨B3,k3,d3,rfl,o3,l3,hx3⟩
   have rO:=rO.ext hx3
   have o1:=o1.ext hx3
   have o2:=o2.ext hx3
   have l3:=fun b hb=>Nat.le_trans X2.size (l3 b hb)
   have X3:=X2.trans hx3
   go_wp2_with fail
   refine ⟨rz _ X3,wpQuiet_nil ?_⟩
   go_wp2_with fail
   refine (c_cloneNomination A4 n4 c4 r.L _ (hat.s4.ext (x0.trans X3)) m4).mono ?_
   rintro e w4 ⟨B4,k4,d4,rfl,o4,l4,hx4⟩
   have rO:=rO.ext hx4
   have o1:=o1.ext hx4
   have o2:=o2.ext hx4
   have o3:=o3.ext hx4
   have l4:=fun b hb=>Nat.le_trans X3.size (l4 b hb)
   have X4:=X3.trans hx4
   go_wp2_with fail
   refine ⟨rz _ X4,?_⟩
   repeat (go_big_quiet_step (fail))
   refine wpQuiet_nil ?_
   have q0:=rO.cell 0
   have f0:=rO.frozen 0
   have q1:=rO.cell 1
   have f1:=rO.frozen 1
   have q2:=rO.cell 2
   have f2:=rO.frozen 2
   have q3:=rO.cell 3
   have f3:=rO.frozen 3
   have q4:=rO.cell 4
   have f4:=rO.frozen 4
   have hgl:=rO.lt
   simp only [List.getElem?_cons_zero,List.getElem?_cons_succ] at q0 q1 q2 q3 q4
   have X5:=((((X4.setCell (p:=⟨W0.heap.size,0,none⟩) gO (.slice B1 k1 d1)).setCell (p:=⟨W0.heap.size,1,none⟩) gO (.slice B2 k2 d2)).setCell (p:=⟨W0.heap.size,2,none⟩) gO (.slice B3 k3 d3)).setCell (p:=⟨W0.heap.size,3,none⟩) gO (.slice B4 k4 d4)).setCell (p:=⟨W0.heap.size,4,none⟩) gO (.slice none 0 0)
   go_wp2_with fail
   refine ⟨rz _ X5,wpQuiet_nil ?_⟩
   go_wp2_with fail
   go_meet
   case rel=>exact ⟨_,B1,B2,B3,B4,k1,d1,k2,d2,k3,d3,k4,d4,rfl,⟨gO,((((rO.set_ 0 _).set_ 1 _).set_ 2 _).set_ 3 _).set_ 4 _,o1.set5 (o1.row_ne rO (by decide)) _ _ _ _ _,o2.set5 (o2.row_ne rO (by decide)) _ _ _ _ _,o3.set5 (o3.row_ne rO (by decide)) _ _ _ _ _,o4.set5 (o4.row_ne rO (by decide)) _ _ _ _ _,l1,l2,l3,l4,X5⟩⟩
 case rest=>
  obtain ⟨gO,B1,B2,B3,B4,k1,d1,k2,d2,k3,d3,k4,d4,rfl,hC0⟩:=hcut
  clear hlt y0 y1 y2 y3 y4
  have hin0:RoomIn W0 w.heap.size A1 A2 A3 A4 A5 n1 c1 n2 c2 n3 c3 n4 c4 n5 c5:=by rw [←HW.out]; exact (RoomIn.new w A1 A2 A3 A4 A5 n1 c1 n2 c2 n3 c3 n4 c4 n5 c5 32).ext (Ext.alloc _ _)
  obtain ⟨hlt,y0,y1,y2,y3,y4⟩:=hin0.ext hC0.ext
  have hm5:=hat.s5.max
  have hcp5:=hat.s5.cap
  have h48:n5≤48:=by rw [hat.s5.len]; exact hf.rs
  go_wp2_with fail
  clear hlt y0 y1 y2 y3 y4
  go_loopw [19] (fun i wr=>∃(k:Nat) (rs':List RS) (v:Value),k≤n5∧i= .int .i64 k∧rs'.length≤k∧CMid W0 wr gO B1 B2 B3 B4 k1 d1 k2 d2 k3 d3 k4 d4 v r.ns r.ps r.xs r.L∧RDone wr W0.heap.size v rs' (r.rs.take k)) (fun i _=>n5-(intOf i).toNat)
  case atStart=>exact ⟨0,[],_,Nat.zero_le _,rfl,by simp,hC0,⟨OwnL.nil_ _ _ _ _ _,rfl,by simp,by intro i j b _ hi; simp at hi,by intro i j b _ hi; simp at hi⟩⟩
  case round=>
   obtain ⟨k,rs',v,hk,rfl,hrl,hC,hD⟩:=hrel
   clear hC0
   have hXr:=hC.ext
   have hxz:=hXr.size
   by_cases hklt:k<n5
   ·obtain ⟨b,off,q,rfl,hb,hxk,hc⟩:=(hat.s5.ext (x0.trans hXr)).get hklt
    have t0:=hc 0 _ rfl
    simp only [Nat.add_zero,Nat.mul_one] at t0
    obtain ⟨qA,qn,qc,qx⟩:=q
    simp only at t0
    have hq:SliceOf w 2 Reading.cells qA qn qc qx:=hat.s6 _ (List.mem_of_getElem? hxk)
    have hq48:qn≤48:=by rw [hq.len]; exact hf.xs _ (List.mem_of_getElem? hxk)
    have HX:=hide hxk
    clear hxk hc
    obtain ⟨VA,vc,rfl,hv1,hv2⟩:=hD.o5.form
    have q4:=hC.row.cell 4
    have hgl:=hC.row.lt
    simp only [List.getElem?_cons_zero,List.getElem?_cons_succ] at q4
    go_wp2_with fail
    refine wp_region_phT [] (.two [0,2] 1 (.one [] 3 (.one [] 4 (.one [] 5 (.one [6] 7 (.last []))))) 3 (.two [] 1 (.one [] 4 (.one [] 5 (.one [6] 7 (.last [])))) 4 (.one [] 1 (.one [] 5 (.one [6] 7 (.last [])))))) (by kernel_rfl) (by kernel_rfl) (by intro c a w d v h; cases d <;> exact h) ?_
    simp only [wpPhT,pickL,nthO]
    repeat (go_big_quiet_step (fail))
    refine wpQuiet_nil ?_
    refine ⟨?_,?_⟩
    ·go_wp2_with fail
     refine ⟨fun _ h=>(by cases h),wpQuiet_nil ?_⟩
     go_wp2_with fail
     refine (l_cloneReading qA qn qc qx _ (hq.ext (x0.trans hXr.drew)) (by omega)).mono ?_
     rintro e w3 ⟨vq,rfl,oq,hx3⟩
     obtain ⟨QA,qcc,rfl,hq1,hq2⟩:=oq.form
     have hxr3:=(Ext.refl wr).drew.trans hx3
     have hz33:=hxr3.size
     have q4':=(hxr3.cell gO 4 hgl).trans q4
     have hgl3:gO<w3.heap.size:=Nat.lt_of_lt_of_le hgl hxr3.size
     go_wp2_with fail
     refine ⟨fun _ h=>(by cases h),wpQuiet_nil ?_⟩
     go_wp2_with fail
     refine ⟨fun _ h=>(by cases h),wpQuiet_nil ?_⟩
     go_wp2_with (at_builtin; go_must (refine wpList_append_grow rfl _ _ 30 rfl W0.heap.size 81 _ 1 24 Tryz.underlying30 rs_info' rfl (by decide) RS.cells rs_len rs_one (.slice VA rs'.length vc) rs' rfl (hD.o5.ext (hxr3.and_alloc _)) (some ⟨w3.heap.size,0,none⟩) 1 1 [⟨QA,qx.length,qcc,qx⟩] rfl (rs_one_slice (Row.new w3 81 [.slice QA qx.length qcc])) (by simp; omega) (by omega) (by first | omega | (simp; omega)) ?_))
     intro v5 w5 o5 g5
     obtain ⟨VB,vd,rfl,hv3,hv4⟩:=o5.form
     have ho3:=hD.o5.ext (hxr3.and_alloc (.cells #[.slice QA qx.length qcc] 81))
     have hC3:=hC.ex (hxr3.and_alloc (.cells #[.slice QA qx.length qcc] 81))
     have hC5:=hC3.turn (Turn.of_grown g5) (fun h=>OwnL.blk_ne ho3 hC3.row (by decide) gO h rfl) (hC3.o1.own_ne ho3 (by decide)) (hC3.o2.own_ne ho3 (by decide)) (hC3.o3.own_ne ho3 (by decide)) (hC3.o4.own_ne ho3 (by decide)) (fun b hb=>ho3.block_le hb)
     have hD5:=hD.step (hxr3.and_alloc (.cells #[.slice QA qx.length qcc] 81)) (oq.ext (Ext.alloc _ _)) hxz o5 g5 (take_map HX.out)
     have hlen5:(rs'++[(⟨QA,qx.length,qcc,qx⟩:RS)]).length=rs'.length+1:=by simp
     rw [hlen5] at hD5
     have q45:=hC5.row.cell 4
     have f45:=hC5.row.frozen 4
     have hg5:=hC5.row.lt
     simp only [List.getElem?_cons_zero,List.getElem?_cons_succ] at q45
     go_wp2_with fail
     refine ⟨fun _ h=>(by cases h),?_⟩
     repeat (go_big_quiet_step (fail))
     refine wpQuiet_nil ?_
     go_wp2_with fail
     refine ⟨fun _ h=>(by cases h),wpQuiet_nil ?_⟩
     go_wp2_with fail
     go_roundw
     case rel=>exact ⟨k+1,rs'++[⟨QA,qx.length,qcc,qx⟩],_,by omega,by go_num,by rw [hlen5]; omega,hC5.put _,hD5.put hC5.row _⟩
     case measure=>simp [intOf]; omega
    ·go_wp2_with fail
     refine (l_cloneReading qA qn qc qx _ (hq.ext (x0.trans hXr.drew)) (by omega)).mono ?_
     rintro e w3 ⟨vq,rfl,oq,hx3⟩
     obtain ⟨QA,qcc,rfl,hq1,hq2⟩:=oq.form
     have hxr3:=(Ext.refl wr).drew.trans hx3
     have hz33:=hxr3.size
     have q4':=(hxr3.cell gO 4 hgl).trans q4
     have hgl3:gO<w3.heap.size:=Nat.lt_of_lt_of_le hgl hxr3.size
     go_wp2_with fail
     refine ⟨fun _ h=>(by cases h),wpQuiet_nil ⟨?_,?_⟩⟩
     ·go_wp2_with fail
      refine ⟨fun _ h=>(by cases h),wpQuiet_nil ?_⟩
      go_wp2_with fail
      refine ⟨fun _ h=>(by cases h),wpQuiet_nil ?_⟩
      go_wp2_with (at_builtin; go_must (refine wpList_append_grow rfl _ _ 30 rfl W0.heap.size 81 _ 1 24 Tryz.underlying30 rs_info' rfl (by decide) RS.cells rs_len rs_one (.slice VA rs'.length vc) rs' rfl (hD.o5.ext (hxr3.and_alloc _)) (some ⟨w3.heap.size,0,none⟩) 1 1 [⟨QA,qx.length,qcc,qx⟩] rfl (rs_one_slice (Row.new w3 81 [.slice QA qx.length qcc])) (by simp; omega) (by omega) (by first | omega | (simp; omega)) ?_))
      intro v5 w5 o5 g5
      obtain ⟨VB,vd,rfl,hv3,hv4⟩:=o5.form
      have ho3:=hD.o5.ext (hxr3.and_alloc (.cells #[.slice QA qx.length qcc] 81))
      have hC3:=hC.ex (hxr3.and_alloc (.cells #[.slice QA qx.length qcc] 81))
      have hC5:=hC3.turn (Turn.of_grown g5) (fun h=>OwnL.blk_ne ho3 hC3.row (by decide) gO h rfl) (hC3.o1.own_ne ho3 (by decide)) (hC3.o2.own_ne ho3 (by decide)) (hC3.o3.own_ne ho3 (by decide)) (hC3.o4.own_ne ho3 (by decide)) (fun b hb=>ho3.block_le hb)
      have hD5:=hD.step (hxr3.and_alloc (.cells #[.slice QA qx.length qcc] 81)) (oq.ext (Ext.alloc _ _)) hxz o5 g5 (take_map HX.out)
      have hlen5:(rs'++[(⟨QA,qx.length,qcc,qx⟩:RS)]).length=rs'.length+1:=by simp
      rw [hlen5] at hD5
      have q45:=hC5.row.cell 4
      have f45:=hC5.row.frozen 4
      have hg5:=hC5.row.lt
      simp only [List.getElem?_cons_zero,List.getElem?_cons_succ] at q45
      go_wp2_with fail
      refine ⟨fun _ h=>(by cases h),?_⟩
      repeat (go_big_quiet_step (fail))
      refine wpQuiet_nil ?_
      go_wp2_with fail
      refine ⟨fun _ h=>(by cases h),wpQuiet_nil ?_⟩
      go_wp2_with fail
      go_roundw
      case rel=>exact ⟨k+1,rs'++[⟨QA,qx.length,qcc,qx⟩],_,by omega,by go_num,by rw [hlen5]; omega,hC5.put _,hD5.put hC5.row _⟩
      case measure=>simp [intOf]; omega
     ·go_wp2_with fail
      refine ⟨fun _ h=>(by cases h),wpQuiet_nil ?_⟩
      go_wp2_with fail
      refine ⟨fun _ h=>(by cases h),wpQuiet_nil ?_⟩
      go_wp2_with (at_builtin; go_must (refine wpList_append_grow rfl _ _ 30 rfl W0.heap.size 81 _ 1 24 Tryz.underlying30 rs_info' rfl (by decide) RS.cells rs_len rs_one (.slice VA rs'.length vc) rs' rfl (hD.o5.ext (hxr3.and_alloc _)) (some ⟨w3.heap.size,0,none⟩) 1 1 [⟨QA,qx.length,qcc,qx⟩] rfl (rs_one_slice (Row.new w3 81 [.slice QA qx.length qcc])) (by simp; omega) (by omega) (by first | omega | (simp; omega)) ?_))
      intro v5 w5 o5 g5
      obtain ⟨VB,vd,rfl,hv3,hv4⟩:=o5.form
      have ho3:=hD.o5.ext (hxr3.and_alloc (.cells #[.slice QA qx.length qcc] 81))
      have hC3:=hC.ex (hxr3.and_alloc (.cells #[.slice QA qx.length qcc] 81))
      have hC5:=hC3.turn (Turn.of_grown g5) (fun h=>OwnL.blk_ne ho3 hC3.row (by decide) gO h rfl) (hC3.o1.own_ne ho3 (by decide)) (hC3.o2.own_ne ho3 (by decide)) (hC3.o3.own_ne ho3 (by decide)) (hC3.o4.own_ne ho3 (by decide)) (fun b hb=>ho3.block_le hb)
      have hD5:=hD.step (hxr3.and_alloc (.cells #[.slice QA qx.length qcc] 81)) (oq.ext (Ext.alloc _ _)) hxz o5 g5 (take_map HX.out)
      have hlen5:(rs'++[(⟨QA,qx.length,qcc,qx⟩:RS)]).length=rs'.length+1:=by simp
      rw [hlen5] at hD5
      have q45:=hC5.row.cell 4
      have f45:=hC5.row.frozen 4
      have hg5:=hC5.row.lt
      simp only [List.getElem?_cons_zero,List.getElem?_cons_succ] at q45
      go_wp2_with fail
      refine ⟨fun _ h=>(by cases h),?_⟩
      repeat (go_big_quiet_step (fail))
      refine wpQuiet_nil ?_
      go_wp2_with fail
      refine ⟨fun _ h=>(by cases h),wpQuiet_nil ?_⟩
      go_wp2_with fail
      go_roundw
      case rel=>exact ⟨k+1,rs'++[⟨QA,qx.length,qcc,qx⟩],_,by omega,by go_num,by rw [hlen5]; omega,hC5.put _,hD5.put hC5.row _⟩
      case measure=>simp [intOf]; omega
   ·obtain rfl:n5=k:=by omega
    have hmap:rs'.map RS.xs=r.rs.map RS.xs:=by have h:=hD.map; rwa [List.take_of_length_le (by rw [hat.s5.len]; exact Nat.le_refl _)] at h
    have HMAP:=hide hmap
    clear hmap
    obtain ⟨VA,vc,rfl,hv1,hv2⟩:=hD.o5.form
    have q0:=hC.row.cell 0
    have q1:=hC.row.cell 1
    have q2:=hC.row.cell 2
    have q3:=hC.row.cell 3
    have q4:=hC.row.cell 4
    have hgl:=hC.row.lt
    simp only [List.getElem?_cons_zero,List.getElem?_cons_succ] at q0 q1 q2 q3 q4
    have hz0:Row W0 (w.heap.size+1) 32 [.slice none 0 0,.slice none 0 0,.slice none 0 0,.slice none 0 0,.slice none 0 0]:=by rw [←HW.out]; exact Row.new' (by simp)
    have hzr:=hz0.ext hXr
    have p0:=hzr.cell 0
    have p1:=hzr.cell 1
    have p2:=hzr.cell 2
    have p3:=hzr.cell 3
    have p4:=hzr.cell 4
    have f0:=hzr.frozen
    have hzl:=hzr.lt
    simp only [List.getElem?_cons_zero,List.getElem?_cons_succ] at p0 p1 p2 p3 p4
    go_wp2
    have hlo:w.heap.size≤W0.heap.size:=x0.size
    refine bodyPost_ret (v:= .agg #[.slice B1 k1 d1,.slice B2 k2 d2,.slice B3 k3 d3,.slice B4 k4 d4,.slice VA rs'.length vc]) (by simp [results,Tryz.results93,go_sem,p0,p1,p2,p3,p4]) rfl
     ⟨B1,B2,B3,B4,VA,k1,d1,k2,d2,k3,d3,k4,d4,rs'.length,vc,⟨r.ns,r.ps,r.xs,r.L,rs'⟩,rfl,LRoom.of (hC.o1.set5 (hC.o1.row_ne hzr (by decide)) _ _ _ _ _) (hC.o2.set5 (hC.o2.row_ne hzr (by decide)) _ _ _ _ _) (hC.o3.set5 (hC.o3.row_ne hzr (by decide)) _ _ _ _ _) (hC.o4.set5 (hC.o4.row_ne hzr (by decide)) _ _ _ _ _) (fun b hb=>Nat.le_trans hlo (hC.l1 b hb)) (fun b hb=>Nat.le_trans hlo (hC.l2 b hb)) (fun b hb=>Nat.le_trans hlo (hC.l3 b hb)) (fun b hb=>Nat.le_trans hlo (hC.l4 b hb))
      ((hD.o5.base hlo).set5 (fun k hk e=>OwnL.blk_ne hD.o5 hzr (by decide) k hk (by rw [e])) _ _ _ _ _) (fun q hq=>((hD.o6 q hq).base hlo).set5 (fun k hk e=>OwnL.blk_ne (hD.o6 q hq) hzr (by decide) k hk (by rw [e])) _ _ _ _ _) hD.sep hD.sep2,⟨rfl,rfl,rfl,rfl,HMAP.out⟩,?_⟩
    repeat (refine Ext.setCell ?_ (by first | (simp; done) | (simp; omega) | omega) _)
    exact x0.trans hXr
end Go.Proofs.YtinindjjapblcaaGreatDoor
