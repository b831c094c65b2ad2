/-
  cloneRoom of the program.
-/
import Derived.Test.YtfkpghdmljjegaaGreatVd17
import Derived.Deep.Cut
namespace Go.Proofs.YtfkpghdmljjegaaGreat
open Go.RowKit
theorem OwnA.tag_ne {α β:Type} {w:World} {t t':TypeId} {f:α→List Value} {f':β→List Value} {A A':Option Addr} {n c n' c':Nat} {xs:List α} {ys:List β} (h:OwnA w t f A n c xs) (h':OwnA w t' f' A' n' c' ys) (ht:t≠t') (b:Nat) (hb:blkOf A n=some b):blkOf A' n'≠some b:=by
 intro hb'
 obtain ⟨g,ho,_⟩:=h.own
 obtain ⟨g',ho',_⟩:=h'.own
 obtain ⟨rfl,hn⟩:=ho.blk hb
 obtain ⟨e,hn'⟩:=ho'.blk hb'
 subst e
 obtain ⟨_,r,hr⟩:=ho.2 hn
 obtain ⟨_,r',hr'⟩:=ho'.2 hn'
 unfold Row at hr hr'
 rw [hr] at hr'
 simp at hr'
 exact ht hr'.2
theorem OwnA.row_ne {α:Type} {w:World} {t t':TypeId} {f:α→List Value} {A:Option Addr} {n c:Nat} {xs:List α} {g:Nat} {cs:List Value} (h:OwnA w t f A n c xs) (hr:Row w g t' cs) (ht:t≠t') (b:Nat) (hb:blkOf A n=some b):b≠g:=by
 rintro rfl
 obtain ⟨g',ho,_⟩:=h.own
 obtain ⟨rfl,hn⟩:=ho.blk hb
 obtain ⟨_,r,hr'⟩:=ho.2 hn
 unfold Row at hr hr'
 rw [hr] at hr'
 simp at hr'
 exact ht hr'.2.symm
structure CMid (W0:World) (wx:World) (gO:Nat) (B1 B2 B3 B4:Option Addr) (k1 d1 k2 d2 k3 d3 k4 d4:Nat) (v:Value) (ns:List Node) (ps:List Pipe) (xs:List Contract) (L:List Nomination):Prop where
 lo:W0.heap.size≤gO
 row:Row wx gO 82 [.slice B1 k1 d1,.slice B2 k2 d2,.slice B3 k3 d3,.slice B4 k4 d4,v]
 o1:OwnA wx 223 Node.cells B1 k1 d1 ns
 o2:OwnA wx 181 Pipe.cells B2 k2 d2 ps
 o3:OwnA wx 153 Contract.cells B3 k3 d3 xs
 o4:OwnA wx 157 Nomination.cells B4 k4 d4 L
 l1:∀b,blkOf B1 k1=some b→W0.heap.size≤b
 l2:∀b,blkOf B2 k2=some b→W0.heap.size≤b
 l3:∀b,blkOf B3 k3=some b→W0.heap.size≤b
 l4:∀b,blkOf B4 k4=some b→W0.heap.size≤b
 ext:Ext W0 wx
section
variable {W0 wx wy:World} {gO:Nat} {B1 B2 B3 B4:Option Addr} {k1 d1 k2 d2 k3 d3 k4 d4:Nat} {v:Value} {ns:List Node} {ps:List Pipe} {xs:List Contract} {L:List Nomination}
theorem CMid.ex (h:CMid W0 wx gO B1 B2 B3 B4 k1 d1 k2 d2 k3 d3 k4 d4 v ns ps xs L) (hx:Ext wx wy):CMid W0 wy gO B1 B2 B3 B4 k1 d1 k2 d2 k3 d3 k4 d4 v ns ps xs L:=
 ⟨h.lo,h.row.ext hx,h.o1.ext hx,h.o2.ext hx,h.o3.ext hx,h.o4.ext hx,h.l1,h.l2,h.l3,h.l4,h.ext.trans hx⟩
theorem CMid.turn {S:Nat→Prop} (h:CMid W0 wx gO B1 B2 B3 B4 k1 d1 k2 d2 k3 d3 k4 d4 v ns ps xs L) (k:Turn S wx wy) (hO:¬S gO) (h1:∀b,blkOf B1 k1=some b→¬S b) (h2:∀b,blkOf B2 k2=some b→¬S b) (h3:∀b,blkOf B3 k3=some b→¬S b) (h4:∀b,blkOf B4 k4=some b→¬S b) (hS:∀b,S b→W0.heap.size≤b):CMid W0 wy gO B1 B2 B3 B4 k1 d1 k2 d2 k3 d3 k4 d4 v ns ps xs L:=
 ⟨h.lo,h.row.turn k hO,h.o1.turn k h1,h.o2.turn k h2,h.o3.turn k h3,h.o4.turn k h4,h.l1,h.l2,h.l3,h.l4,h.ext.turn k hS⟩
theorem CMid.put (h:CMid W0 wx gO B1 B2 B3 B4 k1 d1 k2 d2 k3 d3 k4 d4 v ns ps xs L) (u:Value):CMid W0 (wx.setCell ⟨gO,4,none⟩ u) gO B1 B2 B3 B4 k1 d1 k2 d2 k3 d3 k4 d4 u ns ps xs L:=
 ⟨h.lo,h.row.set_ 4 u,h.o1.far (h.o1.row_ne h.row (by decide)) u,h.o2.far (h.o2.row_ne h.row (by decide)) u,h.o3.far (h.o3.row_ne h.row (by decide)) u,h.o4.far (h.o4.row_ne h.row (by decide)) u,h.l1,h.l2,h.l3,h.l4,h.ext.setCell h.lo u⟩
end
theorem OwnL.row_at {α:Type} {w:World} {base:Nat} {e:TypeId} {size:Nat} {f:α→List Value} {v:Value} {L:List α} (h:OwnL w base e size f v L) {k:Nat} (hk:v.ownBlock=some k):∃cs,Row w k e cs:=by
 rcases h.2 with ⟨rfl,_⟩ | ⟨g,cap,cur,rfl,hb,hh,_⟩
 ·simp [Value.ownBlock] at hk
 ·simp [Value.ownBlock] at hk
  subst hk
  exact ⟨cur.toList,by unfold Row; simpa using hh⟩
theorem row_tag {w:World} {g:Nat} {t t':TypeId} {cs cs':List Value} (h:Row w g t cs) (h':Row w g t' cs'):t=t':=by
 unfold Row at h h'
 rw [h] at h'
 simp at h'
 exact h'.2
theorem OwnL.tag_ne {α β:Type} {w:World} {e e':TypeId} {base base' size size':Nat} {f:α→List Value} {f':β→List Value} {v v':Value} {L:List α} {L':List β} (h:OwnL w base e size f v L) (h':OwnL w base' e' size' f' v' L') (ht:e≠e') (k:Nat) (hk:v.ownBlock=some k):v'.ownBlock≠some k:=by
 intro hv
 obtain ⟨cs,hr⟩:=h.row_at hk
 obtain ⟨cs',hr'⟩:=h'.row_at hv
 exact ht (row_tag hr hr')
theorem OwnL.far_ne {α:Type} {w:World} {base:Nat} {e:TypeId} {size:Nat} {f:α→List Value} {v:Value} {L:List α} (h:OwnL w base e size f v L) {p:Addr} (hp:∀k,v.ownBlock=some k→k≠p.block) (u:Value):OwnL (w.setCell p u) base e size f v L:=by
 obtain ⟨h1,h2⟩:=h
 refine ⟨h1,?_⟩
 rcases h2 with h2 | ⟨k,cap,cur,hv,hb,hh,r⟩
 ·exact .inl h2
 ·exact .inr ⟨k,cap,cur,hv,hb,(Below.heap_setCell w p u k (hp k (by rw [hv]; rfl))).trans hh,r⟩
theorem OwnL.base {α:Type} {w:World} {base base':Nat} {e:TypeId} {size:Nat} {f:α→List Value} {v:Value} {L:List α} (h:OwnL w base e size f v L) (hb:base'≤base):OwnL w base' e size f v L:=by
 obtain ⟨h1,h2⟩:=h
 refine ⟨h1,?_⟩
 rcases h2 with h2 | ⟨k,cap,cur,hv,hb',r⟩
 ·exact .inl h2
 ·exact .inr ⟨k,cap,cur,hv,by omega,r⟩
theorem Turn.of_grown {w w':World} {row:Option Nat} (h:w.grownBy w' row):Turn (fun b=>row=some b) w w':=⟨h.os,h.tape,h.output,h.size,fun k hk hne=>h.block k hk (fun e=>hne e.symm)⟩
structure RDone (wr:World) (base:Nat) (v:Value) (rs':List RS) (old:List RS):Prop where
 o5:OwnL wr base 60 1 RS.cells v rs'
 map:rs'.map RS.xs=old.map RS.xs
 o6:∀q∈rs',OwnL wr base 176 2 Reading.cells (.slice q.A q.n q.c) q.xs
 sep:SepL (rs'.map fun q=>blkOf q.A q.n)
 sep2:SepL (rs'.map fun q=>Value.ownBlock (.slice q.A q.n q.c))
theorem OwnL.toA' {α:Type} {w:World} {base:Nat} {t:TypeId} {size:Nat} {f:α→List Value} {A:Option Addr} {n c:Nat} {L:List α} (h:OwnL w base t size f (.slice A n c) L) (hf:∀x,(f x).length=size) (hs:0<size):OwnA w t f A n c L∧∀b,blkOf A n=some b→base≤b:=by
 obtain ⟨A',c',hv,ho,hb⟩:=h.toA hf hs
 injection hv with h1 h2 h3
 subst h1 h2 h3
 exact ⟨ho,hb⟩
theorem sep_snoc {l:List (Option Nat)} {x:Option Nat} (h:SepL l) (hx:∀b,x=some b→some b ∉ l):SepL (l++[x]):=by
 intro i j b hij hi hj
 rcases Nat.lt_or_ge i l.length with h1 | h1
 ·rw [List.getElem?_append_left h1] at hi
  rcases Nat.lt_or_ge j l.length with h2 | h2
  ·rw [List.getElem?_append_left h2] at hj
   exact h i j b hij hi hj
  ·rw [List.getElem?_append_right h2,List.getElem?_singleton] at hj
   split at hj
   ·injection hj with hj; exact hx b hj (List.mem_of_getElem? hi)
   ·cases hj
 ·rw [List.getElem?_append_right h1,List.getElem?_singleton] at hi
  split at hi
  ·injection hi with hi
   rcases Nat.lt_or_ge j l.length with h2 | h2
   ·rw [List.getElem?_append_left h2] at hj
    exact hx b hi (List.mem_of_getElem? hj)
   ·rw [List.getElem?_append_right h2,List.getElem?_singleton] at hj
    split at hj
    ·omega
    ·cases hj
  ·cases hi
theorem rs_one (y:RS):∀u∈y.cells,u.oneCell'=true:=by intro u hu; simp [RS.cells] at hu; subst hu; rfl
theorem rs_info':(Tryz.prog.info? 60).map (fun i=>(i.zero,i.size,i.bytes))=some (some (.slice none 0 0),1,24):=by kernel_rfl
theorem rs_one_slice {w:World} {g:Nat} {A:Option Addr} {n c:Nat} {xs:List Reading} (h:Row w g 60 [.slice A n c]):SliceOf w 1 RS.cells (some ⟨g,0,none⟩) 1 1 [⟨A,n,c,xs⟩]:=
 RowOf.slice (t:=60) (xs:=[(⟨A,n,c,xs⟩:RS)]) (f:=RS.cells) h rs_len rfl (by omega)
theorem RDone.step {wr wa w5:World} {base vn vc qcc:Nat} {VA QA:Option Addr} {rs' old old':List RS} {qx:List Reading} {v5:Value} (hD:RDone wr base (.slice VA vn vc) rs' old) (hxa:Ext wr wa) (oq:OwnL wa wr.heap.size 176 2 Reading.cells (.slice QA qx.length qcc) qx) (hb:base≤wr.heap.size)
  (o5:OwnL w5 base 60 1 RS.cells v5 (rs'++[⟨QA,qx.length,qcc,qx⟩])) (g5:wa.grownBy w5 (Value.ownBlock (.slice VA vn vc))) (hold:old'.map RS.xs=old.map RS.xs++[qx]):RDone w5 base v5 (rs'++[⟨QA,qx.length,qcc,qx⟩]) old':=by
 have ho:=hD.o5.ext hxa
 refine ⟨o5,by rw [List.map_append,hold,hD.map]; rfl,fun q hq=> ?_,?_,?_⟩
 ·rcases List.mem_append.1 hq with hq | hq
  ·exact ((hD.o6 q hq).ext hxa).grown g5 (OwnL.tag_ne ((hD.o6 q hq).ext hxa) ho (by decide))
  ·simp at hq
   subst hq
   exact (oq.base hb).grown g5 (OwnL.tag_ne oq ho (by decide))
 ·rw [List.map_append,List.map_singleton]
  refine sep_snoc hD.sep (fun b hb' hm=> ?_)
  obtain ⟨q,hq,he⟩:=List.mem_map.1 hm
  have h1:=(oq.toA' reading_len (by decide)).2 b hb'
  have h2:=((hD.o6 q hq).toA' reading_len (by decide)).1.lt he
  omega
 ·rw [List.map_append,List.map_singleton]
  refine sep_snoc hD.sep2 (fun b hb' hm=> ?_)
  obtain ⟨q,hq,he⟩:=List.mem_map.1 hm
  have h1:=oq.block_le hb'
  have h2:=(World.ownsRow.lt (hD.o6 q hq) b he).2
  omega
theorem RDone.put {w5:World} {base gO:Nat} {v:Value} {rs' old:List RS} {cs:List Value} (hD:RDone w5 base v rs' old) (hr:Row w5 gO 82 cs) (u:Value):RDone (w5.setCell ⟨gO,4,none⟩ u) base v rs' old:=
 ⟨hD.o5.far_ne (fun k hk e=>OwnL.blk_ne hD.o5 hr (by decide) k hk (by rw [e])) u,hD.map,fun q hq=>(hD.o6 q hq).far_ne (fun k hk e=>OwnL.blk_ne (hD.o6 q hq) hr (by decide) k hk (by rw [e])) u,hD.sep,hD.sep2⟩
theorem take_map {rs:List RS} {k:Nat} {q:RS} (h:rs[k]? =some q):(rs.take (k+1)).map RS.xs=(rs.take k).map RS.xs++[q.xs]:=by rw [List.take_add_one,h,List.map_append]; rfl
structure LRoom (w:World) (lo hi:Nat) (A1 A2 A3 A4 A5:Option Addr) (n1 c1 n2 c2 n3 c3 n4 c4 n5 c5:Nat) (r:Room):Prop where
 own:ROwn w lo hi A1 A2 A3 A4 A5 n1 c1 n2 c2 n3 c3 n4 c4 n5 c5 r
 r5:OwnL w lo 60 1 RS.cells (.slice A5 n5 c5) r.rs
 r6:∀q∈r.rs,OwnL w lo 176 2 Reading.cells (.slice q.A q.n q.c) q.xs
 sep2:SepL (r.rs.map fun q=>Value.ownBlock (.slice q.A q.n q.c))
def RetLR (R:Room) (w:World) (e:Ending) (w':World):Prop:=
 ∃(A1 A2 A3 A4 A5:Option Addr) (n1 c1 n2 c2 n3 c3 n4 c4 n5 c5:Nat) (r':Room),e= .returned (.agg #[.slice A1 n1 c1,.slice A2 n2 c2,.slice A3 n3 c3,.slice A4 n4 c4,.slice A5 n5 c5])∧LRoom w' w.heap.size w'.heap.size A1 A2 A3 A4 A5 n1 c1 n2 c2 n3 c3 n4 c4 n5 c5 r'∧r'.Like R∧Ext w w'
theorem OwnL.set5 {α:Type} {w:World} {base:Nat} {e:TypeId} {size:Nat} {f:α→List Value} {v:Value} {L:List α} (h:OwnL w base e size f v L) {g:Nat} (hg:∀k,v.ownBlock=some k→k≠g) (u0 u1 u2 u3 u4:Value):
  OwnL (((((w.setCell ⟨g,0,none⟩ u0).setCell ⟨g,1,none⟩ u1).setCell ⟨g,2,none⟩ u2).setCell ⟨g,3,none⟩ u3).setCell ⟨g,4,none⟩ u4) base e size f v L:=
 ((((h.far_ne (p:=⟨g,0,none⟩) hg u0).far_ne (p:=⟨g,1,none⟩) hg u1).far_ne (p:=⟨g,2,none⟩) hg u2).far_ne (p:=⟨g,3,none⟩) hg u3).far_ne (p:=⟨g,4,none⟩) hg u4
theorem LRoom.of {w:World} {lo:Nat} {A1 A2 A3 A4 A5:Option Addr} {n1 c1 n2 c2 n3 c3 n4 c4 n5 c5:Nat} {ns:List Node} {ps:List Pipe} {xs:List Contract} {L:List Nomination} {rs:List RS} (o1:OwnA w 223 Node.cells A1 n1 c1 ns) (o2:OwnA w 181 Pipe.cells A2 n2 c2 ps) (o3:OwnA w 153 Contract.cells A3 n3 c3 xs) (o4:OwnA w 157 Nomination.cells A4 n4 c4 L)
  (l1:∀b,blkOf A1 n1=some b→lo≤b) (l2:∀b,blkOf A2 n2=some b→lo≤b) (l3:∀b,blkOf A3 n3=some b→lo≤b) (l4:∀b,blkOf A4 n4=some b→lo≤b)
  (r5:OwnL w lo 60 1 RS.cells (.slice A5 n5 c5) rs) (r6:∀q∈rs,OwnL w lo 176 2 Reading.cells (.slice q.A q.n q.c) q.xs) (sep:SepL (rs.map fun q=>blkOf q.A q.n)) (sep2:SepL (rs.map fun q=>Value.ownBlock (.slice q.A q.n q.c))):LRoom w lo w.heap.size A1 A2 A3 A4 A5 n1 c1 n2 c2 n3 c3 n4 c4 n5 c5 ⟨ns,ps,xs,L,rs⟩:=by
 obtain ⟨o5,l5⟩:=r5.toA' rs_len (by decide)
 have o6:∀q∈rs,OwnA w 176 Reading.cells q.A q.n q.c q.xs:=fun q hq=>((r6 q hq).toA' reading_len (by decide)).1
 have l6:∀q∈rs,∀b,blkOf q.A q.n=some b→lo≤b:=fun q hq=>((r6 q hq).toA' reading_len (by decide)).2
 refine ⟨⟨o1,o2,o3,o4,o5,o6,?_,sep,?_,?_,?_⟩,r5,r6,sep2⟩
 ·exact sepP (o1.tag_ne o2 (by decide)) (o1.tag_ne o3 (by decide)) (o1.tag_ne o4 (by decide)) (o1.tag_ne o5 (by decide)) (o2.tag_ne o3 (by decide)) (o2.tag_ne o4 (by decide)) (o2.tag_ne o5 (by decide)) (o3.tag_ne o4 (by decide)) (o3.tag_ne o5 (by decide)) (o4.tag_ne o5 (by decide))
 ·rintro b hb ⟨q,hq,hqb⟩
  simp only [List.mem_cons,List.not_mem_nil,or_false] at hb
  rcases hb with hb | hb | hb | hb | hb
  ·exact o1.tag_ne (o6 q hq) (by decide) b hb.symm hqb
  ·exact o2.tag_ne (o6 q hq) (by decide) b hb.symm hqb
  ·exact o3.tag_ne (o6 q hq) (by decide) b hb.symm hqb
  ·exact o4.tag_ne (o6 q hq) (by decide) b hb.symm hqb
  ·exact o5.tag_ne (o6 q hq) (by decide) b hb.symm hqb
 ·intro b hb
  simp only [List.mem_cons,List.not_mem_nil,or_false] at hb
  rcases hb with hb | hb | hb | hb | hb
  ·exact ⟨l1 b hb.symm,o1.lt hb.symm⟩
  ·exact ⟨l2 b hb.symm,o2.lt hb.symm⟩
  ·exact ⟨l3 b hb.symm,o3.lt hb.symm⟩
  ·exact ⟨l4 b hb.symm,o4.lt hb.symm⟩
  ·exact ⟨l5 b hb.symm,o5.lt hb.symm⟩
 ·rintro b ⟨q,hq,hqb⟩
  exact ⟨l6 q hq b hqb,(o6 q hq).lt hqb⟩
end Go.Proofs.YtfkpghdmljjegaaGreat
