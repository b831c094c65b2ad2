/-
  The helpers of the laws on whole rooms: marking, and looking at the marks.
-/
import Derived.Test.YtfkpghdmljjegaaGreatVd16
import Derived.Test.YtfkpghdmljjegaaGreatVd03
import Derived.Test.YtfkpghdmljjegaaGreatVd00
import Derived.Test.YtfkpghdmljjegaaGreatVd07
import Derived.Test.YtfkpghdmljjegaaGreatVd15
import Derived.Test.YtfkpghdmljjegaaGreatVd01
namespace Go.Proofs.YtfkpghdmljjegaaGreat
open Go.RowKit
structure MarkedNet (A1 A2:Option Addr) (n1 c1 n2 c2:Nat) (a:Int) (w:World) (e:Ending) (w':World):Prop where
 e:e= .returned (.int .i64 (a+3*n1+5*n2))
 o1:OwnA w' 223 Node.cells A1 n1 c1 (markNode a n1)
 o2:OwnA w' 181 Pipe.cells A2 n2 c2 (markPipe (a+3*n1) n2)
 turn:Turn (fun b=>blkOf A1 n1=some b∨blkOf A2 n2=some b) w w'
structure ROwn (w:World) (lo hi:Nat) (A1 A2 A3 A4 A5:Option Addr) (n1 c1 n2 c2 n3 c3 n4 c4 n5 c5:Nat) (r:Room):Prop where
 o1:OwnA w 223 Node.cells A1 n1 c1 r.ns
 o2:OwnA w 181 Pipe.cells A2 n2 c2 r.ps
 o3:OwnA w 153 Contract.cells A3 n3 c3 r.xs
 o4:OwnA w 157 Nomination.cells A4 n4 c4 r.L
 o5:OwnA w 60 RS.cells A5 n5 c5 r.rs
 o6:∀q∈r.rs,OwnA w 176 Reading.cells q.A q.n q.c q.xs
 ff:SepL [blkOf A1 n1,blkOf A2 n2,blkOf A3 n3,blkOf A4 n4,blkOf A5 n5]
 rr:SepL (r.rs.map fun q=>blkOf q.A q.n)
 fr:∀b,some b∈[blkOf A1 n1,blkOf A2 n2,blkOf A3 n3,blkOf A4 n4,blkOf A5 n5]→¬rsBlk r.rs b
 rf:∀b,some b∈[blkOf A1 n1,blkOf A2 n2,blkOf A3 n3,blkOf A4 n4,blkOf A5 n5]→lo≤b∧b<hi
 rq:∀b,rsBlk r.rs b→lo≤b∧b<hi
section
variable {w w':World} {lo hi:Nat} {A1 A2 A3 A4 A5:Option Addr} {n1 c1 n2 c2 n3 c3 n4 c4 n5 c5:Nat} {r:Room}
theorem ROwn.ext (h:ROwn w lo hi A1 A2 A3 A4 A5 n1 c1 n2 c2 n3 c3 n4 c4 n5 c5 r) (hx:Ext w w'):ROwn w' lo hi A1 A2 A3 A4 A5 n1 c1 n2 c2 n3 c3 n4 c4 n5 c5 r:=
 ⟨h.o1.ext hx,h.o2.ext hx,h.o3.ext hx,h.o4.ext hx,h.o5.ext hx,fun q hq=>(h.o6 q hq).ext hx,h.ff,h.rr,h.fr,h.rf,h.rq⟩
theorem ROwn.turn {S:Nat→Prop} (h:ROwn w lo hi A1 A2 A3 A4 A5 n1 c1 n2 c2 n3 c3 n4 c4 n5 c5 r) (k:Turn S w w') (hs:∀b,S b→b<lo∨hi≤b):ROwn w' lo hi A1 A2 A3 A4 A5 n1 c1 n2 c2 n3 c3 n4 c4 n5 c5 r:=by
 have g:∀b,some b∈[blkOf A1 n1,blkOf A2 n2,blkOf A3 n3,blkOf A4 n4,blkOf A5 n5]→¬S b:=fun b hb hS=>by have:=h.rf b hb; have:=hs b hS; omega
 exact ⟨h.o1.turn k (fun b hb=>g b (by simp [hb])),h.o2.turn k (fun b hb=>g b (by simp [hb])),h.o3.turn k (fun b hb=>g b (by simp [hb])),h.o4.turn k (fun b hb=>g b (by simp [hb])),h.o5.turn k (fun b hb=>g b (by simp [hb])),
  fun q hq=>(h.o6 q hq).turn k (fun b hb hS=>by have:=h.rq b ⟨q,hq,hb⟩; have:=hs b hS; omega),h.ff,h.rr,h.fr,h.rf,h.rq⟩
theorem ROwn.at_ (h:ROwn w lo hi A1 A2 A3 A4 A5 n1 c1 n2 c2 n3 c3 n4 c4 n5 c5 r):RoomAt w A1 A2 A3 A4 A5 n1 c1 n2 c2 n3 c3 n4 c4 n5 c5 r:=
 ⟨h.o1.slice node_len,h.o2.slice pipe_len,h.o3.slice contract_len,h.o4.slice nomination_len,h.o5.slice rs_len,fun q hq=>(h.o6 q hq).slice reading_len⟩
end
def markR (a:Int) (n1 n2 n3 n4:Nat) (rs:List RS):Room:=
 ⟨markNode a n1,markPipe (a+3*n1) n2,markContract (a+3*n1+5*n2) n3,markNomination (a+3*n1+5*n2+8*n3) n4,markRS (a+3*n1+5*n2+8*n3+4*n4) rs⟩
def markN (a:Int) (n1 n2 n3 n4:Nat) (rs:List RS):Int:=a+3*n1+5*n2+8*n3+4*n4+2*((rs.map RS.n).sum:Nat)
structure MarkedRoom (lo hi:Nat) (A1 A2 A3 A4 A5:Option Addr) (n1 c1 n2 c2 n3 c3 n4 c4 n5 c5:Nat) (rs:List RS) (a:Int) (w:World) (e:Ending) (w':World):Prop where
 e:e= .returned (.int .i64 (markN a n1 n2 n3 n4 rs))
 own:RoomAt w' A1 A2 A3 A4 A5 n1 c1 n2 c2 n3 c3 n4 c4 n5 c5 (markR a n1 n2 n3 n4 rs)
 turn:Turn (fun b=>lo≤b∧b<hi) w w'
structure RoomSm (n1 n2 n3 n4:Nat) (rs:List RS):Prop where
 m1:n1≤1048576
 m2:n2≤1048576
 m3:n3≤1048576
 m4:n4≤1048576
 m5:(rs.map RS.n).sum≤1048576
end Go.Proofs.YtfkpghdmljjegaaGreat
namespace Go.Proofs.YtfkpghdmljjegaaGreat
open Go.RowKit
theorem sepP {x1 x2 x3 x4 x5:Option Nat} (h12:∀b,x1=some b→x2≠some b) (h13:∀b,x1=some b→x3≠some b) (h14:∀b,x1=some b→x4≠some b) (h15:∀b,x1=some b→x5≠some b)
  (h23:∀b,x2=some b→x3≠some b) (h24:∀b,x2=some b→x4≠some b) (h25:∀b,x2=some b→x5≠some b) (h34:∀b,x3=some b→x4≠some b) (h35:∀b,x3=some b→x5≠some b) (h45:∀b,x4=some b→x5≠some b):SepL [x1,x2,x3,x4,x5]:=by
 intro i j b hij hi hj
 have key:∀i,[x1,x2,x3,x4,x5][i]? =some (some b)→(i=0∧x1=some b)∨(i=1∧x2=some b)∨(i=2∧x3=some b)∨(i=3∧x4=some b)∨(i=4∧x5=some b):=by
  intro i hi
  match i with
  | 0=>simp at hi; exact .inl ⟨rfl,hi⟩
  | 1=>simp at hi; exact .inr (.inl ⟨rfl,hi⟩)
  | 2=>simp at hi; exact .inr (.inr (.inl ⟨rfl,hi⟩))
  | 3=>simp at hi; exact .inr (.inr (.inr (.inl ⟨rfl,hi⟩)))
  | 4=>simp at hi; exact .inr (.inr (.inr (.inr ⟨rfl,hi⟩)))
  | i+5=>simp at hi
 rcases key i hi with ⟨rfl,h⟩ | ⟨rfl,h⟩ | ⟨rfl,h⟩ | ⟨rfl,h⟩ | ⟨rfl,h⟩ <;> rcases key j hj with ⟨rfl,h'⟩ | ⟨rfl,h'⟩ | ⟨rfl,h'⟩ | ⟨rfl,h'⟩ | ⟨rfl,h'⟩ <;>
  first
  | exact hij rfl
  | exact h12 b h h'
  | exact h13 b h h'
  | exact h14 b h h'
  | exact h15 b h h'
  | exact h23 b h h'
  | exact h24 b h h'
  | exact h25 b h h'
  | exact h34 b h h'
  | exact h35 b h h'
  | exact h45 b h h'
  | exact h12 b h' h
  | exact h13 b h' h
  | exact h14 b h' h
  | exact h15 b h' h
  | exact h23 b h' h
  | exact h24 b h' h
  | exact h25 b h' h
  | exact h34 b h' h
  | exact h35 b h' h
  | exact h45 b h' h
theorem Row.new' {W:World} {g:Nat} {t:TypeId} {cs:List Value} (hg:g=W.heap.size):Row (W.alloc (.cells cs.toArray t)) g t cs:=by subst hg; exact Row.new W t cs
theorem blk_zero (A:Option Addr) (b:Nat):blkOf A 0≠some b:=by simp [blkOf]
def newR (ns:List Node) (ps:List Pipe) (xs:List Contract):Room:=⟨ns,ps,xs,[],[⟨none,0,0,[]⟩]⟩
theorem OwnA.set5 {α:Type} {w:World} {t:TypeId} {f:α→List Value} {A:Option Addr} {n c:Nat} {xs:List α} (h:OwnA w t f A n c xs) {g:Nat} (hg:∀b,blkOf A n=some b→b≠g) (u0 u1 u2 u3 u4:Value):
  OwnA (((((w.setCell ⟨g,0,none⟩ u0).setCell ⟨g,1,none⟩ u1).setCell ⟨g,2,none⟩ u2).setCell ⟨g,3,none⟩ u3).setCell ⟨g,4,none⟩ u4) t f A n c xs:=
 ((((h.far (p:=⟨g,0,none⟩) hg u0).far (p:=⟨g,1,none⟩) hg u1).far (p:=⟨g,2,none⟩) hg u2).far (p:=⟨g,3,none⟩) hg u3).far (p:=⟨g,4,none⟩) hg u4
end Go.Proofs.YtfkpghdmljjegaaGreat
namespace Go.Proofs.YtfkpghdmljjegaaGreat
open Go.RowKit
theorem SliceOf.far {α:Type} {w:World} {size:Nat} {f:α→List Value} {A:Option Addr} {n c:Nat} {xs:List α} (h:SliceOf w size f A n c xs) {p:Addr} (hp:∀b,blkOf A n=some b→b≠p.block) (u:Value):SliceOf (w.setCell p u) size f A n c xs:=by
 refine h.turn (S:=fun b=>b=p.block) ⟨rfl,rfl,rfl,by simp,fun k _ hk=>Below.heap_setCell w p u k hk⟩ hp
theorem SliceOf.set5 {α:Type} {w:World} {size:Nat} {f:α→List Value} {A:Option Addr} {n c:Nat} {xs:List α} (h:SliceOf w size f A n c xs) {g:Nat} (hg:∀b,blkOf A n=some b→b≠g) (u0 u1 u2 u3 u4:Value):
  SliceOf (((((w.setCell ⟨g,0,none⟩ u0).setCell ⟨g,1,none⟩ u1).setCell ⟨g,2,none⟩ u2).setCell ⟨g,3,none⟩ u3).setCell ⟨g,4,none⟩ u4) size f A n c xs:=
 ((((h.far (p:=⟨g,0,none⟩) hg u0).far (p:=⟨g,1,none⟩) hg u1).far (p:=⟨g,2,none⟩) hg u2).far (p:=⟨g,3,none⟩) hg u3).far (p:=⟨g,4,none⟩) hg u4
def RBlk (A1 A2 A3 A4 A5:Option Addr) (n1 n2 n3 n4 n5:Nat) (r:Room) (b:Nat):Prop:=some b∈[blkOf A1 n1,blkOf A2 n2,blkOf A3 n3,blkOf A4 n4,blkOf A5 n5]∨rsBlk r.rs b
theorem RoomAt.turnB {S:Nat→Prop} {w w':World} {A1 A2 A3 A4 A5:Option Addr} {n1 c1 n2 c2 n3 c3 n4 c4 n5 c5:Nat} {r:Room} (h:RoomAt w A1 A2 A3 A4 A5 n1 c1 n2 c2 n3 c3 n4 c4 n5 c5 r) (k:Turn S w w') (hs:∀b,RBlk A1 A2 A3 A4 A5 n1 n2 n3 n4 n5 r b→¬S b):RoomAt w' A1 A2 A3 A4 A5 n1 c1 n2 c2 n3 c3 n4 c4 n5 c5 r:=
 ⟨h.s1.turn k (fun b hb=>hs b (.inl (by simp [hb]))),h.s2.turn k (fun b hb=>hs b (.inl (by simp [hb]))),h.s3.turn k (fun b hb=>hs b (.inl (by simp [hb]))),
  h.s4.turn k (fun b hb=>hs b (.inl (by simp [hb]))),h.s5.turn k (fun b hb=>hs b (.inl (by simp [hb]))),fun q hq=>(h.s6 q hq).turn k (fun b hb=>hs b (.inr ⟨q,hq,hb⟩))⟩
theorem turn_set (w:World) (p:Addr) (u:Value):Turn (fun b=>b=p.block) w (w.setCell p u):=⟨rfl,rfl,rfl,by simp,fun k _ hk=>Below.heap_setCell w p u k hk⟩
theorem RoomAt.set5 {w:World} {A1 A2 A3 A4 A5:Option Addr} {n1 c1 n2 c2 n3 c3 n4 c4 n5 c5:Nat} {r:Room} (h:RoomAt w A1 A2 A3 A4 A5 n1 c1 n2 c2 n3 c3 n4 c4 n5 c5 r) {g:Nat} (hg:∀b,RBlk A1 A2 A3 A4 A5 n1 n2 n3 n4 n5 r b→b≠g) (u0 u1 u2 u3 u4:Value):
  RoomAt (((((w.setCell ⟨g,0,none⟩ u0).setCell ⟨g,1,none⟩ u1).setCell ⟨g,2,none⟩ u2).setCell ⟨g,3,none⟩ u3).setCell ⟨g,4,none⟩ u4) A1 A2 A3 A4 A5 n1 c1 n2 c2 n3 c3 n4 c4 n5 c5 r:=
 ((((h.turnB (turn_set _ ⟨g,0,none⟩ u0) hg).turnB (turn_set _ ⟨g,1,none⟩ u1) hg).turnB (turn_set _ ⟨g,2,none⟩ u2) hg).turnB (turn_set _ ⟨g,3,none⟩ u3) hg).turnB (turn_set _ ⟨g,4,none⟩ u4) hg
def zeroR:Room:=⟨[],[],[],[],[]⟩
def newRR (n1:Int) (ns:List Node) (ps:List Pipe) (xs:List Contract):Room×Int:=if (netB ns ps&&bookB n1 xs)=true then (newR ns ps xs,0) else (zeroR,1)
theorem ROwn.set5 {w:World} {lo hi:Nat} {A1 A2 A3 A4 A5:Option Addr} {n1 c1 n2 c2 n3 c3 n4 c4 n5 c5:Nat} {r:Room} (h:ROwn w lo hi A1 A2 A3 A4 A5 n1 c1 n2 c2 n3 c3 n4 c4 n5 c5 r) {g:Nat} (hg:g<lo∨hi≤g) (u0 u1 u2 u3 u4:Value):
  ROwn (((((w.setCell ⟨g,0,none⟩ u0).setCell ⟨g,1,none⟩ u1).setCell ⟨g,2,none⟩ u2).setCell ⟨g,3,none⟩ u3).setCell ⟨g,4,none⟩ u4) lo hi A1 A2 A3 A4 A5 n1 c1 n2 c2 n3 c3 n4 c4 n5 c5 r:=by
 have one:∀ {w:World} (p:Addr) (u:Value),p.block=g→ROwn w lo hi A1 A2 A3 A4 A5 n1 c1 n2 c2 n3 c3 n4 c4 n5 c5 r→ROwn (w.setCell p u) lo hi A1 A2 A3 A4 A5 n1 c1 n2 c2 n3 c3 n4 c4 n5 c5 r:=fun {w} p u hp h=>h.turn (S:=fun b=>b=p.block) ⟨rfl,rfl,rfl,by simp,fun k _ hk=>Below.heap_setCell w p u k hk⟩ (fun b hb=>by omega)
 exact one _ _ rfl (one _ _ rfl (one _ _ rfl (one _ _ rfl (one _ _ rfl h))))
theorem ROwn.wider {w:World} {lo hi lo' hi':Nat} {A1 A2 A3 A4 A5:Option Addr} {n1 c1 n2 c2 n3 c3 n4 c4 n5 c5:Nat} {r:Room} (h:ROwn w lo hi A1 A2 A3 A4 A5 n1 c1 n2 c2 n3 c3 n4 c4 n5 c5 r) (h1:lo'≤lo) (h2:hi≤hi'):ROwn w lo' hi' A1 A2 A3 A4 A5 n1 c1 n2 c2 n3 c3 n4 c4 n5 c5 r:=
 ⟨h.o1,h.o2,h.o3,h.o4,h.o5,h.o6,h.ff,h.rr,h.fr,fun b hb=>by have:=h.rf b hb; omega,fun b hb=>by have:=h.rq b hb; omega⟩
end Go.Proofs.YtfkpghdmljjegaaGreat
namespace Go.Proofs.YtfkpghdmljjegaaGreat
open Go.RowKit
theorem newRR_no {n1:Int} {ns:List Node} {ps:List Pipe} {xs:List Contract} (h:(netB ns ps&&bookB n1 xs)=false):newRR n1 ns ps xs=(zeroR,1):=by unfold newRR; rw [h]; rfl
theorem newRR_yes {n1:Int} {ns:List Node} {ps:List Pipe} {xs:List Contract} (h:(netB ns ps&&bookB n1 xs)=true):newRR n1 ns ps xs=(newR ns ps xs,0):=by unfold newRR; rw [if_pos h]
end Go.Proofs.YtfkpghdmljjegaaGreat
namespace Go.Proofs.YtfkpghdmljjegaaGreat
open Go.RowKit
def RetS {α:Type} (t:TypeId) (f:α→List Value) (r:List α×Int) (w:World) (e:Ending) (w':World):Prop:=
 ∃A n c g,e= .returned (.tuple #[.slice A n c,.int .i64 r.2])∧n≤c∧c≤9223372036854775807∧w.heap.size≤g∧OwnS w' g t f A n r.1∧Ext w w'
theorem RetS.nil_ {α:Type} {t:TypeId} {f:α→List Value} {r:List α×Int} {k:Int} {w w':World} (h:r=([],k)) (hx:Ext w w'):RetS t f r w (.returned (.tuple #[.slice none 0 0,.int .i64 k])) w':=by
 subst h
 exact ⟨none,0,0,w.heap.size,rfl,Nat.le_refl _,by omega,Nat.le_refl _,OwnS.nil,hx⟩
theorem RetS.row {α:Type} {t:TypeId} {f:α→List Value} {r:List α×Int} {xs:List α} {k:Int} {w w':World} {g n:Nat} (h:r=(xs,k)) (hn:n=xs.length) (hm:n≤9223372036854775807) (hg:w.heap.size≤g) (hr:RowOf w' g t f xs) (hx:Ext w w'):
  RetS t f r w (.returned (.tuple #[.slice (some ⟨g,0,none⟩) n n,.int .i64 k])) w':=by
 subst h
 subst hn
 exact ⟨_,_,_,g,rfl,Nat.le_refl _,hm,hg,OwnS.of_row hr,hx⟩
end Go.Proofs.YtfkpghdmljjegaaGreat
namespace Go.Proofs.YtfkpghdmljjegaaGreat
open Go.RowKit
structure RoomFits (r:Room):Prop where
 L:r.L.length≤200
 rs:r.rs.length≤48
 xs:∀q∈r.rs,q.xs.length≤48
theorem roomFits {n1:Int} {r:Room} (h:roomB n1 r=true):RoomFits r:=by
 simp only [roomB,Bool.and_eq_true,nomsOk,nomsB,decide_eq_true_eq,inB_true,List.all_eq_true] at h
 obtain ⟨⟨⟨_,h1,_⟩,h2⟩,h3⟩:=h
 refine ⟨h1,by omega,fun q hq=> ?_⟩
 have:=h3 q hq
 simp only [readsB,Bool.and_eq_true,decide_eq_true_eq] at this
 exact this.1
end Go.Proofs.YtfkpghdmljjegaaGreat
