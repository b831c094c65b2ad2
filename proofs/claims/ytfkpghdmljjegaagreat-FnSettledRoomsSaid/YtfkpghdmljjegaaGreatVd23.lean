/-
  A copy of a room lies in blocks of its own.
-/
import Derived.Test.YtfkpghdmljjegaaGreatVd17
import Derived.Test.YtfkpghdmljjegaaGreatVd15
import Derived.Test.YtfkpghdmljjegaaGreatVd21
import Derived.Test.YtfkpghdmljjegaaGreatVd16
import Derived.Test.YtfkpghdmljjegaaGreatVd19
import Derived.Test.YtfkpghdmljjegaaGreatVd22
import Derived.Test.YtfkpghdmljjegaaGreatVd02
namespace Go.Proofs.YtfkpghdmljjegaaGreat
open Go.RowKit
theorem blk_some {g n b:Nat} (h:blkOf (some ⟨g,0,none⟩) n=some b):b=g:=by
 unfold blkOf at h
 split at h
 ·cases h
 ·simp at h; exact h.symm
theorem sep5R {x1 x2 x3 x4 x5:Option Nat} {g1 g2 g3 g4 g5:Nat} (k1:∀b,x1=some b→b=g1) (k2:∀b,x2=some b→b=g2) (k3:∀b,x3=some b→b=g3) (k4:∀b,x4=some b→b=g4) (k5:∀b,x5=some b→b=g5)
  (h12:g1≠g2) (h13:g1≠g3) (h14:g1≠g4) (h15:g1≠g5) (h23:g2≠g3) (h24:g2≠g4) (h25:g2≠g5) (h34:g3≠g4) (h35:g3≠g5) (h45:g4≠g5):SepL [x1,x2,x3,x4,x5]:=by
 intro i j b hij hi hj
 have key:∀i,[x1,x2,x3,x4,x5][i]? =some (some b)→(i=0∧b=g1)∨(i=1∧b=g2)∨(i=2∧b=g3)∨(i=3∧b=g4)∨(i=4∧b=g5):=by
  intro i hi
  match i with
  | 0=>simp at hi; exact .inl ⟨rfl,k1 b hi⟩
  | 1=>simp at hi; exact .inr (.inl ⟨rfl,k2 b hi⟩)
  | 2=>simp at hi; exact .inr (.inr (.inl ⟨rfl,k3 b hi⟩))
  | 3=>simp at hi; exact .inr (.inr (.inr (.inl ⟨rfl,k4 b hi⟩)))
  | 4=>simp at hi; exact .inr (.inr (.inr (.inr ⟨rfl,k5 b hi⟩)))
  | i+5=>simp at hi
 rcases key i hi with ⟨rfl,h⟩ | ⟨rfl,h⟩ | ⟨rfl,h⟩ | ⟨rfl,h⟩ | ⟨rfl,h⟩ <;> rcases key j hj with ⟨rfl,h'⟩ | ⟨rfl,h'⟩ | ⟨rfl,h'⟩ | ⟨rfl,h'⟩ | ⟨rfl,h'⟩ <;> omega
def RoomNew (r:Room) (w:World) (e:Ending) (w':World):Prop:=
 ∃(A1 A2 A3 A4 A5:Option Addr) (n1 c1 n2 c2 n3 c3 n4 c4 n5 c5:Nat) (r':Room),e= .returned (.agg #[.slice A1 n1 c1,.slice A2 n2 c2,.slice A3 n3 c3,.slice A4 n4 c4,.slice A5 n5 c5])∧ROwn w' w.heap.size w'.heap.size A1 A2 A3 A4 A5 n1 c1 n2 c2 n3 c3 n4 c4 n5 c5 r'∧r'.Like r∧RoomSm n1 n2 n3 n4 r'.rs∧Ext w w'
theorem CopiedRoom.new {r:Room} {w w':World} {e:Ending} (hl:RoomLen r) (h:CopiedRoom r w e w'):RoomNew r w e w':=by
 obtain ⟨g1,g2,g3,g4,g5,rs',rfl,h0,h12,h23,h34,h45,r1,r2,r3,r4,r5,hm,ho,hap,hx⟩:=h
 obtain ⟨k1,_,k2,k3,k4,k5,_,k8⟩:=hl
 have hlen:=congrArg List.length hm
 simp at hlen
 have l1:=r1.lt
 have l2:=r2.lt
 have l3:=r3.lt
 have l4:=r4.lt
 have l5:=r5.lt
 have hq:∀b,rsBlk rs' b→g5<b∧b<w'.heap.size:=by
  rintro b ⟨q,hq,hb⟩
  obtain ⟨g,hg,hA,hn,_,_,hr⟩:=ho q hq
  rw [hA] at hb
  have:=blk_some hb
  subst this
  exact ⟨hg,hr.lt⟩
 have hf:∀b,some b∈[blkOf (some ⟨g1,0,none⟩) r.ns.length,blkOf (some ⟨g2,0,none⟩) r.ps.length,blkOf (some ⟨g3,0,none⟩) r.xs.length,blkOf (some ⟨g4,0,none⟩) r.L.length,blkOf (some ⟨g5,0,none⟩) r.rs.length]→g1≤b∧b≤g5:=by
  intro b hb
  simp only [List.mem_cons,List.not_mem_nil,or_false] at hb
  rcases hb with hb | hb | hb | hb | hb <;> (have:=blk_some hb.symm; omega)
 refine ⟨_,_,_,_,_,_,_,_,_,_,_,_,_,_,_,⟨r.ns,r.ps,r.xs,r.L,rs'⟩,rfl,?_,⟨rfl,rfl,rfl,rfl,hm⟩,⟨by omega,by omega,by omega,by omega,?_⟩,hx⟩
 ·refine ⟨r1.toA rfl (Nat.le_refl _) (by omega),r2.toA rfl (Nat.le_refl _) (by omega),r3.toA rfl (Nat.le_refl _) (by omega),r4.toA rfl (Nat.le_refl _) (by omega),r5.toA hlen.symm (Nat.le_refl _) (by omega),?_,?_,?_,?_,?_,?_⟩
  ·intro q hq
   obtain ⟨g,hg,hA,hn,hc,hl,hr⟩:=ho q hq
   rw [hA,hc,hn]
   exact hr.toA rfl (Nat.le_refl _) (by omega)
  ·exact sep5R (fun b hb=>blk_some hb) (fun b hb=>blk_some hb) (fun b hb=>blk_some hb) (fun b hb=>blk_some hb) (fun b hb=>blk_some hb) (by omega) (by omega) (by omega) (by omega) (by omega) (by omega) (by omega) (by omega) (by omega) (by omega)
  ·intro i j b hij hi hj
   simp only [List.getElem?_map,Option.map_eq_some_iff] at hi hj
   obtain ⟨q,hq1,hq2⟩:=hi
   obtain ⟨q',hq1',hq2'⟩:=hj
   obtain ⟨g,hg,hA,_⟩:=ho q (List.mem_of_getElem? hq1)
   obtain ⟨g',hg',hA',_⟩:=ho q' (List.mem_of_getElem? hq1')
   rw [hA] at hq2
   rw [hA'] at hq2'
   have e1:=blk_some hq2
   have e2:=blk_some hq2'
   exact hap i j q q' hij hq1 hq1' (by rw [hA,hA', ←e1, ←e2])
  ·intro b hb hb'
   have:=hf b hb
   have:=hq b hb'
   omega
  ·intro b hb
   have:=hf b hb
   omega
  ·intro b hb
   have:=hq b hb
   omega
 ·have:rs'.map RS.n=(r.rs.map RS.xs).map List.length:=by
   rw [←hm,List.map_map]
   exact List.map_congr_left (fun q hq=>by obtain ⟨_,_,_,hn,_⟩:=ho q hq; exact hn)
  rw [this]; exact k8
end Go.Proofs.YtfkpghdmljjegaaGreat
namespace Go.Proofs.YtfkpghdmljjegaaGreat
open Go.RowKit
structure MarkedRoomB (A1 A2 A3 A4 A5:Option Addr) (n1 c1 n2 c2 n3 c3 n4 c4 n5 c5:Nat) (rs:List RS) (a:Int) (w:World) (e:Ending) (w':World):Prop where
 e:e= .returned (.int .i64 (markN a n1 n2 n3 n4 rs))
 own:RoomAt w' A1 A2 A3 A4 A5 n1 c1 n2 c2 n3 c3 n4 c4 n5 c5 (markR a n1 n2 n3 n4 rs)
 turn:Turn (fun b=>some b∈[blkOf A1 n1,blkOf A2 n2,blkOf A3 n3,blkOf A4 n4]∨rsBlk rs b) w w'
theorem ROwn.turnR {S:Nat→Prop} {w w':World} {lo hi:Nat} {A1 A2 A3 A4 A5:Option Addr} {n1 c1 n2 c2 n3 c3 n4 c4 n5 c5:Nat} {r:Room} (h:ROwn w lo hi A1 A2 A3 A4 A5 n1 c1 n2 c2 n3 c3 n4 c4 n5 c5 r) (k:Turn S w w') (hs:∀b,S b→∃cs,Row w b 82 cs):ROwn w' lo hi A1 A2 A3 A4 A5 n1 c1 n2 c2 n3 c3 n4 c4 n5 c5 r:=by
 have tag:∀ {α:Type} {t:TypeId} {f:α→List Value} {A:Option Addr} {n c:Nat} {xs:List α},OwnA w t f A n c xs→t≠82→∀b,blkOf A n=some b→¬S b:=fun ho ht b hb hS=>by
  obtain ⟨g',hs',_⟩:=ho.own
  obtain ⟨e,hn⟩:=hs'.blk hb
  subst e
  obtain ⟨_,rr,hr'⟩:=hs'.2 hn
  obtain ⟨cs,hr⟩:=hs _ hS
  unfold Row at hr hr'
  rw [hr] at hr'
  simp at hr'
  exact ht hr'.2.symm
 exact ⟨h.o1.turn k (tag h.o1 (by decide)),h.o2.turn k (tag h.o2 (by decide)),h.o3.turn k (tag h.o3 (by decide)),h.o4.turn k (tag h.o4 (by decide)),h.o5.turn k (tag h.o5 (by decide)),fun q hq=>(h.o6 q hq).turn k (tag (h.o6 q hq) (by decide)),h.ff,h.rr,h.fr,h.rf,h.rq⟩
end Go.Proofs.YtfkpghdmljjegaaGreat
namespace Go.Proofs.YtfkpghdmljjegaaGreat
open Go.RowKit
end Go.Proofs.YtfkpghdmljjegaaGreat
namespace Go.Proofs.YtfkpghdmljjegaaGreat
open Go.RowKit
structure SameBut (R R':Room) (Q:List (List Reading)):Prop where
 ns:R'.ns=R.ns
 ps:R'.ps=R.ps
 xs:R'.xs=R.xs
 L:R'.L=R.L
 rs:R'.rs.map RS.xs=Q
theorem SameBut.trans {R R' R'':Room} {Q Q':List (List Reading)} (h:SameBut R R' Q) (k:SameBut R' R'' Q'):SameBut R R'' Q':=⟨k.ns.trans h.ns,k.ps.trans h.ps,k.xs.trans h.xs,k.L.trans h.L,k.rs⟩
theorem noms_snoc {xs:List Contract} {L:List Nomination} {x:Nomination} (h:nomsB xs L=true) (hl:L.length<200) (hx:nomB xs x=true) (ha:accB xs L x=true):nomsB xs (L++[x])=true:=by
 have h1:=h
 simp only [nomsB,Bool.and_eq_true,decide_eq_true_eq,List.all_eq_true,List.mem_range] at h1
 refine noms_yes (n:=L.length+1) (by simp) (by omega) (fun j hj=> ?_)
 rcases Nat.lt_or_ge j L.length with hlt | hge
 ·have h2:=h1.2 j hlt
  have hj1:L[j]? =some L[j]:=List.getElem?_eq_getElem hlt
  rw [nomOk_at hj1] at h2
  rw [nomOk_at (by rw [List.getElem?_append_left hlt]; exact hj1)]
  rw [Bool.and_eq_true] at h2 ⊢
  refine ⟨h2.1,?_⟩
  have h3:=h2.2
  unfold prevOk at h3 ⊢
  split
  ·rfl
  ·rename_i hne
   rw [if_neg hne] at h3
   rwa [List.getElem?_append_left (by omega)]
 ·obtain rfl:j=L.length:=by omega
  rw [nomOk_at (x:=x) (by simp),hx,Bool.true_and]
  unfold prevOk
  split
  ·rfl
  ·rename_i hne
   have hlt:L.length-1<L.length:=by omega
   rw [List.getElem?_append_left hlt,List.getElem?_eq_getElem hlt]
   have hla:L.getLast? =some L[L.length-1]:=by rw [List.getLast?_eq_getElem?]; exact List.getElem?_eq_getElem hlt
   unfold accB at ha
   rw [hla,Bool.and_eq_true] at ha
   have h4:=ha.1
   simp at h4 ⊢
   omega
theorem accR_facts {n1:Int} {ns:List Node} {ps:List Pipe} {xs:List Contract} {L:List Nomination} {x:Nomination} (h:(accR n1 ns ps xs L x).2=0):nomB xs x=true∧accB xs L x=true∧L.length≠200:=by
 unfold accR at h
 split at h
 ·rename_i h1; exact absurd h h1
 ·split at h
  ·simp at h
  ·rename_i h2
   split at h
   ·simp at h
   ·rename_i h3
    split at h
    ·simp at h
    ·rename_i h4
     exact ⟨by simpa using h2,by simpa using h3,h4⟩
theorem reads_nil (n:Int):readsB n []=true:=rfl
theorem appR_ok {n:Int} {R:Room} {e:Event} (h:roomB n R=true) (hb:appB n R e=true):roomB n (appR R e)=true:=by
 have h0:=h
 simp only [roomB,Bool.and_eq_true,inB_true,List.all_eq_true] at h
 obtain ⟨⟨h1,h2⟩,h3⟩:=h
 unfold appB at hb
 unfold appR
 split at hb
 ·rename_i hk
  rw [if_pos hk]
  simp only [Bool.and_eq_true,beq_iff_eq] at hb
  obtain ⟨k1,k2,k3⟩:=accR_facts hb.1
  simp only [nomsOk,Bool.and_eq_true] at h1
  have hL:R.L.length≤200:=by have:=h1.2; simp only [nomsB,Bool.and_eq_true,decide_eq_true_eq] at this; exact this.1
  simp only [roomB,nomsOk,Bool.and_eq_true,inB_true,List.all_eq_true]
  exact ⟨⟨⟨h1.1,noms_snoc h1.2 (by omega) k1 k2⟩,h2⟩,h3⟩
 ·rename_i hk
  rw [if_neg hk]
  split at hb
  ·rename_i hk2
   rw [if_pos hk2]
   simp only [Bool.and_eq_true] at hb
   simp only [roomB,Bool.and_eq_true,inB_true,List.all_eq_true]
   refine ⟨⟨h1,by simpa using h2⟩,fun q hq=> ?_⟩
   rcases List.mem_or_eq_of_mem_set hq with hq | hq
   ·exact h3 q hq
   ·subst hq; exact hb.2
  ·rename_i hk2
   rw [if_neg hk2]
   simp only [Bool.and_eq_true,decide_eq_true_eq] at hb
   simp only [roomB,Bool.and_eq_true,inB_true,List.all_eq_true]
   refine ⟨⟨h1,by simp; omega⟩,fun q hq=> ?_⟩
   rcases List.mem_append.1 hq with hq | hq
   ·exact h3 q hq
   ·simp at hq; subst hq; exact reads_nil n
end Go.Proofs.YtfkpghdmljjegaaGreat
namespace Go.Proofs.YtfkpghdmljjegaaGreat
open Go.RowKit
structure SizR (r:Room):Prop where
 ns:r.ns.length≤7
 nm:Short r.ns
 ps:r.ps.length≤30
 xs:r.xs.length≤40
 cs:∀x∈r.xs,CSm x
theorem SizR.like {r r':Room} (h:SizR r) (h1:r'.ns=r.ns) (h2:r'.ps=r.ps) (h3:r'.xs=r.xs):SizR r':=⟨h1 ▸ h.ns,h1 ▸ h.nm,h2 ▸ h.ps,h3 ▸ h.xs,h3 ▸ h.cs⟩
theorem appR_same (r:Room) (x:Event):(appR r x).ns=r.ns∧(appR r x).ps=r.ps∧(appR r x).xs=r.xs:=by
 unfold appR
 split
 ·exact ⟨rfl,rfl,rfl⟩
 ·split <;> exact ⟨rfl,rfl,rfl⟩
section
variable {w0 w wr wr':World} {a n c gr lo hi lo' hi':Nat} {A A1 A2 A3 A4 A5 B1 B2 B3 B4 B5:Option Addr} {n1 c1 n2 c2 n3 c3 n4 c4 n5 c5 m1 d1 m2 d2 m3 d3 m4 d4 m5 d5:Nat} {r r':Room}
theorem LRoom.wider (h:LRoom w lo hi A1 A2 A3 A4 A5 n1 c1 n2 c2 n3 c3 n4 c4 n5 c5 r) (h1:lo'≤lo) (h2:hi≤hi'):LRoom w lo' hi' A1 A2 A3 A4 A5 n1 c1 n2 c2 n3 c3 n4 c4 n5 c5 r:=
 ⟨h.own.wider h1 h2,h.r5.base h1,fun q hq=>(h.r6 q hq).base h1,h.sep2⟩
theorem LRoom.onlyA (h:LRoom w lo hi A1 A2 A3 A4 A5 n1 c1 n2 c2 n3 c3 n4 c4 n5 c5 r) (ho:Only a w wr) (ha:a<lo):LRoom wr lo hi A1 A2 A3 A4 A5 n1 c1 n2 c2 n3 c3 n4 c4 n5 c5 r:=
 ⟨h.own.turn (S:=fun b=>b=a) (Turn.of_only ho (fun _=>rfl)) (fun b hb=> .inl (by subst hb; exact ha)),h.r5.only ho ha,fun q hq=>(h.r6 q hq).only ho ha,h.sep2⟩
theorem LRoom.turnR {S:Nat→Prop} (h:LRoom w lo hi A1 A2 A3 A4 A5 n1 c1 n2 c2 n3 c3 n4 c4 n5 c5 r) (k:Turn S w wr) (hs:∀b,S b→∃cs,Row w b 82 cs):LRoom wr lo hi A1 A2 A3 A4 A5 n1 c1 n2 c2 n3 c3 n4 c4 n5 c5 r:=
 ⟨h.own.turnR k hs,h.r5.turnT k (fun b hb hS=>by obtain ⟨cs,hr⟩:=hs b hS; exact h.r5.blk_ne hr (by decide) b hb rfl),fun q hq=>(h.r6 q hq).turnT k (fun b hb hS=>by obtain ⟨cs,hr⟩:=hs b hS; exact (h.r6 q hq).blk_ne hr (by decide) b hb rfl),h.sep2⟩
theorem Row.five {g:Nat} {t:TypeId} {u0 u1 u2 u3 u4 v0 v1 v2 v3 v4:Value} (h:Row w g t [v0,v1,v2,v3,v4]):Row (((((w.setCell ⟨g,0,none⟩ u0).setCell ⟨g,1,none⟩ u1).setCell ⟨g,2,none⟩ u2).setCell ⟨g,3,none⟩ u3).setCell ⟨g,4,none⟩ u4) g t [u0,u1,u2,u3,u4]:=
 ((((h.set_ 0 u0).set_ 1 u1).set_ 2 u2).set_ 3 u3).set_ 4 u4
theorem Only.five (g:Nat) (w:World) (u0 u1 u2 u3 u4:Value):Only g w (((((w.setCell ⟨g,0,none⟩ u0).setCell ⟨g,1,none⟩ u1).setCell ⟨g,2,none⟩ u2).setCell ⟨g,3,none⟩ u3).setCell ⟨g,4,none⟩ u4):=
 (((((Only.refl g w).setCell rfl u0).setCell rfl u1).setCell rfl u2).setCell rfl u3).setCell rfl u4
def DrawnRoom (w0:World) (a:Nat) (A:Option Addr) (n c:Nat) (w:World) (e:Ending) (w':World):Prop:=
 ∃(A1 A2 A3 A4 A5:Option Addr) (n1 c1 n2 c2 n3 c3 n4 c4 n5 c5:Nat) (r:Room),e= .returned (.agg #[.slice A1 n1 c1,.slice A2 n2 c2,.slice A3 n3 c3,.slice A4 n4 c4,.slice A5 n5 c5])∧Src w0 w' a A n c∧Only a w w'∧RoomAt w' A1 A2 A3 A4 A5 n1 c1 n2 c2 n3 c3 n4 c4 n5 c5 r∧(∀b,RBlk A1 A2 A3 A4 A5 n1 n2 n3 n4 n5 r b→w.heap.size<b)∧SizR r∧r.L.length≤200∧r.rs.length≤50∧∀q∈r.rs,q.xs.length≤49
structure FSt (w0 w:World) (a:Nat) (A:Option Addr) (n c gr:Nat) (A1 A2 A3 A4 A5:Option Addr) (n1 c1 n2 c2 n3 c3 n4 c4 n5 c5:Nat) (r:Room) (wr:World):Prop where
 lt:a<w.heap.size
 src:Src w0 wr a A n c
 only:Only a w wr
 res:Row wr w.heap.size 82 [.slice none 0 0,.slice none 0 0,.slice none 0 0,.slice none 0 0,.slice none 0 0]
 var:Row wr gr 82 [.slice A1 n1 c1,.slice A2 n2 c2,.slice A3 n3 c3,.slice A4 n4 c4,.slice A5 n5 c5]
 hgr:w.heap.size<gr
 at_:RoomAt wr A1 A2 A3 A4 A5 n1 c1 n2 c2 n3 c3 n4 c4 n5 c5 r
 far:∀b,RBlk A1 A2 A3 A4 A5 n1 n2 n3 n4 n5 r b→w.heap.size<b
 ngr:∀b,RBlk A1 A2 A3 A4 A5 n1 n2 n3 n4 n5 r b→b≠gr
 siz:SizR r
structure KSt (w0 w:World) (a:Nat) (A:Option Addr) (n c gr:Nat) (A1 A2 A3 A4 A5:Option Addr) (n1 c1 n2 c2 n3 c3 n4 c4 n5 c5:Nat) (r:Room) (wr:World):Prop where
 lt:a<w.heap.size
 src:Src w0 wr a A n c
 only:Only a w wr
 res:Row wr w.heap.size 82 [.slice none 0 0,.slice none 0 0,.slice none 0 0,.slice none 0 0,.slice none 0 0]
 var:Row wr gr 82 [.slice A1 n1 c1,.slice A2 n2 c2,.slice A3 n3 c3,.slice A4 n4 c4,.slice A5 n5 c5]
 hgr:w.heap.size<gr
 room:LRoom wr (w.heap.size+1) wr.heap.size A1 A2 A3 A4 A5 n1 c1 n2 c2 n3 c3 n4 c4 n5 c5 r
 siz:SizR r
theorem KSt.draw (h:KSt w0 w a A n c gr A1 A2 A3 A4 A5 n1 c1 n2 c2 n3 c3 n4 c4 n5 c5 r wr) (hs:Src w0 wr' a A n c) (ho:Only a wr wr'):KSt w0 w a A n c gr A1 A2 A3 A4 A5 n1 c1 n2 c2 n3 c3 n4 c4 n5 c5 r wr':=
 have hl:=h.lt
 have hg:=h.hgr
 ⟨h.lt,hs,h.only.trans ho,h.res.only ho (by omega),h.var.only ho (by omega),h.hgr,(h.room.onlyA ho (by omega)).wider (Nat.le_refl _) ho.size,h.siz⟩
theorem KSt.more (h:KSt w0 w a A n c gr A1 A2 A3 A4 A5 n1 c1 n2 c2 n3 c3 n4 c4 n5 c5 r wr) (hx:Ext wr wr'):KSt w0 w a A n c gr A1 A2 A3 A4 A5 n1 c1 n2 c2 n3 c3 n4 c4 n5 c5 r wr':=h.draw (h.src.more hx) (Only.of_ext hx a)
theorem KSt.next (h:KSt w0 w a A n c gr A1 A2 A3 A4 A5 n1 c1 n2 c2 n3 c3 n4 c4 n5 c5 r wr) (hR:LRoom wr lo' hi' B1 B2 B3 B4 B5 m1 d1 m2 d2 m3 d3 m4 d4 m5 d5 r') (hlo:w.heap.size+1≤lo') (hhi:hi'≤wr.heap.size) (hs:SizR r'):
  KSt w0 w a A n c gr B1 B2 B3 B4 B5 m1 d1 m2 d2 m3 d3 m4 d4 m5 d5 r' (((((wr.setCell ⟨gr,0,none⟩ (.slice B1 m1 d1)).setCell ⟨gr,1,none⟩ (.slice B2 m2 d2)).setCell ⟨gr,2,none⟩ (.slice B3 m3 d3)).setCell ⟨gr,3,none⟩ (.slice B4 m4 d4)).setCell ⟨gr,4,none⟩ (.slice B5 m5 d5)):=by
 have hl:=h.lt
 have hg:=h.hgr
 have hle:=h.src.le0
 have ho:=Only.five gr wr (.slice B1 m1 d1) (.slice B2 m2 d2) (.slice B3 m3 d3) (.slice B4 m4 d4) (.slice B5 m5 d5)
 have hT:=Turn.of_only (S:=fun b=>b=gr) ho (fun _=>rfl)
 refine ⟨hl,h.src.grow ho (fun k hk=>by simp at hk; omega),h.only.grown ho (fun k hk=>by simp at hk; omega),h.res.only ho (by omega),h.var.five,hg,?_,hs⟩
 exact (hR.turnR hT (fun b hb=>by subst hb; exact ⟨_,h.var⟩)).wider hlo (Nat.le_trans hhi ho.size)
theorem KSt.toF (h:KSt w0 w a A n c gr A1 A2 A3 A4 A5 n1 c1 n2 c2 n3 c3 n4 c4 n5 c5 r wr):FSt w0 w a A n c gr A1 A2 A3 A4 A5 n1 c1 n2 c2 n3 c3 n4 c4 n5 c5 r wr:=by
 refine ⟨h.lt,h.src,h.only,h.res,h.var,h.hgr,h.room.own.at_,?_,?_,h.siz⟩
 ·rintro b (hb | hb)
  ·have:=h.room.own.rf b hb; omega
  ·have:=h.room.own.rq b hb; omega
 ·have o:=h.room.own
  rintro b (hb | ⟨q,hq,hb⟩)
  ·simp only [List.mem_cons,List.not_mem_nil,or_false] at hb
   rcases hb with hb | hb | hb | hb | hb
   ·exact o.o1.row_ne h.var (by decide) b hb.symm
   ·exact o.o2.row_ne h.var (by decide) b hb.symm
   ·exact o.o3.row_ne h.var (by decide) b hb.symm
   ·exact o.o4.row_ne h.var (by decide) b hb.symm
   ·exact o.o5.row_ne h.var (by decide) b hb.symm
  ·exact (o.o6 q hq).row_ne h.var (by decide) b hb
theorem FSt.fin (h:FSt w0 w a A n c gr A1 A2 A3 A4 A5 n1 c1 n2 c2 n3 c3 n4 c4 n5 c5 r wr) (hL:r.L.length≤200) (hrs:r.rs.length≤50) (hq:∀q∈r.rs,q.xs.length≤49):DrawnRoom w0 a A n c w (.returned (.agg #[.slice A1 n1 c1,.slice A2 n2 c2,.slice A3 n3 c3,.slice A4 n4 c4,.slice A5 n5 c5])) (putCells wr w.heap.size 0 [.slice A1 n1 c1,.slice A2 n2 c2,.slice A3 n3 c3,.slice A4 n4 c4,.slice A5 n5 c5]):=by
 have hl:=h.lt
 have hle:=h.src.le0
 have ho:Only w.heap.size wr (putCells wr w.heap.size 0 [.slice A1 n1 c1,.slice A2 n2 c2,.slice A3 n3 c3,.slice A4 n4 c4,.slice A5 n5 c5]):=(Only.refl _ _).put _ _
 exact ⟨A1,A2,A3,A4,A5,n1,c1,n2,c2,n3,c3,n4,c4,n5,c5,r,rfl,h.src.put (by omega) (by omega) _ _,h.only.putNew (by omega) _ _,h.at_.turnB (S:=fun b=>b=w.heap.size) (Turn.of_only ho (fun _=>rfl)) (fun b hb e=>by have:=h.far b hb; omega),h.far,h.siz,hL,hrs,hq⟩
theorem FSt.nil (h:FSt w0 w a A n c gr A1 A2 A3 A4 A5 n1 c1 n2 c2 n3 c3 n4 c4 n5 c5 r wr):FSt w0 w a A n c gr A1 A2 A3 A4 none n1 c1 n2 c2 n3 c3 n4 c4 0 0 ⟨r.ns,r.ps,r.xs,r.L,[]⟩ (wr.setCell ⟨gr,4,none⟩ (.slice none 0 0)):=by
 have hl:=h.lt
 have hg:=h.hgr
 have hle:=h.src.le0
 have ho:Only gr wr (wr.setCell ⟨gr,4,none⟩ (.slice none 0 0)):=(Only.refl gr wr).setCell rfl _
 have hT:=Turn.of_only (S:=fun b=>b=gr) ho (fun _=>rfl)
 have hb:∀b,RBlk A1 A2 A3 A4 none n1 n2 n3 n4 0 ⟨r.ns,r.ps,r.xs,r.L,[]⟩ b→RBlk A1 A2 A3 A4 A5 n1 n2 n3 n4 n5 r b:=by
  rintro b (hb | ⟨q,hq,hb⟩)
  ·simp only [List.mem_cons,List.not_mem_nil,or_false] at hb
   rcases hb with hb | hb | hb | hb | hb
   ·exact .inl (by simp [hb])
   ·exact .inl (by simp [hb])
   ·exact .inl (by simp [hb])
   ·exact .inl (by simp [hb])
   ·exact absurd hb.symm (blk_zero _ _)
  ·simp at hq
 have hat:=h.at_.turnB hT (fun b hb e=>h.ngr b hb e)
 exact ⟨hl,h.src.grow ho (fun k hk=>by simp at hk; omega),h.only.grown ho (fun k hk=>by simp at hk; omega),h.res.only ho (by omega),h.var.set_ 4 _,hg,⟨hat.s1,hat.s2,hat.s3,hat.s4,SliceOf.nil.2 (by simp [maxLen]),fun q hq=>by simp at hq⟩,fun b hb'=>h.far b (hb b hb'),fun b hb'=>h.ngr b (hb b hb'),h.siz.like rfl rfl rfl⟩
theorem mem_set0 {rs:List RS} {x q:RS} (h:q∈rs.set 0 x):q=x∨∃j,j≠0∧rs[j]? =some q:=by
 obtain ⟨j,hj⟩:=List.getElem?_of_mem h
 rw [List.getElem?_set] at hj
 split at hj
 ·split at hj
  ·exact .inl (Option.some.inj hj).symm
  ·cases hj
 ·exact .inr ⟨j,by omega,hj⟩
theorem KSt.case1 (h:KSt w0 w a A n c gr A1 A2 A3 A4 A5 n1 c1 n2 c2 n3 c3 n4 c4 n5 c5 r wr) {q:RS} (hq:r.rs[0]? =some q) {W:World} (hx:Ext wr W) (hg:W.grownBy wr' (Value.slice q.A q.n q.c).ownBlock) {QA:Option Addr} {qn qc:Nat} {ys:List Reading}
  (ho:OwnL wr' (w.heap.size+1) 176 2 Reading.cells (.slice QA qn qc) ys) {g5:Nat} (hA5:A5=some ⟨g5,0,none⟩):
  g5<wr'.heap.size∧w.heap.size<g5∧(∀i,wr'.frozen? ⟨g5,i,none⟩=false)∧(∃u,wr'.cell? ⟨g5,0,none⟩=some u)∧SameC [(gr,4),(g5,0)] wr wr'∧Row wr' gr 82 [.slice A1 n1 c1,.slice A2 n2 c2,.slice A3 n3 c3,.slice A4 n4 c4,.slice A5 n5 c5]∧gr≠g5∧FSt w0 w a A n c gr A1 A2 A3 A4 A5 n1 c1 n2 c2 n3 c3 n4 c4 n5 c5 ⟨r.ns,r.ps,r.xs,r.L,r.rs.set 0 ⟨QA,qn,qc,ys⟩⟩ (wr'.setCell ⟨g5,0,none⟩ (.slice QA qn qc)):=by
 subst hA5
 have h':=h.more hx
 have hl:=h.lt
 have hgr:=h.hgr
 have hle:=h.src.le0
 have hm:q∈r.rs:=List.mem_of_getElem? hq
 have hk0:0<r.rs.length:=(List.getElem?_eq_some_iff.1 hq).1
 have rowq:∀b,(Value.slice q.A q.n q.c).ownBlock=some b→∃cs,Row W b 176 cs:=fun b hb=>(h'.room.r6 q hm).row_at hb
 have T1:=Turn.of_grown hg
 have own:=h'.room.own
 have o1:=own.o1.turn T1 (fun b hb hS=>by obtain ⟨cs,hr⟩:=rowq b hS; exact own.o1.row_ne hr (by decide) b hb rfl)
 have o2:=own.o2.turn T1 (fun b hb hS=>by obtain ⟨cs,hr⟩:=rowq b hS; exact own.o2.row_ne hr (by decide) b hb rfl)
 have o3:=own.o3.turn T1 (fun b hb hS=>by obtain ⟨cs,hr⟩:=rowq b hS; exact own.o3.row_ne hr (by decide) b hb rfl)
 have o4:=own.o4.turn T1 (fun b hb hS=>by obtain ⟨cs,hr⟩:=rowq b hS; exact own.o4.row_ne hr (by decide) b hb rfl)
 have r5:=h'.room.r5.turnT T1 (fun b hb hS=>by obtain ⟨cs,hr⟩:=rowq b hS; exact h'.room.r5.blk_ne hr (by decide) b hb rfl)
 have r6:∀p,(∃j,j≠0∧r.rs[j]? =some p)→OwnL wr' (w.heap.size+1) 176 2 Reading.cells (.slice p.A p.n p.c) p.xs:=fun p hp=>by
  obtain ⟨j,hj,hpj⟩:=hp
  refine (h'.room.r6 p (List.mem_of_getElem? hpj)).turnT T1 (fun b hb hS=> ?_)
  exact h'.room.sep2 0 j b (by omega) (by rw [List.getElem?_map,hq]; exact congrArg some hS) (by rw [List.getElem?_map,hpj]; exact congrArg some hb)
 have var:=h'.var.turn T1 (fun hS=>by obtain ⟨cs,hr⟩:=rowq gr hS; exact (h'.room.r6 q hm).blk_ne h'.var (by decide) gr hS rfl)
 have res:=h'.res.turn T1 (fun hS=>by obtain ⟨cs,hr⟩:=rowq _ hS; exact (h'.room.r6 q hm).blk_ne h'.res (by decide) _ hS rfl)
 have src:=h'.src.grow hg (fun k hk=>by have:=(h'.room.r6 q hm).block_le hk; omega)
 have onl:=h'.only.grown hg (fun k hk=> .inl (by have:=(h'.room.r6 q hm).block_le hk; omega))
 have hb5:=r5.ltW (k:=g5) rfl
 obtain ⟨cs5,hr5⟩:=r5.row_at (k:=g5) rfl
 have ho2:Only g5 wr' (wr'.setCell ⟨g5,0,none⟩ (.slice QA qn qc)):=(Only.refl g5 wr').setCell rfl _
 have T2:=Turn.of_only (S:=fun b=>b=g5) ho2 (fun _=>rfl)
 have u1:=o1.turn T2 (fun b hb hS=>o1.row_ne hr5 (by decide) b hb hS)
 have u2:=o2.turn T2 (fun b hb hS=>o2.row_ne hr5 (by decide) b hb hS)
 have u3:=o3.turn T2 (fun b hb hS=>o3.row_ne hr5 (by decide) b hb hS)
 have u4:=o4.turn T2 (fun b hb hS=>o4.row_ne hr5 (by decide) b hb hS)
 have u5:=r5.setT rs_len (k:=0) (y:=(⟨QA,qn,qc,ys⟩:RS)) hk0 rfl
 have u6:∀p∈r.rs.set 0 ⟨QA,qn,qc,ys⟩,OwnL (wr'.setCell ⟨g5,0,none⟩ (.slice QA qn qc)) (w.heap.size+1) 176 2 Reading.cells (.slice p.A p.n p.c) p.xs:=fun p hp=>by
  rcases mem_set0 hp with h1 | h1
  ·subst h1
   exact ho.turnT T2 (fun b hb hS=>by subst hS; exact ho.blk_ne hr5 (by decide) b hb rfl)
  ·exact (r6 p h1).turnT T2 (fun b hb hS=>by subst hS; exact (r6 p h1).blk_ne hr5 (by decide) b hb rfl)
 have hv:=var.only ho2 (fun e=>by subst e; exact r5.blk_ne var (by decide) gr rfl rfl)
 have a5:=u5.toA' rs_len (by decide)
 have a6:=fun p hp=>(u6 p hp).toA' reading_len (by decide)
 have lo:=own.rf
 have hsame:SameC [(gr,4),(g5,0)] wr wr':=by
  intro z hz
  simp only [List.mem_cons,List.not_mem_nil,or_false] at hz
  have g5W:=h'.room.r5.ltW (k:=g5) rfl
  have g5w:=h.room.r5.ltW (k:=g5) rfl
  have grw:=h.var.lt
  rcases hz with rfl | rfl
  ·exact (T1.cell h'.var.lt (fun hS=>by obtain ⟨cs,hr⟩:=rowq gr hS; exact (h'.room.r6 q hm).blk_ne h'.var (by decide) gr hS rfl)).trans (hx.cell gr 4 grw)
  ·exact (T1.cell g5W.2 (fun hS=>by obtain ⟨cs,hr⟩:=rowq g5 hS; exact h'.room.r5.blk_ne hr (by decide) g5 rfl rfl)).trans (hx.cell g5 0 g5w.2)
 refine ⟨hb5.2,by omega,hr5.frozen,?_,hsame,var,fun e=>by subst e; exact r5.blk_ne var (by decide) gr rfl rfl,hl,src.set (by show w0.heap.size≤g5; omega) (by show g5≠a; omega) _,onl.grown ho2 (fun k hk=>by simp at hk; omega),res.only ho2 (by omega),hv,hgr,⟨u1.slice node_len,u2.slice pipe_len,u3.slice contract_len,u4.slice nomination_len,a5.1.slice rs_len,fun p hp=>(a6 p hp).1.slice reading_len⟩,?_,?_,h.siz.like rfl rfl rfl⟩
 ·have hc:=hr5.cell 0
  have hs5:=(r5.slE rs_len (by decide)).get (k:=0) (by rw [h'.room.own.o5.1]; exact hk0)
  obtain ⟨b,off,y,he,_,_,hy⟩:=hs5
  cases he
  exact ⟨_,by simpa using hy 0 _ rfl⟩
 ·rintro b (hb | ⟨p,hp,hb⟩)
  ·have:=lo b hb; omega
  ·have:=(a6 p hp).2 b hb; omega
 ·rintro b (hb | ⟨p,hp,hb⟩)
  ·simp only [List.mem_cons,List.not_mem_nil,or_false] at hb
   rcases hb with hb | hb | hb | hb | hb
   ·exact u1.row_ne hv (by decide) b hb.symm
   ·exact u2.row_ne hv (by decide) b hb.symm
   ·exact u3.row_ne hv (by decide) b hb.symm
   ·exact u4.row_ne hv (by decide) b hb.symm
   ·exact a5.1.row_ne hv (by decide) b hb.symm
  ·exact (a6 p hp).1.row_ne hv (by decide) b hb
theorem KSt.case2 (h:KSt w0 w a A n c gr A1 A2 A3 A4 A5 n1 c1 n2 c2 n3 c3 n4 c4 n5 c5 r wr) (hg:((wr.alloc (.cells #[] 176)).alloc (.cells #[.slice (some ⟨wr.heap.size,0,none⟩) 0 0] 60)).grownBy wr' (Value.slice A5 n5 c5).ownBlock)
  (ho:OwnL wr' (w.heap.size+1) 60 1 RS.cells (.slice B5 m5 d5) (r.rs++[⟨some ⟨wr.heap.size,0,none⟩,0,0,[]⟩])):
  KSt w0 w a A n c gr A1 A2 A3 A4 B5 n1 c1 n2 c2 n3 c3 n4 c4 m5 d5 ⟨r.ns,r.ps,r.xs,r.L,r.rs++[⟨some ⟨wr.heap.size,0,none⟩,0,0,[]⟩]⟩ (wr'.setCell ⟨gr,4,none⟩ (.slice B5 m5 d5))∧Row wr' gr 82 [.slice A1 n1 c1,.slice A2 n2 c2,.slice A3 n3 c3,.slice A4 n4 c4,.slice A5 n5 c5]:=by
 have hx:Ext wr ((wr.alloc (.cells #[] 176)).alloc (.cells #[.slice (some ⟨wr.heap.size,0,none⟩) 0 0] 60)):=(Ext.alloc _ _).and_alloc _
 have nq0:=(own_new wr (w.heap.size+1) 176 2 Reading.cells wr.heap.size rfl h.res.lt).ext (Ext.alloc _ (.cells #[.slice (some ⟨wr.heap.size,0,none⟩) 0 0] 60))
 generalize ((wr.alloc (.cells #[] 176)).alloc (.cells #[.slice (some ⟨wr.heap.size,0,none⟩) 0 0] 60))=W at *
 have h':=h.more hx
 have hl:=h.lt
 have hgr:=h.hgr
 have hle:=h.src.le0
 have own:=h'.room.own
 have rowr:∀b,(Value.slice A5 n5 c5).ownBlock=some b→∃cs,Row W b 60 cs:=fun b hb=>h'.room.r5.row_at hb
 have T1:=Turn.of_grown hg
 have o1:=own.o1.turn T1 (fun b hb hS=>by obtain ⟨cs,hr⟩:=rowr b hS; exact own.o1.row_ne hr (by decide) b hb rfl)
 have o2:=own.o2.turn T1 (fun b hb hS=>by obtain ⟨cs,hr⟩:=rowr b hS; exact own.o2.row_ne hr (by decide) b hb rfl)
 have o3:=own.o3.turn T1 (fun b hb hS=>by obtain ⟨cs,hr⟩:=rowr b hS; exact own.o3.row_ne hr (by decide) b hb rfl)
 have o4:=own.o4.turn T1 (fun b hb hS=>by obtain ⟨cs,hr⟩:=rowr b hS; exact own.o4.row_ne hr (by decide) b hb rfl)
 have r6:∀p∈r.rs,OwnL wr' (w.heap.size+1) 176 2 Reading.cells (.slice p.A p.n p.c) p.xs:=fun p hp=>(h'.room.r6 p hp).turnT T1 (fun b hb hS=>by obtain ⟨cs,hr⟩:=rowr b hS; exact (h'.room.r6 p hp).blk_ne hr (by decide) b hb rfl)
 have nq:=nq0.turnT T1 (fun b hb hS=>by obtain ⟨cs,hr⟩:=rowr b hS; exact nq0.blk_ne hr (by decide) b hb rfl)
 have var:=h'.var.turn T1 (fun hS=>h'.room.r5.blk_ne h'.var (by decide) gr hS rfl)
 have res:=h'.res.turn T1 (fun hS=>h'.room.r5.blk_ne h'.res (by decide) _ hS rfl)
 have src:=h'.src.grow hg (fun k hk=>by have:=h'.room.r5.block_le hk; omega)
 have onl:=h'.only.grown hg (fun k hk=> .inl (by have:=h'.room.r5.block_le hk; omega))
 have ho2:Only gr wr' (wr'.setCell ⟨gr,4,none⟩ (.slice B5 m5 d5)):=(Only.refl gr wr').setCell rfl _
 have T2:=Turn.of_only (S:=fun b=>b=gr) ho2 (fun _=>rfl)
 refine ⟨⟨hl,src.set (by show w0.heap.size≤gr; omega) (by show gr≠a; omega) _,onl.grown ho2 (fun k hk=>by simp at hk; omega),res.only ho2 (by omega),var.set_ 4 _,hgr,?_,h.siz.like rfl rfl rfl⟩,var⟩
 have lo:=own.rf
 refine (LRoom.of o1 o2 o3 o4 (fun b hb=>(lo b (by simp [hb])).1) (fun b hb=>(lo b (by simp [hb])).1) (fun b hb=>(lo b (by simp [hb])).1) (fun b hb=>(lo b (by simp [hb])).1) ho ?_ ?_ ?_).turnR T2 (fun b hb=>by subst hb; exact ⟨_,var⟩) |>.wider (Nat.le_refl _) ho2.size
 ·intro p hp
  rcases List.mem_append.1 hp with hp | hp
  ·exact r6 p hp
  ·obtain rfl:=List.mem_singleton.1 hp; exact nq
 ·rw [List.map_append,List.map_singleton]
  exact sep_snoc own.rr (fun b hb _=>absurd hb (blk_zero _ _))
 ·rw [List.map_append,List.map_singleton]
  refine sep_snoc h'.room.sep2 (fun b hb hm=> ?_)
  obtain ⟨p,hp,hpb⟩:=List.mem_map.1 hm
  have h1:=((h.room.r6 p hp).ltW hpb).2
  have h2:wr.heap.size=b:=by simpa [Value.ownBlock] using hb
  omega
end
end Go.Proofs.YtfkpghdmljjegaaGreat
namespace Go.Proofs.YtfkpghdmljjegaaGreat
open Go.RowKit
def wpAnyZ (P:Program) (md:Region.Mode) (ops:Array Oper) (Q:Exit→Act→World→Prop) (S:World→Prop) (z:Nat):Nat→Array Bool→Act→World→Prop
 | 0,listed,a,w=>Region.ready md ops listed=[]∧Q .normal a w
 | fuel+1,listed,a,w=>
  (Region.ready md ops listed=[]→Q .normal a w)∧
  ∀i∈Region.ready md ops listed,wpOp P ops Q i (fun a' w'=>(i≠z→S w')∧wpAnyZ P md ops Q S z fuel (listed.setIfInBounds i true) a' w') a w
section
variable {P:Program} {ops:Array Oper} {Q:Exit→Act→World→Prop} {md:Region.Mode} {S:World→Prop} {z:Nat}
theorem wpAny_of_Z:∀(fuel:Nat) (listed:Array Bool) (a:Act) (w:World),wpAnyZ P md ops Q S z fuel listed a w→wpAny P md ops Q fuel listed a w
 | 0,_,_,_,h=>h
 | fuel+1,_,_,_,h=>⟨h.1,fun i hi=>wpOp_mono (fun a' w' h'=>wpAny_of_Z fuel _ a' w' h'.2) (h.2 i hi)⟩
theorem wpAnyZ_first {i:Nat} {oi:Oper} {v:Value} (hi:ops[i]? =some oi) (hsel:∀(j:Nat) (o:Oper) cs b,ops[j]? =some o→o.op≠ .select cs b)
  (hQ:∀c a w,Q (.panic c) (a.put oi.dst v) w→Q (.panic c) a w) (hiz:i≠z) {oz:Oper} (hoz:ops[z]? =some oz) (hwz:∃e∈oz.after,Region.binds md e=true∧e.on=i):
  ∀(fuel:Nat) (listed:Array Bool) (a:Act) (w:World),
   (∀j oj,ops[j]? =some oj→j≠i→listed.getD j true=false→(∀e∈oj.after,Region.binds md e=true→e.on≠i)→oi.apart ops oj=true)→
   i∈Region.ready md ops listed→YieldsIf P ops S oi v a→S w→
   wpAnyZ P md ops Q S z fuel (listed.setIfInBounds i true) (a.put oi.dst v) w→wpAnyZ P md ops Q S z (fuel+1) listed a w:=by
 intro fuel
 induction fuel with
 | zero=>
  intro listed a w _ hr hy hS H
  refine ⟨fun h=>(by rw [h] at hr; cases hr),fun j hj=> ?_⟩
  by_cases hji:j=i
  ·subst hji; exact hy.wpOp hi hS ⟨fun _=>hS,H⟩
  ·have:=ready_mono hj hji
   rw [H.1] at this
   cases this
 | succ fuel ih=>
  intro listed a w hfree hr hy hS H
  refine ⟨fun h=>(by rw [h] at hr; cases hr),fun j hj=> ?_⟩
  by_cases hji:j=i
  ·subst hji; exact hy.wpOp hi hS ⟨fun _=>hS,H⟩
  ·have h1:=H.2 j (ready_mono hj hji)
   obtain ⟨hjun,oj,hoj,hall⟩:=mem_ready.1 hj
   have hnot:∀e∈oj.after,Region.binds md e=true→e.on≠i:=fun e he hb heq=>by
    have h1:=hall e he hb
    have h0:=(mem_ready.1 hr).1
    rw [heq] at h1
    rcases Nat.lt_or_ge i listed.size with h' | h'
    ·simp [h'] at h0 h1; rw [h0] at h1; cases h1
    ·simp [Array.getElem?_eq_none h'] at h1
   have hjz:j≠z:=by
    rintro rfl
    rw [hoj] at hoz
    injection hoz with hoz
    subst hoz
    obtain ⟨e,he,hb,heq⟩:=hwz
    exact hnot e he hb heq
   have h2:=wpOp_putIf hoj (hfree j oj hoj hji hjun hnot) (fun cs b=>hsel i oi cs b hi) (fun cs b=>hsel j oj cs b hoj) hQ hy h1
   have hfree':∀k ok,ops[k]? =some ok→k≠i→(listed.setIfInBounds j true).getD k true=false→
     (∀e∈ok.after,Region.binds md e=true→e.on≠i)→oi.apart ops ok=true:=fun k ok hk hki hun hno=>by
    refine hfree k ok hk hki ?_ hno
    by_cases hjk:j=k
    ·subst hjk; exact hjun
    ·rw [getD_set_ne true hjk] at hun; exact hun
   refine wpOp_mono (fun a' w' h3=>⟨h3.2.1,ih (listed.setIfInBounds j true) a' w' hfree' (ready_mono hr (Ne.symm hji)) h3.1 (h3.2.1 hjz) ?_⟩) h2
   rw [Array.setIfInBounds_comm _ _ hji]
   exact h3.2.2
end
def waitsZ (md:Region.Mode) (l:List Oper) (z i:Nat):Bool:=decide (i≠z)&&decide (z<l.length)&&(nthO l z).after.any (fun e=>Region.binds md e&&e.on==i)
theorem wpAnyZ_still {P:Program} {md:Region.Mode} {l:List Oper} {Q:Exit→Act→World→Prop} {bs:List (Nat×Nat)} {w0 w:World} {z:Nat} (hw0:SameC bs w0 w) (hs:Region.noSelect l.toArray=true) (hQ:∀c a w d v,Q (.panic c) (a.put d v) w→Q (.panic c) a w) {fuel:Nat} {listed':Array Bool} {K:Act→Prop}
  (hK:∀a,K a→wpAnyZ P md l.toArray Q (SameC bs w0) z fuel listed' a w):∀(is:List Nat) (listed:Array Bool) (a:Act),goStill md l listed is=some listed'→(∀i∈is,waitsZ md l z i=true)→wpQuiet P l.toArray (GrowC bs w0) K (pickL l is) a→
   wpAnyZ P md l.toArray Q (SameC bs w0) z (fuel+is.length) listed a w:=by
 intro is
 induction is with
 | nil=>
  intro listed a hg _ h
  simp only [goStill,Option.some.injEq] at hg
  subst hg
  exact hK a h
 | cons i is ih=>
  intro listed a hg hz h
  unfold goStill at hg
  split at hg
  ·rename_i hc
   simp only [Bool.and_eq_true,decide_eq_true_eq] at hc
   obtain ⟨⟨⟨h1,h2⟩,h3⟩,h4⟩:=hc
   have hi:l.toArray[i]? =some (nthO l i):=by simpa using nthO_some h1
   have hzi:=hz i (by simp)
   simp only [waitsZ,Bool.and_eq_true,decide_eq_true_eq,Array.any_eq_true'] at hzi
   obtain ⟨⟨hiz,hzl⟩,e,he,hb⟩:=hzi
   have hoz:l.toArray[z]? =some (nthO l z):=by simpa using nthO_some hzl
   have hwz:∃e∈(nthO l z).after,Region.binds md e=true∧e.on=i:=by
    simp only [beq_iff_eq] at hb
    exact ⟨e,he,hb⟩
   simp only [pickL,wpQuiet] at h
   by_cases hw:Region.wanted (nthO l i) (yielded l.toArray a.tmps)=true
   ·rw [if_pos hw] at h
    obtain ⟨v,hv,hn⟩:=h
    exact wpAnyZ_first hi (Region.noSelect_spec hs) (fun c a w=>hQ c a w _ _) hiz hoz hwz (fuel+is.length) listed a w (Region.free_spec hi h3) (by simpa using h4) (yields_of_quietC h2 hw hv) hw0 (ih _ _ hg (fun i hi=>hz i (by simp [hi])) hn)
   ·rw [if_neg hw] at h
    exact wpAnyZ_first hi (Region.noSelect_spec hs) (fun c a w=>hQ c a w _ _) hiz hoz hwz (fuel+is.length) listed a w (Region.free_spec hi h3) (by simpa using h4) (.inr ⟨by simpa using hw,rfl⟩) hw0 (ih _ _ hg (fun i hi=>hz i (by simp [hi])) h)
  ·cases hg
def wpPhZ (P:Program) (l:List Oper) (Q:Exit→Act→World→Prop) (bs:List (Nat×Nat)) (w0:World) (z:Nat):List (List Nat×Nat)→List Nat→Act→World→Prop
 | [],last,a,w=>wpQuiet P l.toArray (fun w'=>∃x,w'=laterC bs w0 x) (fun a'=>wpList P l.toArray (Exit.then (fun a'' w''=>Q .normal a'' w'') Q) [nthO l z] a' w) (pickL l last) a
 | (is,j)::r,last,a,w=>wpQuiet P l.toArray (fun w'=>∃x,w'=laterC bs w0 x) (fun a'=>wpList P l.toArray (Exit.then (fun a'' w''=>SameC bs w0 w''∧wpPhZ P l Q bs w0 z r last a'' w'') Q) [nthO l j] a' w) (pickL l is) a
def okPhZ (md:Region.Mode) (l:List Oper) (z:Nat):Array Bool→List (List Nat×Nat)→List Nat→Bool
 | listed,[],last=>match goStill md l listed last with
  | some listed'=>decide (z<l.length)&&last.all (waitsZ md l z)&&(Region.ready md l.toArray listed'==[z])&&(Region.ready md l.toArray (listed'.setIfInBounds z true)).isEmpty
  | none=>false
 | listed,(is,j)::r,last=>match goStill md l listed is with
  | some listed'=>decide (j<l.length)&&is.all (waitsZ md l z)&&decide (j≠z)&&(Region.ready md l.toArray listed'==[j])&&okPhZ md l z (listed'.setIfInBounds j true) r last
  | none=>false
theorem wpAnyZ_ph {P:Program} {md:Region.Mode} {l:List Oper} {Q:Exit→Act→World→Prop} {bs:List (Nat×Nat)} {w0:World} {z:Nat} (hs:Region.noSelect l.toArray=true) (hQ:∀c a w d v,Q (.panic c) (a.put d v) w→Q (.panic c) a w) (last:List Nat):
  ∀(ph:List (List Nat×Nat)) (listed:Array Bool) (a:Act) (w:World),SameC bs w0 w→okPhZ md l z listed ph last=true→wpPhZ P l Q bs w0 z ph last a w→wpAnyZ P md l.toArray Q (SameC bs w0) z (phLen ph last+1) listed a w:=by
 intro ph
 induction ph with
 | nil=>
  intro listed a w hw0 ho h
  unfold okPhZ at ho
  cases hg:goStill md l listed last with
  | none=>rw [hg] at ho; simp at ho
  | some listed'=>
   rw [hg] at ho
   simp only [Bool.and_eq_true,decide_eq_true_eq,beq_iff_eq,List.all_eq_true,List.isEmpty_iff] at ho
   obtain ⟨⟨⟨hz,hw⟩,hr⟩,he⟩:=ho
   have:=wpAnyZ_still (fuel:=1) hw0 hs hQ (K:=fun a'=>wpList P l.toArray (Exit.then (fun a'' w''=>Q .normal a'' w'') Q) [nthO l z] a' w) (fun a' ha=> ?_) last listed a hg hw h
   ·rw [Nat.add_comm] at this; exact this
   ·refine ⟨fun h0=>(by rw [hr] at h0; cases h0),fun i hi=> ?_⟩
    rw [hr] at hi
    obtain rfl:i=z:=by simpa using hi
    exact wpOp_mono (fun a'' w'' h'=>⟨fun hne=>absurd rfl hne,he,h'⟩) (wpOp_one hz ha)
 | cons p r ih=>
  obtain ⟨is,j⟩:=p
  intro listed a w hw0 ho h
  unfold okPhZ at ho
  cases hg:goStill md l listed is with
  | none=>rw [hg] at ho; simp at ho
  | some listed'=>
   rw [hg] at ho
   simp only [Bool.and_eq_true,decide_eq_true_eq,beq_iff_eq,List.all_eq_true] at ho
   obtain ⟨⟨⟨⟨hj,hw⟩,hjz⟩,hr⟩,ho⟩:=ho
   have hfu:phLen ((is,j)::r) last+1=(phLen r last+1+1)+is.length:=by simp only [phLen]; omega
   rw [hfu]
   refine wpAnyZ_still (fuel:=phLen r last+1+1) hw0 hs hQ (fun a' ha=> ?_) is listed a hg hw h
   refine ⟨fun h0=>(by rw [hr] at h0; cases h0),fun i hi=> ?_⟩
   rw [hr] at hi
   obtain rfl:i=j:=by simpa using hi
   exact wpOp_mono (fun a'' w'' h'=>⟨fun _=>h'.1,ih _ a'' w'' h'.1 ho h'.2⟩) (wpOp_one hj ha)
theorem wp_region_phZ {P:Program} {id:Nat} {Q:Exit→Act→World→Prop} {a:Act} {w:World} {l:List Oper} (bs:List (Nat×Nat)) (ph:List (List Nat×Nat)) (last:List Nat) (z:Nat) (hm:P.follows .mixedOrders=true)
  (hc:(Region.noSelect l.toArray&&decide (phLen ph last+1=l.length)&&okPhZ .any l z (Array.replicate l.length false) ph last)=true) (hQ:∀c a w d v,Q (.panic c) (a.put d v) w→Q (.panic c) a w)
  (h:wpPhZ P l Q bs w z ph last a w.drew):(Code.region id l.toArray true).wp P Q a w:=by
 simp only [Bool.and_eq_true,decide_eq_true_eq] at hc
 obtain ⟨⟨hs,hl⟩,ho⟩:=hc
 refine wp_region_any hm (wpAny_of_Z (S:=SameC bs w) (z:=z) _ _ _ _ ?_)
 have:=wpAnyZ_ph (P:=P) (md:= .any) (w0:=w) (bs:=bs) hs hQ last ph _ a w.drew (SameC.refl bs w).drew ho h
 rw [hl] at this
 simpa using this
end Go.Proofs.YtfkpghdmljjegaaGreat
