/-
  A room that is being drawn.
-/
import Derived.Test.YtinindjjapblcaaGreatDoorWa16
import Derived.Test.YtinindjjapblcaaGreatDoorWa21
import Derived.Test.YtinindjjapblcaaGreatDoorWa26
import Derived.Test.YtinindjjapblcaaGreatDoorWa27
import Derived.Test.YtinindjjapblcaaGreatDoorWa01
namespace Go.Proofs.YtinindjjapblcaaGreatDoor
open Go.RowKit
structure SizR (r:Room):Prop where
 ns:r.ns.length≤7
 nm:Short r.ns
 ps:r.ps.length≤30
 xs:r.xs.length≤40
 cs:∀x∈r.xs,CSm x
theorem SizR.like {r r':Room} (h:SizR r) (h1:r'.ns=r.ns) (h2:r'.ps=r.ps) (h3:r'.xs=r.xs):SizR r':=⟨h1 ▸ h.ns,h1 ▸ h.nm,h2 ▸ h.ps,h3 ▸ h.xs,h3 ▸ h.cs⟩
theorem appR_same (r:Room) (x:Event):(appR r x).ns=r.ns∧(appR r x).ps=r.ps∧(appR r x).xs=r.xs:=by
 unfold appR
 split
 ·exact ⟨rfl,rfl,rfl⟩
 ·split <;> exact ⟨rfl,rfl,rfl⟩
section
variable {w0 w wr wr':World} {a n c gr lo hi lo' hi':Nat} {A A1 A2 A3 A4 A5 B1 B2 B3 B4 B5:Option Addr} {n1 c1 n2 c2 n3 c3 n4 c4 n5 c5 m1 d1 m2 d2 m3 d3 m4 d4 m5 d5:Nat} {r r':Room}
theorem LRoom.wider (h:LRoom w lo hi A1 A2 A3 A4 A5 n1 c1 n2 c2 n3 c3 n4 c4 n5 c5 r) (h1:lo'≤lo) (h2:hi≤hi'):LRoom w lo' hi' A1 A2 A3 A4 A5 n1 c1 n2 c2 n3 c3 n4 c4 n5 c5 r:=
 ⟨h.own.wider h1 h2,h.r5.base h1,fun q hq=>(h.r6 q hq).base h1,h.sep2⟩
theorem LRoom.onlyA (h:LRoom w lo hi A1 A2 A3 A4 A5 n1 c1 n2 c2 n3 c3 n4 c4 n5 c5 r) (ho:Only a w wr) (ha:a<lo):LRoom wr lo hi A1 A2 A3 A4 A5 n1 c1 n2 c2 n3 c3 n4 c4 n5 c5 r:=
 ⟨h.own.turn (S:=fun b=>b=a) (Turn.of_only ho (fun _=>rfl)) (fun b hb=> .inl (by subst hb; exact ha)),h.r5.only ho ha,fun q hq=>(h.r6 q hq).only ho ha,h.sep2⟩
theorem LRoom.turnR {S:Nat→Prop} (h:LRoom w lo hi A1 A2 A3 A4 A5 n1 c1 n2 c2 n3 c3 n4 c4 n5 c5 r) (k:Turn S w wr) (hs:∀b,S b→∃cs,Row w b 32 cs):LRoom wr lo hi A1 A2 A3 A4 A5 n1 c1 n2 c2 n3 c3 n4 c4 n5 c5 r:=
 ⟨h.own.turnR k hs,h.r5.turnT k (fun b hb hS=>by obtain ⟨cs,hr⟩:=hs b hS; exact h.r5.blk_ne hr (by decide) b hb rfl),fun q hq=>(h.r6 q hq).turnT k (fun b hb hS=>by obtain ⟨cs,hr⟩:=hs b hS; exact (h.r6 q hq).blk_ne hr (by decide) b hb rfl),h.sep2⟩
theorem Row.five {g:Nat} {t:TypeId} {u0 u1 u2 u3 u4 v0 v1 v2 v3 v4:Value} (h:Row w g t [v0,v1,v2,v3,v4]):Row (((((w.setCell ⟨g,0,none⟩ u0).setCell ⟨g,1,none⟩ u1).setCell ⟨g,2,none⟩ u2).setCell ⟨g,3,none⟩ u3).setCell ⟨g,4,none⟩ u4) g t [u0,u1,u2,u3,u4]:=
 ((((h.set_ 0 u0).set_ 1 u1).set_ 2 u2).set_ 3 u3).set_ 4 u4
theorem Only.five (g:Nat) (w:World) (u0 u1 u2 u3 u4:Value):Only g w (((((w.setCell ⟨g,0,none⟩ u0).setCell ⟨g,1,none⟩ u1).setCell ⟨g,2,none⟩ u2).setCell ⟨g,3,none⟩ u3).setCell ⟨g,4,none⟩ u4):=
 (((((Only.refl g w).setCell rfl u0).setCell rfl u1).setCell rfl u2).setCell rfl u3).setCell rfl u4
def DrawnRoom (w0:World) (a:Nat) (A:Option Addr) (n c:Nat) (w:World) (e:Ending) (w':World):Prop:=
 ∃(A1 A2 A3 A4 A5:Option Addr) (n1 c1 n2 c2 n3 c3 n4 c4 n5 c5:Nat) (r:Room),e= .returned (.agg #[.slice A1 n1 c1,.slice A2 n2 c2,.slice A3 n3 c3,.slice A4 n4 c4,.slice A5 n5 c5])∧Src w0 w' a A n c∧Only a w w'∧RoomAt w' A1 A2 A3 A4 A5 n1 c1 n2 c2 n3 c3 n4 c4 n5 c5 r∧(∀b,RBlk A1 A2 A3 A4 A5 n1 n2 n3 n4 n5 r b→w.heap.size<b)∧SizR r∧r.L.length≤200∧r.rs.length≤50∧∀q∈r.rs,q.xs.length≤49
structure FSt (w0 w:World) (a:Nat) (A:Option Addr) (n c gr:Nat) (A1 A2 A3 A4 A5:Option Addr) (n1 c1 n2 c2 n3 c3 n4 c4 n5 c5:Nat) (r:Room) (wr:World):Prop where
 lt:a<w.heap.size
 src:Src w0 wr a A n c
 only:Only a w wr
 res:Row wr w.heap.size 32 [.slice none 0 0,.slice none 0 0,.slice none 0 0,.slice none 0 0,.slice none 0 0]
 var:Row wr gr 32 [.slice A1 n1 c1,.slice A2 n2 c2,.slice A3 n3 c3,.slice A4 n4 c4,.slice A5 n5 c5]
 hgr:w.heap.size<gr
 at_:RoomAt wr A1 A2 A3 A4 A5 n1 c1 n2 c2 n3 c3 n4 c4 n5 c5 r
 far:∀b,RBlk A1 A2 A3 A4 A5 n1 n2 n3 n4 n5 r b→w.heap.size<b
 ngr:∀b,RBlk A1 A2 A3 A4 A5 n1 n2 n3 n4 n5 r b→b≠gr
 siz:SizR r
structure KSt (w0 w:World) (a:Nat) (A:Option Addr) (n c gr:Nat) (A1 A2 A3 A4 A5:Option Addr) (n1 c1 n2 c2 n3 c3 n4 c4 n5 c5:Nat) (r:Room) (wr:World):Prop where
 lt:a<w.heap.size
 src:Src w0 wr a A n c
 only:Only a w wr
 res:Row wr w.heap.size 32 [.slice none 0 0,.slice none 0 0,.slice none 0 0,.slice none 0 0,.slice none 0 0]
 var:Row wr gr 32 [.slice A1 n1 c1,.slice A2 n2 c2,.slice A3 n3 c3,.slice A4 n4 c4,.slice A5 n5 c5]
 hgr:w.heap.size<gr
 room:LRoom wr (w.heap.size+1) wr.heap.size A1 A2 A3 A4 A5 n1 c1 n2 c2 n3 c3 n4 c4 n5 c5 r
 siz:SizR r
theorem KSt.draw (h:KSt w0 w a A n c gr A1 A2 A3 A4 A5 n1 c1 n2 c2 n3 c3 n4 c4 n5 c5 r wr) (hs:Src w0 wr' a A n c) (ho:Only a wr wr'):KSt w0 w a A n c gr A1 A2 A3 A4 A5 n1 c1 n2 c2 n3 c3 n4 c4 n5 c5 r wr':=
 have hl:=h.lt
 have hg:=h.hgr
 ⟨h.lt,hs,h.only.trans ho,h.res.only ho (by omega),h.var.only ho (by omega),h.hgr,(h.room.onlyA ho (by omega)).wider (Nat.le_refl _) ho.size,h.siz⟩
theorem KSt.more (h:KSt w0 w a A n c gr A1 A2 A3 A4 A5 n1 c1 n2 c2 n3 c3 n4 c4 n5 c5 r wr) (hx:Ext wr wr'):KSt w0 w a A n c gr A1 A2 A3 A4 A5 n1 c1 n2 c2 n3 c3 n4 c4 n5 c5 r wr':=h.draw (h.src.more hx) (Only.of_ext hx a)
theorem KSt.next (h:KSt w0 w a A n c gr A1 A2 A3 A4 A5 n1 c1 n2 c2 n3 c3 n4 c4 n5 c5 r wr) (hR:LRoom wr lo' hi' B1 B2 B3 B4 B5 m1 d1 m2 d2 m3 d3 m4 d4 m5 d5 r') (hlo:w.heap.size+1≤lo') (hhi:hi'≤wr.heap.size) (hs:SizR r'):
  KSt w0 w a A n c gr B1 B2 B3 B4 B5 m1 d1 m2 d2 m3 d3 m4 d4 m5 d5 r' (((((wr.setCell ⟨gr,0,none⟩ (.slice B1 m1 d1)).setCell ⟨gr,1,none⟩ (.slice B2 m2 d2)).setCell ⟨gr,2,none⟩ (.slice B3 m3 d3)).setCell ⟨gr,3,none⟩ (.slice B4 m4 d4)).setCell ⟨gr,4,none⟩ (.slice B5 m5 d5)):=by
 have hl:=h.lt
 have hg:=h.hgr
 have hle:=h.src.le0
 have ho:=Only.five gr wr (.slice B1 m1 d1) (.slice B2 m2 d2) (.slice B3 m3 d3) (.slice B4 m4 d4) (.slice B5 m5 d5)
 have hT:=Turn.of_only (S:=fun b=>b=gr) ho (fun _=>rfl)
 refine ⟨hl,h.src.grow ho (fun k hk=>by simp at hk; omega),h.only.grown ho (fun k hk=>by simp at hk; omega),h.res.only ho (by omega),h.var.five,hg,?_,hs⟩
 exact (hR.turnR hT (fun b hb=>by subst hb; exact ⟨_,h.var⟩)).wider hlo (Nat.le_trans hhi ho.size)
theorem KSt.toF (h:KSt w0 w a A n c gr A1 A2 A3 A4 A5 n1 c1 n2 c2 n3 c3 n4 c4 n5 c5 r wr):FSt w0 w a A n c gr A1 A2 A3 A4 A5 n1 c1 n2 c2 n3 c3 n4 c4 n5 c5 r wr:=by
 refine ⟨h.lt,h.src,h.only,h.res,h.var,h.hgr,h.room.own.at_,?_,?_,h.siz⟩
 ·rintro b (hb | hb)
  ·have:=h.room.own.rf b hb; omega
  ·have:=h.room.own.rq b hb; omega
 ·have o:=h.room.own
  rintro b (hb | ⟨q,hq,hb⟩)
  ·simp only [List.mem_cons,List.not_mem_nil,or_false] at hb
   rcases hb with hb | hb | hb | hb | hb
   ·exact o.o1.row_ne h.var (by decide) b hb.symm
   ·exact o.o2.row_ne h.var (by decide) b hb.symm
   ·exact o.o3.row_ne h.var (by decide) b hb.symm
   ·exact o.o4.row_ne h.var (by decide) b hb.symm
   ·exact o.o5.row_ne h.var (by decide) b hb.symm
  ·exact (o.o6 q hq).row_ne h.var (by decide) b hb
theorem FSt.fin (h:FSt w0 w a A n c gr A1 A2 A3 A4 A5 n1 c1 n2 c2 n3 c3 n4 c4 n5 c5 r wr) (hL:r.L.length≤200) (hrs:r.rs.length≤50) (hq:∀q∈r.rs,q.xs.length≤49):DrawnRoom w0 a A n c w (.returned (.agg #[.slice A1 n1 c1,.slice A2 n2 c2,.slice A3 n3 c3,.slice A4 n4 c4,.slice A5 n5 c5])) (putCells wr w.heap.size 0 [.slice A1 n1 c1,.slice A2 n2 c2,.slice A3 n3 c3,.slice A4 n4 c4,.slice A5 n5 c5]):=by
 have hl:=h.lt
 have hle:=h.src.le0
 have ho:Only w.heap.size wr (putCells wr w.heap.size 0 [.slice A1 n1 c1,.slice A2 n2 c2,.slice A3 n3 c3,.slice A4 n4 c4,.slice A5 n5 c5]):=(Only.refl _ _).put _ _
 exact ⟨A1,A2,A3,A4,A5,n1,c1,n2,c2,n3,c3,n4,c4,n5,c5,r,rfl,h.src.put (by omega) (by omega) _ _,h.only.putNew (by omega) _ _,h.at_.turnB (S:=fun b=>b=w.heap.size) (Turn.of_only ho (fun _=>rfl)) (fun b hb e=>by have:=h.far b hb; omega),h.far,h.siz,hL,hrs,hq⟩
theorem FSt.nil (h:FSt w0 w a A n c gr A1 A2 A3 A4 A5 n1 c1 n2 c2 n3 c3 n4 c4 n5 c5 r wr):FSt w0 w a A n c gr A1 A2 A3 A4 none n1 c1 n2 c2 n3 c3 n4 c4 0 0 ⟨r.ns,r.ps,r.xs,r.L,[]⟩ (wr.setCell ⟨gr,4,none⟩ (.slice none 0 0)):=by
 have hl:=h.lt
 have hg:=h.hgr
 have hle:=h.src.le0
 have ho:Only gr wr (wr.setCell ⟨gr,4,none⟩ (.slice none 0 0)):=(Only.refl gr wr).setCell rfl _
 have hT:=Turn.of_only (S:=fun b=>b=gr) ho (fun _=>rfl)
 have hb:∀b,RBlk A1 A2 A3 A4 none n1 n2 n3 n4 0 ⟨r.ns,r.ps,r.xs,r.L,[]⟩ b→RBlk A1 A2 A3 A4 A5 n1 n2 n3 n4 n5 r b:=by
  rintro b (hb | ⟨q,hq,hb⟩)
  ·simp only [List.mem_cons,List.not_mem_nil,or_false] at hb
   rcases hb with hb | hb | hb | hb | hb
   ·exact .inl (by simp [hb])
   ·exact .inl (by simp [hb])
   ·exact .inl (by simp [hb])
   ·exact .inl (by simp [hb])
   ·exact absurd hb.symm (blk_zero _ _)
  ·simp at hq
 have hat:=h.at_.turnB hT (fun b hb e=>h.ngr b hb e)
 exact ⟨hl,h.src.grow ho (fun k hk=>by simp at hk; omega),h.only.grown ho (fun k hk=>by simp at hk; omega),h.res.only ho (by omega),h.var.set_ 4 _,hg,⟨hat.s1,hat.s2,hat.s3,hat.s4,SliceOf.nil.2 (by simp [maxLen]),fun q hq=>by simp at hq⟩,fun b hb'=>h.far b (hb b hb'),fun b hb'=>h.ngr b (hb b hb'),h.siz.like rfl rfl rfl⟩
theorem mem_set0 {rs:List RS} {x q:RS} (h:q∈rs.set 0 x):q=x∨∃j,j≠0∧rs[j]? =some q:=by
 obtain ⟨j,hj⟩:=List.getElem?_of_mem h
 rw [List.getElem?_set] at hj
 split at hj
 ·split at hj
  ·exact .inl (Option.some.inj hj).symm
  ·cases hj
 ·exact .inr ⟨j,by omega,hj⟩
theorem KSt.case1 (h:KSt w0 w a A n c gr A1 A2 A3 A4 A5 n1 c1 n2 c2 n3 c3 n4 c4 n5 c5 r wr) {q:RS} (hq:r.rs[0]? =some q) {W:World} (hx:Ext wr W) (hg:W.grownBy wr' (Value.slice q.A q.n q.c).ownBlock) {QA:Option Addr} {qn qc:Nat} {ys:List Reading}
  (ho:OwnL wr' (w.heap.size+1) 84 2 Reading.cells (.slice QA qn qc) ys) {g5:Nat} (hA5:A5=some ⟨g5,0,none⟩):
  g5<wr'.heap.size∧w.heap.size<g5∧(∀i,wr'.frozen? ⟨g5,i,none⟩=false)∧(∃u,wr'.cell? ⟨g5,0,none⟩=some u)∧SameC [(gr,4),(g5,0)] wr wr'∧Row wr' gr 32 [.slice A1 n1 c1,.slice A2 n2 c2,.slice A3 n3 c3,.slice A4 n4 c4,.slice A5 n5 c5]∧gr≠g5∧FSt w0 w a A n c gr A1 A2 A3 A4 A5 n1 c1 n2 c2 n3 c3 n4 c4 n5 c5 ⟨r.ns,r.ps,r.xs,r.L,r.rs.set 0 ⟨QA,qn,qc,ys⟩⟩ (wr'.setCell ⟨g5,0,none⟩ (.slice QA qn qc)):=by
 subst hA5
 have h':=h.more hx
 have hl:=h.lt
 have hgr:=h.hgr
 have hle:=h.src.le0
 have hm:q∈r.rs:=List.mem_of_getElem? hq
 have hk0:0<r.rs.length:=(List.getElem?_eq_some_iff.1 hq).1
 have rowq:∀b,(Value.slice q.A q.n q.c).ownBlock=some b→∃cs,Row W b 84 cs:=fun b hb=>(h'.room.r6 q hm).row_at hb
 have T1:=Turn.of_grown hg
 have own:=h'.room.own
 have o1:=own.o1.turn T1 (fun b hb hS=>by obtain ⟨cs,hr⟩:=rowq b hS; exact own.o1.row_ne hr (by decide) b hb rfl)
 have o2:=own.o2.turn T1 (fun b hb hS=>by obtain ⟨cs,hr⟩:=rowq b hS; exact own.o2.row_ne hr (by decide) b hb rfl)
 have o3:=own.o3.turn T1 (fun b hb hS=>by obtain ⟨cs,hr⟩:=rowq b hS; exact own.o3.row_ne hr (by decide) b hb rfl)
 have o4:=own.o4.turn T1 (fun b hb hS=>by obtain ⟨cs,hr⟩:=rowq b hS; exact own.o4.row_ne hr (by decide) b hb rfl)
 have r5:=h'.room.r5.turnT T1 (fun b hb hS=>by obtain ⟨cs,hr⟩:=rowq b hS; exact h'.room.r5.blk_ne hr (by decide) b hb rfl)
 have r6:∀p,(∃j,j≠0∧r.rs[j]? =some p)→OwnL wr' (w.heap.size+1) 84 2 Reading.cells (.slice p.A p.n p.c) p.xs:=fun p hp=>by
  obtain ⟨j,hj,hpj⟩:=hp
  refine (h'.room.r6 p (List.mem_of_getElem? hpj)).turnT T1 (fun b hb hS=> ?_)
  exact h'.room.sep2 0 j b (by omega) (by rw [List.getElem?_map,hq]; exact congrArg some hS) (by rw [List.getElem?_map,hpj]; exact congrArg some hb)
 have var:=h'.var.turn T1 (fun hS=>by obtain ⟨cs,hr⟩:=rowq gr hS; exact (h'.room.r6 q hm).blk_ne h'.var (by decide) gr hS rfl)
 have res:=h'.res.turn T1 (fun hS=>by obtain ⟨cs,hr⟩:=rowq _ hS; exact (h'.room.r6 q hm).blk_ne h'.res (by decide) _ hS rfl)
 have src:=h'.src.grow hg (fun k hk=>by have:=(h'.room.r6 q hm).block_le hk; omega)
 have onl:=h'.only.grown hg (fun k hk=> .inl (by have:=(h'.room.r6 q hm).block_le hk; omega))
 have hb5:=r5.ltW (k:=g5) rfl
 obtain ⟨cs5,hr5⟩:=r5.row_at (k:=g5) rfl
 have ho2:Only g5 wr' (wr'.setCell ⟨g5,0,none⟩ (.slice QA qn qc)):=(Only.refl g5 wr').setCell rfl _
 have T2:=Turn.of_only (S:=fun b=>b=g5) ho2 (fun _=>rfl)
 have u1:=o1.turn T2 (fun b hb hS=>o1.row_ne hr5 (by decide) b hb hS)
 have u2:=o2.turn T2 (fun b hb hS=>o2.row_ne hr5 (by decide) b hb hS)
 have u3:=o3.turn T2 (fun b hb hS=>o3.row_ne hr5 (by decide) b hb hS)
 have u4:=o4.turn T2 (fun b hb hS=>o4.row_ne hr5 (by decide) b hb hS)
 have u5:=r5.setT rs_len (k:=0) (y:=(⟨QA,qn,qc,ys⟩:RS)) hk0 rfl
 have u6:∀p∈r.rs.set 0 ⟨QA,qn,qc,ys⟩,OwnL (wr'.setCell ⟨g5,0,none⟩ (.slice QA qn qc)) (w.heap.size+1) 84 2 Reading.cells (.slice p.A p.n p.c) p.xs:=fun p hp=>by
  rcases mem_set0 hp with h1 | h1
  ·subst h1
   exact ho.turnT T2 (fun b hb hS=>by subst hS; exact ho.blk_ne hr5 (by decide) b hb rfl)
  ·exact (r6 p h1).turnT T2 (fun b hb hS=>by subst hS; exact (r6 p h1).blk_ne hr5 (by decide) b hb rfl)
 have hv:=var.only ho2 (fun e=>by subst e; exact r5.blk_ne var (by decide) gr rfl rfl)
 have a5:=u5.toA' rs_len (by decide)
 have a6:=fun p hp=>(u6 p hp).toA' reading_len (by decide)
 have lo:=own.rf
 have hsame:SameC [(gr,4),(g5,0)] wr wr':=by
  intro z hz
  simp only [List.mem_cons,List.not_mem_nil,or_false] at hz
  have g5W:=h'.room.r5.ltW (k:=g5) rfl
  have g5w:=h.room.r5.ltW (k:=g5) rfl
  have grw:=h.var.lt
  rcases hz with rfl | rfl
  ·exact (T1.cell h'.var.lt (fun hS=>by obtain ⟨cs,hr⟩:=rowq gr hS; exact (h'.room.r6 q hm).blk_ne h'.var (by decide) gr hS rfl)).trans (hx.cell gr 4 grw)
  ·exact (T1.cell g5W.2 (fun hS=>by obtain ⟨cs,hr⟩:=rowq g5 hS; exact h'.room.r5.blk_ne hr (by decide) g5 rfl rfl)).trans (hx.cell g5 0 g5w.2)
 refine ⟨hb5.2,by omega,hr5.frozen,?_,hsame,var,fun e=>by subst e; exact r5.blk_ne var (by decide) gr rfl rfl,hl,src.set (by show w0.heap.size≤g5; omega) (by show g5≠a; omega) _,onl.grown ho2 (fun k hk=>by simp at hk; omega),res.only ho2 (by omega),hv,hgr,⟨u1.slice node_len,u2.slice pipe_len,u3.slice contract_len,u4.slice nomination_len,a5.1.slice rs_len,fun p hp=>(a6 p hp).1.slice reading_len⟩,?_,?_,h.siz.like rfl rfl rfl⟩
 ·have hc:=hr5.cell 0
  have hs5:=(r5.slE rs_len (by decide)).get (k:=0) (by rw [h'.room.own.o5.1]; exact hk0)
  obtain ⟨b,off,y,he,_,_,hy⟩:=hs5
  cases he
  exact ⟨_,by simpa using hy 0 _ rfl⟩
 ·rintro b (hb | ⟨p,hp,hb⟩)
  ·have:=lo b hb; omega
  ·have:=(a6 p hp).2 b hb; omega
 ·rintro b (hb | ⟨p,hp,hb⟩)
  ·simp only [List.mem_cons,List.not_mem_nil,or_false] at hb
   rcases hb with hb | hb | hb | hb | hb
   ·exact u1.row_ne hv (by decide) b hb.symm
   ·exact u2.row_ne hv (by decide) b hb.symm
   ·exact u3.row_ne hv (by decide) b hb.symm
   ·exact u4.row_ne hv (by decide) b hb.symm
   ·exact a5.1.row_ne hv (by decide) b hb.symm
  ·exact (a6 p hp).1.row_ne hv (by decide) b hb
theorem KSt.case2 (h:KSt w0 w a A n c gr A1 A2 A3 A4 A5 n1 c1 n2 c2 n3 c3 n4 c4 n5 c5 r wr) (hg:((wr.alloc (.cells #[] 84)).alloc (.cells #[.slice (some ⟨wr.heap.size,0,none⟩) 0 0] 81)).grownBy wr' (Value.slice A5 n5 c5).ownBlock)
  (ho:OwnL wr' (w.heap.size+1) 81 1 RS.cells (.slice B5 m5 d5) (r.rs++[⟨some ⟨wr.heap.size,0,none⟩,0,0,[]⟩])):
  KSt w0 w a A n c gr A1 A2 A3 A4 B5 n1 c1 n2 c2 n3 c3 n4 c4 m5 d5 ⟨r.ns,r.ps,r.xs,r.L,r.rs++[⟨some ⟨wr.heap.size,0,none⟩,0,0,[]⟩]⟩ (wr'.setCell ⟨gr,4,none⟩ (.slice B5 m5 d5))∧Row wr' gr 32 [.slice A1 n1 c1,.slice A2 n2 c2,.slice A3 n3 c3,.slice A4 n4 c4,.slice A5 n5 c5]:=by
 have hx:Ext wr ((wr.alloc (.cells #[] 84)).alloc (.cells #[.slice (some ⟨wr.heap.size,0,none⟩) 0 0] 81)):=(Ext.alloc _ _).and_alloc _
 have nq0:=(own_new wr (w.heap.size+1) 84 2 Reading.cells wr.heap.size rfl h.res.lt).ext (Ext.alloc _ (.cells #[.slice (some ⟨wr.heap.size,0,none⟩) 0 0] 81))
 generalize ((wr.alloc (.cells #[] 84)).alloc (.cells #[.slice (some ⟨wr.heap.size,0,none⟩) 0 0] 81))=W at *
 have h':=h.more hx
 have hl:=h.lt
 have hgr:=h.hgr
 have hle:=h.src.le0
 have own:=h'.room.own
 have rowr:∀b,(Value.slice A5 n5 c5).ownBlock=some b→∃cs,Row W b 81 cs:=fun b hb=>h'.room.r5.row_at hb
 have T1:=Turn.of_grown hg
 have o1:=own.o1.turn T1 (fun b hb hS=>by obtain ⟨cs,hr⟩:=rowr b hS; exact own.o1.row_ne hr (by decide) b hb rfl)
 have o2:=own.o2.turn T1 (fun b hb hS=>by obtain ⟨cs,hr⟩:=rowr b hS; exact own.o2.row_ne hr (by decide) b hb rfl)
 have o3:=own.o3.turn T1 (fun b hb hS=>by obtain ⟨cs,hr⟩:=rowr b hS; exact own.o3.row_ne hr (by decide) b hb rfl)
 have o4:=own.o4.turn T1 (fun b hb hS=>by obtain ⟨cs,hr⟩:=rowr b hS; exact own.o4.row_ne hr (by decide) b hb rfl)
 have r6:∀p∈r.rs,OwnL wr' (w.heap.size+1) 84 2 Reading.cells (.slice p.A p.n p.c) p.xs:=fun p hp=>(h'.room.r6 p hp).turnT T1 (fun b hb hS=>by obtain ⟨cs,hr⟩:=rowr b hS; exact (h'.room.r6 p hp).blk_ne hr (by decide) b hb rfl)
 have nq:=nq0.turnT T1 (fun b hb hS=>by obtain ⟨cs,hr⟩:=rowr b hS; exact nq0.blk_ne hr (by decide) b hb rfl)
 have var:=h'.var.turn T1 (fun hS=>h'.room.r5.blk_ne h'.var (by decide) gr hS rfl)
 have res:=h'.res.turn T1 (fun hS=>h'.room.r5.blk_ne h'.res (by decide) _ hS rfl)
 have src:=h'.src.grow hg (fun k hk=>by have:=h'.room.r5.block_le hk; omega)
 have onl:=h'.only.grown hg (fun k hk=> .inl (by have:=h'.room.r5.block_le hk; omega))
 have ho2:Only gr wr' (wr'.setCell ⟨gr,4,none⟩ (.slice B5 m5 d5)):=(Only.refl gr wr').setCell rfl _
 have T2:=Turn.of_only (S:=fun b=>b=gr) ho2 (fun _=>rfl)
 refine ⟨⟨hl,src.set (by show w0.heap.size≤gr; omega) (by show gr≠a; omega) _,onl.grown ho2 (fun k hk=>by simp at hk; omega),res.only ho2 (by omega),var.set_ 4 _,hgr,?_,h.siz.like rfl rfl rfl⟩,var⟩
 have lo:=own.rf
 refine (LRoom.of o1 o2 o3 o4 (fun b hb=>(lo b (by simp [hb])).1) (fun b hb=>(lo b (by simp [hb])).1) (fun b hb=>(lo b (by simp [hb])).1) (fun b hb=>(lo b (by simp [hb])).1) ho ?_ ?_ ?_).turnR T2 (fun b hb=>by subst hb; exact ⟨_,var⟩) |>.wider (Nat.le_refl _) ho2.size
 ·intro p hp
  rcases List.mem_append.1 hp with hp | hp
  ·exact r6 p hp
  ·obtain rfl:=List.mem_singleton.1 hp; exact nq
 ·rw [List.map_append,List.map_singleton]
  exact sep_snoc own.rr (fun b hb _=>absurd hb (blk_zero _ _))
 ·rw [List.map_append,List.map_singleton]
  refine sep_snoc h'.room.sep2 (fun b hb hm=> ?_)
  obtain ⟨p,hp,hpb⟩:=List.mem_map.1 hm
  have h1:=((h.room.r6 p hp).ltW hpb).2
  have h2:wr.heap.size=b:=by simpa [Value.ownBlock] using hb
  omega
end
end Go.Proofs.YtinindjjapblcaaGreatDoor
