/-
  The helpers of the laws on lists of lists of readings: measuring, copying, comparing.
-/
import Derived.Test.YtfkpghdmljjegaaGreatVe40
import Derived.Test.YtfkpghdmljjegaaGreatVe00
import Derived.Deep.Slices
import Derived.Deep.Fields
import Derived.ChangeSame
import Derived.ProofKit
import Derived.OpenShut
import Derived.ShutString
import Derived.ChangeOld
import Derived.Lib.SmallJoins
import Derived.Laws.IdiomStrings
import Derived.Laws.BytesString
import Derived.Test.YtfkpghdmljjegaaGreatProg
import Derived.Test.YtfkpghdmljjegaaGreatVe01
import Derived.Test.YtfkpghdmljjegaaGreatVe34
import Derived.Test.YtfkpghdmljjegaaGreatVe33
namespace Go.Proofs.YtfkpghdmljjegaaGreat
open Go.RowKit
def OwnRS (w:World) (g:Nat) (q:RS):Prop:=∃g1,g<g1∧q.A=some ⟨g1,0,none⟩∧q.n=q.xs.length∧q.c=q.xs.length∧q.xs.length≤1048576∧RowOf w g1 176 Reading.cells q.xs
theorem OwnRS.ext {w w':World} {g:Nat} {q:RS} (h:OwnRS w g q) (hx:Ext w w'):OwnRS w' g q:=let ⟨g1,a,b,c,d,e,r⟩:=h; ⟨g1,a,b,c,d,e,r.ext hx⟩
theorem OwnRS.set {w:World} {g o:Nat} {q:RS} (h:OwnRS w g q) (u:Value):OwnRS (w.setCell ⟨g,o,none⟩ u) g q:=let ⟨g1,a,b,c,d,e,r⟩:=h; ⟨g1,a,b,c,d,e,r.far (p:=⟨g,o,none⟩) (by show g1≠g; omega) u⟩
theorem OwnRS.slice {w:World} {g:Nat} {q:RS} (h:OwnRS w g q):SliceOf w 2 Reading.cells q.A q.n q.c q.xs:=by
 obtain ⟨g1,_,hA,hn,hc,hl,r⟩:=h
 rw [hA,hc,hn]
 exact r.slice reading_len rfl (by omega)
def RsApart (rs:List RS):Prop:=∀(i j:Nat) (q q':RS),i≠j→rs[i]? =some q→rs[j]? =some q'→q.A≠q'.A
end Go.Proofs.YtfkpghdmljjegaaGreat
namespace Go.Proofs.YtfkpghdmljjegaaGreat
open Go.RowKit
structure RoomSz (r:Room) (n1 n2 n3 n4 n5:Nat):Prop where
 n1:n1≤1048576
 nm:Named r.ns
 n2:n2≤1048576
 n3:n3≤1048576
 n4:n4≤1048576
 n5:n5≤1048576
 n6:∀q∈r.rs,q.n≤1048576
 n7:(r.rs.map RS.n).sum≤1048576
def Room.Like (r r':Room):Prop:=r.ns=r'.ns∧r.ps=r'.ps∧r.xs=r'.xs∧r.L=r'.L∧r.rs.map RS.xs=r'.rs.map RS.xs
theorem Room.Like.symm {r r':Room} (h:r.Like r'):r'.Like r:=⟨h.1.symm,h.2.1.symm,h.2.2.1.symm,h.2.2.2.1.symm,h.2.2.2.2.symm⟩
theorem Room.Like.trans {r r' r'':Room} (h:r.Like r') (k:r'.Like r''):r.Like r'':=⟨h.1.trans k.1,h.2.1.trans k.2.1,h.2.2.1.trans k.2.2.1,h.2.2.2.1.trans k.2.2.2.1,h.2.2.2.2.trans k.2.2.2.2⟩
theorem roomB_like {n1:Int} {r r':Room} (h:r.Like r'):roomB n1 r=roomB n1 r':=by
 obtain ⟨h1,h2,h3,h4,h5⟩:=h
 have hl:=congrArg List.length h5
 simp at hl
 have ha:∀rs:List RS,rs.all (fun q=>readsB n1 q.xs)=(rs.map RS.xs).all (readsB n1):=fun rs=>by rw [List.all_map]; rfl
 unfold roomB
 rw [h1,h2,h3,h4,hl,ha,ha,h5]
end Go.Proofs.YtfkpghdmljjegaaGreat
namespace Go.Proofs.YtfkpghdmljjegaaGreat
open Go.Joins Go.RowKit Go.ChangeShapes Go.WideShapes Go.Deep
section
variable {H:Type} {enc:TypeId×Value→H} {P:Program} {w:World} {base:Nat} {spare:Nat→Bool} {held:Bool}
theorem mk_list {α:Type} {p:Nat→α→Prop} (n:Nat) (h:∀i,i<n→∃x,p i x):∃xs:List α,xs.length=n∧∀i x,xs[i]? =some x→p i x:=by
 induction n with
 | zero=>exact ⟨[],rfl,fun i x hx=>by simp at hx⟩
 | succ n ih=>
  obtain ⟨xs,hl,hp⟩:=ih (fun i hi=>h i (by omega))
  obtain ⟨x,hx⟩:=h n (by omega)
  refine ⟨xs++[x],by simp [hl],fun i y hy=> ?_⟩
  by_cases hi:i<n
  ·rw [List.getElem?_append_left (by omega)] at hy; exact hp i y hy
  ·have hlt:i<(xs++[x]).length:=(List.getElem?_eq_some_iff.1 hy).1
   have:i=n:=by simp [hl] at hlt; omega
   subst this
   rw [List.getElem?_append_right (by omega)] at hy
   simp [hl] at hy
   subst hy
   exact hx
theorem open_nums {t e:TypeId} {k:IntKind} {fuel:Nat} {v:Value} {x:DataW H×List MemPlace} (ht:P.underlying t=some (.slice e)) (he:P.underlying e=some (.int k))
  (hC:P.cellsOf e=1) (h:DataW.trod enc P w base spare held fuel t [v]=some x):
  ∃(A:Option Addr) (n c:Nat) (zs:List Int),v= .slice A n c∧(∀z∈zs,(Lit.int k z).wf=true)∧SliceOf w 1 (fun z=>[Value.int k z]) A n c zs:=by
 rcases open_slice ht h with ⟨h0,_⟩ | ⟨a,len,cap,m,n,D,Pl,hcs,hb,hl,hm,hmm,hx,hi⟩
 ·simp at h0
  exact ⟨none,0,0,[],h0,by simp,by simp [SliceOf]⟩
 ·simp at hcs
  have hlm:len≤m:=by rw [hmm]; split <;> omega
  have hel:∀i,i<len→∃z:Int,(Lit.int k z).wf=true∧w.cell? (a.add i)=some (.int k z):=by
   intro i hil
   obtain ⟨cs',hc,ht'⟩:=hi i (by omega)
   rw [hC,Nat.mul_one] at hc
   obtain ⟨_,hcl,hat⟩:=World.cells?_some hc
   obtain ⟨z,hz,_,hwf⟩:=DataW.trod_int he ht'
   refine ⟨z,hwf,?_⟩
   have:=hat 0 (by omega)
   rw [hz] at this
   simpa [Go.Deep.add_add] using this
  obtain ⟨zs,hzl,hzp⟩:=mk_list len hel
  refine ⟨some a,len,cap,zs,hcs,?_,hzl.symm,hl,hm,fun hn=> ?_⟩
  ·intro z hz
   obtain ⟨i,hi',hii⟩:=List.mem_iff_getElem.1 hz
   exact (hzp i z (by rw [List.getElem?_eq_getElem hi',hii])).1
  ·obtain ⟨z0,hz0⟩:∃z,zs[0]? =some z:=⟨_,List.getElem?_eq_getElem (by omega)⟩
   have hcell:=(hzp 0 z0 hz0).2
   obtain ⟨b,off,spot⟩:=a
   have hspot:spot=none:=by simpa [Addr.add] using World.cell?_spot hcell
   subst hspot
   have hadd:∀k,(Addr.add ⟨b,off,none⟩ k)=⟨b,off+k,none⟩:=fun k=>by unfold Addr.add; split <;> simp_all
   refine ⟨b,off,rfl,?_,fun i z hz j u hu=> ?_⟩
   ·have:=World.block_lt_of_cell? w _ hcell
    rw [hadd] at this
    exact this
   ·have:=(hzp i z hz).2
    rw [hadd] at this
    cases j with
    | zero=>simp at hu; subst hu; simpa using this
    | succ j=>simp at hu
theorem SliceOf.map {α β:Type} {size:Nat} {f:α→List Value} {f':β→List Value} {A:Option Addr} {n c:Nat} {xs:List α} (h:SliceOf w size f A n c xs) (g:α→β) (hg:∀x∈xs,f' (g x)=f x):
  SliceOf w size f' A n c (xs.map g):=by
 obtain ⟨h1,h2,h3,h4⟩:=h
 refine ⟨by simpa using h1,h2,h3,fun hn=> ?_⟩
 obtain ⟨b,off,hA,hb,hc⟩:=h4 hn
 refine ⟨b,off,hA,hb,fun i y hy j u hu=> ?_⟩
 rw [List.getElem?_map] at hy
 cases hx:xs[i]? with
 | none=>rw [hx] at hy; simp at hy
 | some x=>
  rw [hx] at hy
  simp at hy
  subst hy
  exact hc i x hx j u (by rw [←hg x (List.mem_of_getElem? hx)]; exact hu)
end
end Go.Proofs.YtfkpghdmljjegaaGreat
namespace Go.Proofs.YtfkpghdmljjegaaGreat
open Go.Joins Go.RowKit Go.ChangeShapes Go.WideShapes Go.Deep
section
variable {H:Type} {enc:TypeId×Value→H} {P:Program} {w:World} {base:Nat} {spare:Nat→Bool} {held:Bool}
theorem pick_list {β:Type} {f':β→List Value} {p:β→Prop} (xss:List (List Value)) (hp:∀vs∈xss,∃y:β,f' y=vs∧p y):∃ys:List β,ys.map f'=xss∧∀y∈ys,p y:=by
 induction xss with
 | nil=>exact ⟨[],rfl,by simp⟩
 | cons vs rest ih=>
  obtain ⟨ys,h1,h2⟩:=ih (fun v hv=>hp v (List.mem_cons_of_mem _ hv))
  obtain ⟨y,h3,h4⟩:=hp vs (List.mem_cons_self ..)
  refine ⟨y::ys,by rw [List.map_cons,h1,h3],fun z hz=> ?_⟩
  rcases List.mem_cons.1 hz with rfl | hz
  ·exact h4
  ·exact h2 z hz
theorem SliceOf.pick {β:Type} {size:Nat} {f':β→List Value} {p:β→Prop} {A:Option Addr} {n c:Nat} {xss:List (List Value)} (h:SliceOf w size id A n c xss) (hp:∀vs∈xss,∃y:β,f' y=vs∧p y):
  ∃ys:List β,SliceOf w size f' A n c ys∧∀y∈ys,p y:=by
 obtain ⟨ys,hy,hq⟩:=pick_list xss hp
 subst hy
 obtain ⟨h1,h2,h3,h4⟩:=h
 refine ⟨ys,⟨by simpa using h1,h2,h3,fun hn=> ?_⟩,hq⟩
 obtain ⟨b,off,hA,hb,hc⟩:=h4 hn
 refine ⟨b,off,hA,hb,fun i y hy j u hu=>hc i (f' y) ?_ j u hu⟩
 rw [List.getElem?_map,hy]; rfl
end
end Go.Proofs.YtfkpghdmljjegaaGreat
namespace Go.Proofs.YtfkpghdmljjegaaGreat
open Go.RowKit Go.ChangeShapes Go.WideShapes Go.ChangeAt Go.Deep Go.Joins
def CopiedRoom (r:Room) (w:World) (e:Ending) (w':World):Prop:=
 ∃g1 g2 g3 g4 g5 rs',e= .returned (.agg #[.slice (some ⟨g1,0,none⟩) r.ns.length r.ns.length,.slice (some ⟨g2,0,none⟩) r.ps.length r.ps.length,.slice (some ⟨g3,0,none⟩) r.xs.length r.xs.length,.slice (some ⟨g4,0,none⟩) r.L.length r.L.length,.slice (some ⟨g5,0,none⟩) r.rs.length r.rs.length])∧
  w.heap.size≤g1∧g1<g2∧g2<g3∧g3<g4∧g4<g5∧RowOf w' g1 223 Node.cells r.ns∧RowOf w' g2 181 Pipe.cells r.ps∧RowOf w' g3 153 Contract.cells r.xs∧RowOf w' g4 157 Nomination.cells r.L∧
  RowOf w' g5 60 RS.cells rs'∧rs'.map RS.xs=r.rs.map RS.xs∧(∀q∈rs',OwnRS w' g5 q)∧RsApart rs'∧Ext w w'
theorem OwnRS.far {w:World} {g:Nat} {q:RS} (h:OwnRS w g q) {p:Addr} (hp:p.block≤g) (u:Value):OwnRS (w.setCell p u) g q:=let ⟨g1,a,b,c,d,e,r⟩:=h; ⟨g1,a,b,c,d,e,r.far (by omega) u⟩
section
variable {H:Type} {enc:TypeId×Value→H} {w:World} {base:Nat} {spare:Nat→Bool} {held:Bool}
end
end Go.Proofs.YtfkpghdmljjegaaGreat
namespace Go.Proofs.YtfkpghdmljjegaaGreat
open Go.RowKit Go.ChangeShapes Go.WideShapes Go.ChangeAt Go.Deep Go.Joins
def roomOk (r:Room):Bool:=roomB r.ns.length r
def RoomLen (r:Room):Prop:=r.ns.length≤1048576∧Named r.ns∧r.ps.length≤1048576∧r.xs.length≤1048576∧r.L.length≤1048576∧r.rs.length≤1048576∧(∀q∈r.rs,q.xs.length≤1048576)∧((r.rs.map RS.xs).map List.length).sum≤1048576
section
variable {w w':World} {A1 A2 A3 A4 A5:Option Addr} {n1 c1 n2 c2 n3 c3 n4 c4 n5 c5:Nat} {r r':Room}
theorem RoomAt.ok (h:RoomAt w A1 A2 A3 A4 A5 n1 c1 n2 c2 n3 c3 n4 c4 n5 c5 r') (hl:r'.Like r):roomB n1 r'=roomOk r:=by
 unfold roomOk
 rw [h.s1.len,hl.1,roomB_like hl]
end
def RoomOf (r:Room) (w:World) (e:Ending) (w':World):Prop:=∃(A1 A2 A3 A4 A5:Option Addr) (n1 c1 n2 c2 n3 c3 n4 c4 n5 c5:Nat) (r':Room),e= .returned (.agg #[.slice A1 n1 c1,.slice A2 n2 c2,.slice A3 n3 c3,.slice A4 n4 c4,.slice A5 n5 c5])∧RoomAt w' A1 A2 A3 A4 A5 n1 c1 n2 c2 n3 c3 n4 c4 n5 c5 r'∧r'.Like r∧Ext w w'
theorem CopiedRoom.of {r:Room} {w w':World} {e:Ending} (hl:RoomLen r) (h:CopiedRoom r w e w'):RoomOf r w e w':=by
 obtain ⟨g1,g2,g3,g4,g5,rs',rfl,_,_,_,_,_,r1,r2,r3,r4,r5,hm,ho,_,hx⟩:=h
 obtain ⟨k1,_,k2,k3,k4,k5,_⟩:=hl
 have hlen:=congrArg List.length hm
 simp at hlen
 exact ⟨_,_,_,_,_,_,_,_,_,_,_,_,_,_,_,⟨r.ns,r.ps,r.xs,r.L,rs'⟩,rfl,⟨r1.slice node_len rfl (by omega),r2.slice pipe_len rfl (by omega),r3.slice contract_len rfl (by omega),r4.slice nomination_len rfl (by omega),r5.slice rs_len hlen.symm (by omega),fun q hq=>(ho q hq).slice⟩,⟨rfl,rfl,rfl,rfl,hm⟩,hx⟩
end Go.Proofs.YtfkpghdmljjegaaGreat
namespace Go.Proofs.YtfkpghdmljjegaaGreat
open Go.RowKit
def mtGo (k:Nat) (out:ByteArray):ByteArray:=if _h:k=0 then out else mtGo (k/10) (⟨#[48+UInt8.ofNat (k % 10)]⟩++out)
termination_by k
decreasing_by omega
def mtext (k:Int):ByteArray:=if k≤0 then ⟨#[109,48]⟩ else ⟨#[109]⟩++mtGo k.toNat ByteArray.empty
end Go.Proofs.YtfkpghdmljjegaaGreat
namespace Go.Proofs.YtfkpghdmljjegaaGreat
open Go.RowKit
def markNode (a:Int) (n:Nat):List Node:=(List.range n).map fun (i:Nat)=>⟨mtext (a+3*(i:Int)),a+3*(i:Int)+1,a+3*(i:Int)+2⟩
end Go.Proofs.YtfkpghdmljjegaaGreat
namespace Go.Proofs.YtfkpghdmljjegaaGreat
open Go.RowKit
def markRS:Int→List RS→List RS
 | _,[]=>[]
 | a,q::t=>⟨q.A,q.n,q.c,markReading a q.n⟩::markRS (a+2*q.n) t
def rsBlk (rs:List RS) (b:Nat):Prop:=∃q∈rs,blkOf q.A q.n=some b
structure MarkedRS (rs:List RS) (a:Int) (w:World) (e:Ending) (w':World):Prop where
 e:e= .returned (.int .i64 (a+2*((rs.map RS.n).sum:Nat)))
 own:∀q∈markRS a rs,OwnA w' 176 Reading.cells q.A q.n q.c q.xs
 turn:Turn (rsBlk rs) w w'
end Go.Proofs.YtfkpghdmljjegaaGreat
namespace Go.Proofs.YtfkpghdmljjegaaGreat
open Go.RowKit
structure MarkedNet (A1 A2:Option Addr) (n1 c1 n2 c2:Nat) (a:Int) (w:World) (e:Ending) (w':World):Prop where
 e:e= .returned (.int .i64 (a+3*n1+5*n2))
 o1:OwnA w' 223 Node.cells A1 n1 c1 (markNode a n1)
 o2:OwnA w' 181 Pipe.cells A2 n2 c2 (markPipe (a+3*n1) n2)
 turn:Turn (fun b=>blkOf A1 n1=some b∨blkOf A2 n2=some b) w w'
structure ROwn (w:World) (lo hi:Nat) (A1 A2 A3 A4 A5:Option Addr) (n1 c1 n2 c2 n3 c3 n4 c4 n5 c5:Nat) (r:Room):Prop where
 o1:OwnA w 223 Node.cells A1 n1 c1 r.ns
 o2:OwnA w 181 Pipe.cells A2 n2 c2 r.ps
 o3:OwnA w 153 Contract.cells A3 n3 c3 r.xs
 o4:OwnA w 157 Nomination.cells A4 n4 c4 r.L
 o5:OwnA w 60 RS.cells A5 n5 c5 r.rs
 o6:∀q∈r.rs,OwnA w 176 Reading.cells q.A q.n q.c q.xs
 ff:SepL [blkOf A1 n1,blkOf A2 n2,blkOf A3 n3,blkOf A4 n4,blkOf A5 n5]
 rr:SepL (r.rs.map fun q=>blkOf q.A q.n)
 fr:∀b,some b∈[blkOf A1 n1,blkOf A2 n2,blkOf A3 n3,blkOf A4 n4,blkOf A5 n5]→¬rsBlk r.rs b
 rf:∀b,some b∈[blkOf A1 n1,blkOf A2 n2,blkOf A3 n3,blkOf A4 n4,blkOf A5 n5]→lo≤b∧b<hi
 rq:∀b,rsBlk r.rs b→lo≤b∧b<hi
section
variable {w w':World} {lo hi:Nat} {A1 A2 A3 A4 A5:Option Addr} {n1 c1 n2 c2 n3 c3 n4 c4 n5 c5:Nat} {r:Room}
theorem ROwn.ext (h:ROwn w lo hi A1 A2 A3 A4 A5 n1 c1 n2 c2 n3 c3 n4 c4 n5 c5 r) (hx:Ext w w'):ROwn w' lo hi A1 A2 A3 A4 A5 n1 c1 n2 c2 n3 c3 n4 c4 n5 c5 r:=
 ⟨h.o1.ext hx,h.o2.ext hx,h.o3.ext hx,h.o4.ext hx,h.o5.ext hx,fun q hq=>(h.o6 q hq).ext hx,h.ff,h.rr,h.fr,h.rf,h.rq⟩
theorem ROwn.turn {S:Nat→Prop} (h:ROwn w lo hi A1 A2 A3 A4 A5 n1 c1 n2 c2 n3 c3 n4 c4 n5 c5 r) (k:Turn S w w') (hs:∀b,S b→b<lo∨hi≤b):ROwn w' lo hi A1 A2 A3 A4 A5 n1 c1 n2 c2 n3 c3 n4 c4 n5 c5 r:=by
 have g:∀b,some b∈[blkOf A1 n1,blkOf A2 n2,blkOf A3 n3,blkOf A4 n4,blkOf A5 n5]→¬S b:=fun b hb hS=>by have:=h.rf b hb; have:=hs b hS; omega
 exact ⟨h.o1.turn k (fun b hb=>g b (by simp [hb])),h.o2.turn k (fun b hb=>g b (by simp [hb])),h.o3.turn k (fun b hb=>g b (by simp [hb])),h.o4.turn k (fun b hb=>g b (by simp [hb])),h.o5.turn k (fun b hb=>g b (by simp [hb])),
  fun q hq=>(h.o6 q hq).turn k (fun b hb hS=>by have:=h.rq b ⟨q,hq,hb⟩; have:=hs b hS; omega),h.ff,h.rr,h.fr,h.rf,h.rq⟩
theorem ROwn.at_ (h:ROwn w lo hi A1 A2 A3 A4 A5 n1 c1 n2 c2 n3 c3 n4 c4 n5 c5 r):RoomAt w A1 A2 A3 A4 A5 n1 c1 n2 c2 n3 c3 n4 c4 n5 c5 r:=
 ⟨h.o1.slice node_len,h.o2.slice pipe_len,h.o3.slice contract_len,h.o4.slice nomination_len,h.o5.slice rs_len,fun q hq=>(h.o6 q hq).slice reading_len⟩
end
def markR (a:Int) (n1 n2 n3 n4:Nat) (rs:List RS):Room:=
 ⟨markNode a n1,markPipe (a+3*n1) n2,markContract (a+3*n1+5*n2) n3,markNomination (a+3*n1+5*n2+8*n3) n4,markRS (a+3*n1+5*n2+8*n3+4*n4) rs⟩
def markN (a:Int) (n1 n2 n3 n4:Nat) (rs:List RS):Int:=a+3*n1+5*n2+8*n3+4*n4+2*((rs.map RS.n).sum:Nat)
structure MarkedRoom (lo hi:Nat) (A1 A2 A3 A4 A5:Option Addr) (n1 c1 n2 c2 n3 c3 n4 c4 n5 c5:Nat) (rs:List RS) (a:Int) (w:World) (e:Ending) (w':World):Prop where
 e:e= .returned (.int .i64 (markN a n1 n2 n3 n4 rs))
 own:RoomAt w' A1 A2 A3 A4 A5 n1 c1 n2 c2 n3 c3 n4 c4 n5 c5 (markR a n1 n2 n3 n4 rs)
 turn:Turn (fun b=>lo≤b∧b<hi) w w'
structure RoomSm (n1 n2 n3 n4:Nat) (rs:List RS):Prop where
 m1:n1≤1048576
 m2:n2≤1048576
 m3:n3≤1048576
 m4:n4≤1048576
 m5:(rs.map RS.n).sum≤1048576
end Go.Proofs.YtfkpghdmljjegaaGreat
namespace Go.Proofs.YtfkpghdmljjegaaGreat
open Go.RowKit
structure NBoxL (w:World) (b:Nat) (A1 A2:Option Addr) (n1 c1 n2 c2:Nat):Prop where
 lt:b<w.heap.size
 x0:w.cell? ⟨b,0,none⟩=some (.slice A1 n1 c1)
 x1:w.cell? ⟨b,1,none⟩=some (.slice A2 n2 c2)
theorem NBoxL.ext {w w':World} {b:Nat} {A1 A2:Option Addr} {n1 c1 n2 c2:Nat} (h:NBoxL w b A1 A2 n1 c1 n2 c2) (hx:Ext w w'):NBoxL w' b A1 A2 n1 c1 n2 c2:=
 ⟨Nat.lt_of_lt_of_le h.lt hx.size,(hx.cell _ _ h.lt).trans h.x0,(hx.cell _ _ h.lt).trans h.x1⟩
theorem NBoxL.new (w:World) (A1 A2:Option Addr) (n1 c1 n2 c2:Nat) (t:TypeId):NBoxL (w.alloc (.cells #[.slice A1 n1 c1,.slice A2 n2 c2] t)) w.heap.size A1 A2 n1 c1 n2 c2:=by
 have hR:=Row.new w t [.slice A1 n1 c1,.slice A2 n2 c2]
 exact ⟨by simp,hR.cell 0,hR.cell 1⟩
theorem blk_is {g n b:Nat} (h:blkOf (some ⟨g,0,none⟩) n=some b):b=g:=by
 unfold blkOf at h
 split at h
 ·cases h
 ·simpa using h.symm
end Go.Proofs.YtfkpghdmljjegaaGreat
