/-
  Clones of slices and of networks, of the program and of the reference.
-/
import Derived.Test.YtfkpghdmljjegaaGreatVe06
import Derived.Test.YtfkpghdmljjegaaGreatVe03
import Derived.Test.YtfkpghdmljjegaaGreatVe01
import Derived.Test.YtfkpghdmljjegaaGreatVe02
import Derived.Test.YtfkpghdmljjegaaGreatVe07
import Derived.Test.YtfkpghdmljjegaaGreatVe41
import Derived.Test.YtfkpghdmljjegaaGreatVe00
import Derived.Test.YtfkpghdmljjegaaGreatVe24
import Derived.Deep.Cut
namespace Go.Proofs.YtfkpghdmljjegaaGreat
open Go.RowKit
theorem OwnA.far {α:Type} {w:World} {t:TypeId} {f:α→List Value} {A:Option Addr} {n c:Nat} {xs:List α} (h:OwnA w t f A n c xs) {p:Addr} (hp:∀b,blkOf A n=some b→b≠p.block) (u:Value):OwnA (w.setCell p u) t f A n c xs:=
 ⟨h.1,h.2.1,h.2.2.1,fun hn=>let ⟨g,hA,r,hr⟩:=h.2.2.2 hn; ⟨g,hA,r,hr.far (hp g (by unfold blkOf; rw [if_neg (by omega),hA]; rfl)) u⟩⟩
theorem OwnL.blk_ne {α:Type} {w:World} {base:Nat} {e:TypeId} {size:Nat} {f:α→List Value} {v:Value} {L:List α} {g:Nat} {cs:List Value} {t:TypeId} (h:OwnL w base e size f v L) (hr:Row w g t cs) (ht:t≠e):∀k,v.ownBlock=some k→some g≠some k:=by
 intro k hk he
 injection he with he
 subst he
 rcases h.2 with ⟨rfl,_⟩ | ⟨k',cap,cur,rfl,hb,hh,_⟩
 ·simp [Value.ownBlock] at hk
 ·simp [Value.ownBlock] at hk
  subst hk
  unfold Row at hr
  rw [hh] at hr
  simp at hr
  exact ht hr.2.symm
theorem OwnL.far {α:Type} {w:World} {base:Nat} {e:TypeId} {size:Nat} {f:α→List Value} {v:Value} {L:List α} (h:OwnL w base e size f v L) {p:Addr} (hp:p.block<base) (u:Value):OwnL (w.setCell p u) base e size f v L:=by
 obtain ⟨h1,h2⟩:=h
 refine ⟨h1,?_⟩
 rcases h2 with h2 | ⟨k,cap,cur,hv,hb,hh,r⟩
 ·exact .inl h2
 ·exact .inr ⟨k,cap,cur,hv,hb,(Below.heap_setCell w p u k (by omega)).trans hh,r⟩
end Go.Proofs.YtfkpghdmljjegaaGreat
namespace Go.Proofs.YtfkpghdmljjegaaGreat
open Go.RowKit
end Go.Proofs.YtfkpghdmljjegaaGreat
namespace Go.Proofs.YtfkpghdmljjegaaGreat
open Go.RowKit
structure Event where
 kind:Int
 a:Int
 b:Int
 c:Int
 d:Int
def Event.cells (x:Event):List Value:=[.int .i64 x.kind,.int .i64 x.a,.int .i64 x.b,.int .i64 x.c,.int .i64 x.d]
end Go.Proofs.YtfkpghdmljjegaaGreat
namespace Go.Proofs.YtfkpghdmljjegaaGreat
open Go.RowKit
structure RoomFits (r:Room):Prop where
 L:r.L.length≤200
 rs:r.rs.length≤48
 xs:∀q∈r.rs,q.xs.length≤48
end Go.Proofs.YtfkpghdmljjegaaGreat
namespace Go.Proofs.YtfkpghdmljjegaaGreat
open Go.RowKit
theorem OwnA.row_ne {α:Type} {w:World} {t t':TypeId} {f:α→List Value} {A:Option Addr} {n c:Nat} {xs:List α} {g:Nat} {cs:List Value} (h:OwnA w t f A n c xs) (hr:Row w g t' cs) (ht:t≠t') (b:Nat) (hb:blkOf A n=some b):b≠g:=by
 rintro rfl
 obtain ⟨g',ho,_⟩:=h.own
 obtain ⟨rfl,hn⟩:=ho.blk hb
 obtain ⟨_,r,hr'⟩:=ho.2 hn
 unfold Row at hr hr'
 rw [hr] at hr'
 simp at hr'
 exact ht hr'.2.symm
structure CMid (W0:World) (wx:World) (gO:Nat) (B1 B2 B3 B4:Option Addr) (k1 d1 k2 d2 k3 d3 k4 d4:Nat) (v:Value) (ns:List Node) (ps:List Pipe) (xs:List Contract) (L:List Nomination):Prop where
 lo:W0.heap.size≤gO
 row:Row wx gO 82 [.slice B1 k1 d1,.slice B2 k2 d2,.slice B3 k3 d3,.slice B4 k4 d4,v]
 o1:OwnA wx 223 Node.cells B1 k1 d1 ns
 o2:OwnA wx 181 Pipe.cells B2 k2 d2 ps
 o3:OwnA wx 153 Contract.cells B3 k3 d3 xs
 o4:OwnA wx 157 Nomination.cells B4 k4 d4 L
 l1:∀b,blkOf B1 k1=some b→W0.heap.size≤b
 l2:∀b,blkOf B2 k2=some b→W0.heap.size≤b
 l3:∀b,blkOf B3 k3=some b→W0.heap.size≤b
 l4:∀b,blkOf B4 k4=some b→W0.heap.size≤b
 ext:Ext W0 wx
section
variable {W0 wx wy:World} {gO:Nat} {B1 B2 B3 B4:Option Addr} {k1 d1 k2 d2 k3 d3 k4 d4:Nat} {v:Value} {ns:List Node} {ps:List Pipe} {xs:List Contract} {L:List Nomination}
theorem CMid.turn {S:Nat→Prop} (h:CMid W0 wx gO B1 B2 B3 B4 k1 d1 k2 d2 k3 d3 k4 d4 v ns ps xs L) (k:Turn S wx wy) (hO:¬S gO) (h1:∀b,blkOf B1 k1=some b→¬S b) (h2:∀b,blkOf B2 k2=some b→¬S b) (h3:∀b,blkOf B3 k3=some b→¬S b) (h4:∀b,blkOf B4 k4=some b→¬S b) (hS:∀b,S b→W0.heap.size≤b):CMid W0 wy gO B1 B2 B3 B4 k1 d1 k2 d2 k3 d3 k4 d4 v ns ps xs L:=
 ⟨h.lo,h.row.turn k hO,h.o1.turn k h1,h.o2.turn k h2,h.o3.turn k h3,h.o4.turn k h4,h.l1,h.l2,h.l3,h.l4,h.ext.turn k hS⟩
theorem CMid.put (h:CMid W0 wx gO B1 B2 B3 B4 k1 d1 k2 d2 k3 d3 k4 d4 v ns ps xs L) (u:Value):CMid W0 (wx.setCell ⟨gO,4,none⟩ u) gO B1 B2 B3 B4 k1 d1 k2 d2 k3 d3 k4 d4 u ns ps xs L:=
 ⟨h.lo,h.row.set_ 4 u,h.o1.far (h.o1.row_ne h.row (by decide)) u,h.o2.far (h.o2.row_ne h.row (by decide)) u,h.o3.far (h.o3.row_ne h.row (by decide)) u,h.o4.far (h.o4.row_ne h.row (by decide)) u,h.l1,h.l2,h.l3,h.l4,h.ext.setCell h.lo u⟩
end
theorem OwnL.far_ne {α:Type} {w:World} {base:Nat} {e:TypeId} {size:Nat} {f:α→List Value} {v:Value} {L:List α} (h:OwnL w base e size f v L) {p:Addr} (hp:∀k,v.ownBlock=some k→k≠p.block) (u:Value):OwnL (w.setCell p u) base e size f v L:=by
 obtain ⟨h1,h2⟩:=h
 refine ⟨h1,?_⟩
 rcases h2 with h2 | ⟨k,cap,cur,hv,hb,hh,r⟩
 ·exact .inl h2
 ·exact .inr ⟨k,cap,cur,hv,hb,(Below.heap_setCell w p u k (hp k (by rw [hv]; rfl))).trans hh,r⟩
theorem OwnL.base {α:Type} {w:World} {base base':Nat} {e:TypeId} {size:Nat} {f:α→List Value} {v:Value} {L:List α} (h:OwnL w base e size f v L) (hb:base'≤base):OwnL w base' e size f v L:=by
 obtain ⟨h1,h2⟩:=h
 refine ⟨h1,?_⟩
 rcases h2 with h2 | ⟨k,cap,cur,hv,hb',r⟩
 ·exact .inl h2
 ·exact .inr ⟨k,cap,cur,hv,by omega,r⟩
structure RDone (wr:World) (base:Nat) (v:Value) (rs':List RS) (old:List RS):Prop where
 o5:OwnL wr base 60 1 RS.cells v rs'
 map:rs'.map RS.xs=old.map RS.xs
 o6:∀q∈rs',OwnL wr base 176 2 Reading.cells (.slice q.A q.n q.c) q.xs
 sep:SepL (rs'.map fun q=>blkOf q.A q.n)
 sep2:SepL (rs'.map fun q=>Value.ownBlock (.slice q.A q.n q.c))
theorem rs_one (y:RS):∀u∈y.cells,u.oneCell'=true:=by intro u hu; simp [RS.cells] at hu; subst hu; rfl
theorem rs_info':(Tryz.prog.info? 60).map (fun i=>(i.zero,i.size,i.bytes))=some (some (.slice none 0 0),1,24):=by kernel_rfl
theorem rs_one_slice {w:World} {g:Nat} {A:Option Addr} {n c:Nat} {xs:List Reading} (h:Row w g 60 [.slice A n c]):SliceOf w 1 RS.cells (some ⟨g,0,none⟩) 1 1 [⟨A,n,c,xs⟩]:=
 RowOf.slice (t:=60) (xs:=[(⟨A,n,c,xs⟩:RS)]) (f:=RS.cells) h rs_len rfl (by omega)
theorem RDone.put {w5:World} {base gO:Nat} {v:Value} {rs' old:List RS} {cs:List Value} (hD:RDone w5 base v rs' old) (hr:Row w5 gO 82 cs) (u:Value):RDone (w5.setCell ⟨gO,4,none⟩ u) base v rs' old:=
 ⟨hD.o5.far_ne (fun k hk e=>OwnL.blk_ne hD.o5 hr (by decide) k hk (by rw [e])) u,hD.map,fun q hq=>(hD.o6 q hq).far_ne (fun k hk e=>OwnL.blk_ne (hD.o6 q hq) hr (by decide) k hk (by rw [e])) u,hD.sep,hD.sep2⟩
structure LRoom (w:World) (lo hi:Nat) (A1 A2 A3 A4 A5:Option Addr) (n1 c1 n2 c2 n3 c3 n4 c4 n5 c5:Nat) (r:Room):Prop where
 own:ROwn w lo hi A1 A2 A3 A4 A5 n1 c1 n2 c2 n3 c3 n4 c4 n5 c5 r
 r5:OwnL w lo 60 1 RS.cells (.slice A5 n5 c5) r.rs
 r6:∀q∈r.rs,OwnL w lo 176 2 Reading.cells (.slice q.A q.n q.c) q.xs
 sep2:SepL (r.rs.map fun q=>Value.ownBlock (.slice q.A q.n q.c))
end Go.Proofs.YtfkpghdmljjegaaGreat
