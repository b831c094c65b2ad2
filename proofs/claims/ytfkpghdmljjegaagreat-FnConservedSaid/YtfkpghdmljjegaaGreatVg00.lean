/-
  Storing into the amounts and the changes of a settlement: what is read afterwards.
-/
import Derived.Test.YtfkpghdmljjegaaGreatVe42
namespace Go.Proofs.YtfkpghdmljjegaaGreat
open Go.RowKit
theorem sl_set {w:World} {A:Option Addr} {n c:Nat} {xs:List Int} (hs:SliceOf w 1 intC A n c xs) (hR:∀b,blkOf A n=some b→RowAt w b) {k:Nat} (hk:k<n):
  ∃b off z,A=some ⟨b,off,none⟩∧blkOf A n=some b∧b<w.heap.size∧xs[k]? =some z∧w.cell? ⟨b,off+k,none⟩=some (.int .i64 z)∧(∀i,w.frozen? ⟨b,i,none⟩=false)∧∀u:Int,SliceOf (w.setCell ⟨b,off+k,none⟩ (.int .i64 u)) 1 intC A n c (xs.set k u):=by
 obtain ⟨h1,h2,h3,h4⟩:=hs
 obtain ⟨b,off,rfl,hb,hc⟩:=h4 (by omega)
 have hbk:blkOf (some ⟨b,off,none⟩:Option Addr) n=some b:=by unfold blkOf; rw [if_neg (by omega)]; rfl
 obtain ⟨t,cs,hr⟩:=hR b hbk
 have hx:xs[k]? =some (xs[k]'(by omega)):=List.getElem?_eq_getElem (by omega)
 have hck:=hc k _ hx 0 _ rfl
 simp only [Nat.mul_one,Nat.add_zero] at hck
 refine ⟨b,off,_,rfl,hbk,hb,hx,hck,hr.frozen,fun u=>⟨by rw [List.length_set]; exact h1,h2,h3,fun _=>⟨b,off,rfl,by simpa using hb,fun i x hi j v hv=> ?_⟩⟩⟩
 have hr2:=hr.set_ (off+k) (.int .i64 u)
 rw [hr2.cell]
 obtain rfl:j=0:=by have:=(List.getElem?_eq_some_iff.1 hv).1; simp [intC] at this; exact this
 simp only [Nat.mul_one,Nat.add_zero]
 have hv':v= .int .i64 x:=by simpa [intC] using hv.symm
 subst hv'
 have hkl:off+k<cs.length:=by rw [hr.cell] at hck; exact (List.getElem?_eq_some_iff.1 hck).1
 by_cases e:i=k
 ·subst e
  rw [List.getElem?_set_self hkl]
  rw [List.getElem?_set_self (by omega)] at hi
  injection hi with hi
  rw [hi]
 ·rw [List.getElem?_set_ne (by omega)]
  rw [List.getElem?_set_ne (by omega)] at hi
  have:=hc i x hi 0 _ rfl
  simp only [Nat.mul_one,Nat.add_zero] at this
  rw [←hr.cell]; exact this
theorem RowAt.set {w:World} {b':Nat} (h:RowAt w b') (b i:Nat) (u:Value):RowAt (w.setCell ⟨b,i,none⟩ u) b':=by
 obtain ⟨t,cs,r⟩:=h
 by_cases e:b'=b
 ·subst e; exact ⟨t,_,r.set_ i u⟩
 ·exact ⟨t,cs,r.far e u⟩
theorem StlW.set {w:World} {A2 A3 A4:Option Addr} {n2 n3 n4:Nat} (h:StlW w A2 A3 A4 n2 n3 n4) (b i:Nat) (u:Value):StlW (w.setCell ⟨b,i,none⟩ u) A2 A3 A4 n2 n3 n4:=
 ⟨fun b' hb=>(h.f2 b' hb).set b i u,fun b' hb=>(h.f3 b' hb).set b i u,h.n23,h.n24,h.n34⟩
theorem set_turn (w:World) (b i:Nat) (u:Value):Turn (fun x=>x=b) w (w.setCell ⟨b,i,none⟩ u):=Turn.of_only ((Only.refl b w).setCell (p:=⟨b,i,none⟩) rfl u) (fun _=>rfl)
structure SOut (lo:Nat) (w:World) (A2 A3 A4:Option Addr) (n2 c2 n3 c3 n4 c4:Nat) (g ch:List Int) (ps:List Posting):Prop where
 s2:SliceOf w 1 intC A2 n2 c2 g
 s3:SliceOf w 1 intC A3 n3 c3 ch
 s4:SliceOf w 4 Posting.cells A4 n4 c4 ps
 lo2:∀b,blkOf A2 n2=some b→lo≤b
 lo3:∀b,blkOf A3 n3=some b→lo≤b
 lo4:∀b,blkOf A4 n4=some b→lo≤b
 wr:StlW w A2 A3 A4 n2 n3 n4
section
variable {lo:Nat} {w w':World} {A2 A3 A4:Option Addr} {n2 c2 n3 c3 n4 c4:Nat} {g ch:List Int} {ps:List Posting}
theorem SOut.of {A0 A1:Option Addr} {n0 c0 n1 c1:Nat} {X:Stl} (h:StlAt w A0 A1 A2 A3 A4 n0 c0 n1 c1 n2 c2 n3 c3 n4 c4 X) (hl:StlLo lo A0 A1 A2 A3 A4 n0 n1 n2 n3 n4) (hw:StlW w A2 A3 A4 n2 n3 n4):SOut lo w A2 A3 A4 n2 c2 n3 c3 n4 c4 X.got X.chg X.psn:=
 ⟨h.s2,h.s3,h.s4,fun b hb=>hl b (.inr (.inr (.inl hb))),fun b hb=>hl b (.inr (.inr (.inr (.inl hb)))),fun b hb=>hl b (.inr (.inr (.inr (.inr hb)))),hw⟩
theorem SOut.turn {S:Nat→Prop} (h:SOut lo w A2 A3 A4 n2 c2 n3 c3 n4 c4 g ch ps) (k:Turn S w w') (hS:∀b,S b→b<lo):SOut lo w' A2 A3 A4 n2 c2 n3 c3 n4 c4 g ch ps:=
 ⟨h.s2.turn k (fun b hb e=>by have:=h.lo2 b hb; have:=hS b e; omega),h.s3.turn k (fun b hb e=>by have:=h.lo3 b hb; have:=hS b e; omega),h.s4.turn k (fun b hb e=>by have:=h.lo4 b hb; have:=hS b e; omega),h.lo2,h.lo3,h.lo4,
  h.wr.turn k (fun b hb e=>by have:=h.lo2 b hb; have:=hS b e; omega) (fun b hb e=>by have:=h.lo3 b hb; have:=hS b e; omega)⟩
theorem SOut.more (h:SOut lo w A2 A3 A4 n2 c2 n3 c3 n4 c4 g ch ps) (hx:Ext w w'):SOut lo w' A2 A3 A4 n2 c2 n3 c3 n4 c4 g ch ps:=h.turn (S:=fun _=>False) (Turn.of_ext hx) (fun _ e=>e.elim)
theorem SOut.low {lo':Nat} (h:SOut lo w A2 A3 A4 n2 c2 n3 c3 n4 c4 g ch ps) (hl:lo'≤lo):SOut lo' w A2 A3 A4 n2 c2 n3 c3 n4 c4 g ch ps:=
 ⟨h.s2,h.s3,h.s4,fun b hb=>Nat.le_trans hl (h.lo2 b hb),fun b hb=>Nat.le_trans hl (h.lo3 b hb),fun b hb=>Nat.le_trans hl (h.lo4 b hb),h.wr⟩
theorem SOut.setGot (h:SOut lo w A2 A3 A4 n2 c2 n3 c3 n4 c4 g ch ps) {k:Nat} (hk:k<n2):
  ∃b off z,A2=some ⟨b,off,none⟩∧lo≤b∧b<w.heap.size∧g[k]? =some z∧w.cell? ⟨b,off+k,none⟩=some (.int .i64 z)∧(∀i,w.frozen? ⟨b,i,none⟩=false)∧∀u:Int,SOut lo (w.setCell ⟨b,off+k,none⟩ (.int .i64 u)) A2 A3 A4 n2 c2 n3 c3 n4 c4 (g.set k u) ch ps:=by
 obtain ⟨b,off,z,hA,hbk,hb,hz,hc,hf,hset⟩:=sl_set h.s2 h.wr.f2 hk
 refine ⟨b,off,z,hA,h.lo2 b hbk,hb,hz,hc,hf,fun u=>⟨hset u,h.s3.turn (set_turn w b _ _) (fun b' hb' e=> ?_),h.s4.turn (set_turn w b _ _) (fun b' hb' e=> ?_),h.lo2,h.lo3,h.lo4,h.wr.set _ _ _⟩⟩
 ·subst e; exact h.wr.n23 _ hbk hb'
 ·subst e; exact h.wr.n24 _ hbk hb'
theorem SOut.setChg (h:SOut lo w A2 A3 A4 n2 c2 n3 c3 n4 c4 g ch ps) {k:Nat} (hk:k<n3):
  ∃b off z,A3=some ⟨b,off,none⟩∧lo≤b∧b<w.heap.size∧ch[k]? =some z∧w.cell? ⟨b,off+k,none⟩=some (.int .i64 z)∧(∀i,w.frozen? ⟨b,i,none⟩=false)∧∀u:Int,SOut lo (w.setCell ⟨b,off+k,none⟩ (.int .i64 u)) A2 A3 A4 n2 c2 n3 c3 n4 c4 g (ch.set k u) ps:=by
 obtain ⟨b,off,z,hA,hbk,hb,hz,hc,hf,hset⟩:=sl_set h.s3 h.wr.f3 hk
 refine ⟨b,off,z,hA,h.lo3 b hbk,hb,hz,hc,hf,fun u=>⟨h.s2.turn (set_turn w b _ _) (fun b' hb' e=> ?_),hset u,h.s4.turn (set_turn w b _ _) (fun b' hb' e=> ?_),h.lo2,h.lo3,h.lo4,h.wr.set _ _ _⟩⟩
 ·subst e; exact h.wr.n23 _ hb' hbk
 ·subst e; exact h.wr.n34 _ hbk hb'
end
end Go.Proofs.YtfkpghdmljjegaaGreat
