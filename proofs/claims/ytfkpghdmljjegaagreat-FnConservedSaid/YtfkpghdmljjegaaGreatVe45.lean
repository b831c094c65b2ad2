/-
  The settlement of an hour, of the program, exactly.
-/
import Derived.Test.YtfkpghdmljjegaaGreatVe43
import Derived.Test.YtfkpghdmljjegaaGreatVe44
import Derived.Test.YtfkpghdmljjegaaGreatVe41
namespace Go.Proofs.YtfkpghdmljjegaaGreat
open Go.RowKit
theorem OwnL.toAS {α:Type} {w:World} {base:Nat} {t:TypeId} {size:Nat} {f:α→List Value} {A:Option Addr} {n c:Nat} {L:List α} (h:OwnL w base t size f (.slice A n c) L) (hf:∀x,(f x).length=size) (hs:0<size):OwnA w t f A n c L:=by
 obtain ⟨A',c',g,hv,hg,hn,hc,ho⟩:=h.own hf hs
 injection hv with h1 h2 h3
 subst h1 h2 h3
 exact ho.toA hn hc
theorem OwnA.lenS {α:Type} {w:World} {t:TypeId} {f:α→List Value} {A:Option Addr} {n c m:Nat} {L:List α} (h:OwnA w t f A n c L) (_:L.length=m):OwnA w t f A n c L:=h
theorem sep5 {x0 x1 x2 x3 x4:Option Nat} {a b c d:Nat} (hab:a≤b) (hbc:b≤c) (hcd:c≤d) (h0:∀q,x0=some q→q<a) (h1:∀q,x1=some q→a≤q∧q<b) (h2:∀q,x2=some q→b≤q∧q<c) (h3:∀q,x3=some q→c≤q∧q<d) (h4:∀q,x4=some q→d≤q):SepL [x0,x1,x2,x3,x4]:=by
 have key:∀i q,[x0,x1,x2,x3,x4][i]? =some (some q)→(i=0∧q<a)∨(i=1∧a≤q∧q<b)∨(i=2∧b≤q∧q<c)∨(i=3∧c≤q∧q<d)∨(i=4∧d≤q):=by
  intro i q h
  match i,h with
  | 0,h=>exact .inl ⟨rfl,h0 q (by simpa using h)⟩
  | 1,h=>exact .inr (.inl ⟨rfl,h1 q (by simpa using h)⟩)
  | 2,h=>exact .inr (.inr (.inl ⟨rfl,h2 q (by simpa using h)⟩))
  | 3,h=>exact .inr (.inr (.inr (.inl ⟨rfl,h3 q (by simpa using h)⟩)))
  | 4,h=>exact .inr (.inr (.inr (.inr ⟨rfl,h4 q (by simpa using h)⟩)))
  | n+5,h=>simp at h
 intro i j q hij hi hj
 have:=key i q hi
 have:=key j q hj
 omega
structure StlOwn (w:World) (lo:Nat) (A0 A1 A2 A3 A4:Option Addr) (n0 c0 n1 c1 n2 c2 n3 c3 n4 c4:Nat) (X:Stl):Prop where
 o0:OwnA w 2 intC A0 n0 c0 X.sc
 o1:OwnA w 199 Order.cells A1 n1 c1 X.os
 o2:OwnA w 2 intC A2 n2 c2 X.got
 o3:OwnA w 2 intC A3 n3 c3 X.chg
 o4:OwnA w 188 Posting.cells A4 n4 c4 X.psn
 lo:StlLo lo A0 A1 A2 A3 A4 n0 n1 n2 n3 n4
 sep:SepL [blkOf A0 n0,blkOf A1 n1,blkOf A2 n2,blkOf A3 n3,blkOf A4 n4]
theorem StlOwn.turn {S:Nat→Prop} {w w':World} {lo:Nat} {A0 A1 A2 A3 A4:Option Addr} {n0 c0 n1 c1 n2 c2 n3 c3 n4 c4:Nat} {X:Stl} (h:StlOwn w lo A0 A1 A2 A3 A4 n0 c0 n1 c1 n2 c2 n3 c3 n4 c4 X) (k:Turn S w w') (hs:∀b,S b→b<lo):StlOwn w' lo A0 A1 A2 A3 A4 n0 c0 n1 c1 n2 c2 n3 c3 n4 c4 X:=
 ⟨h.o0.turn k (fun b hb hS=>by have:=h.lo b (.inl hb); have:=hs b hS; omega),h.o1.turn k (fun b hb hS=>by have:=h.lo b (.inr (.inl hb)); have:=hs b hS; omega),h.o2.turn k (fun b hb hS=>by have:=h.lo b (.inr (.inr (.inl hb))); have:=hs b hS; omega),h.o3.turn k (fun b hb hS=>by have:=h.lo b (.inr (.inr (.inr (.inl hb)))); have:=hs b hS; omega),h.o4.turn k (fun b hb hS=>by have:=h.lo b (.inr (.inr (.inr (.inr hb)))); have:=hs b hS; omega),h.lo,h.sep⟩
theorem StlOwn.ext {w w':World} {lo:Nat} {A0 A1 A2 A3 A4:Option Addr} {n0 c0 n1 c1 n2 c2 n3 c3 n4 c4:Nat} {X:Stl} (h:StlOwn w lo A0 A1 A2 A3 A4 n0 c0 n1 c1 n2 c2 n3 c3 n4 c4 X) (hx:Ext w w'):StlOwn w' lo A0 A1 A2 A3 A4 n0 c0 n1 c1 n2 c2 n3 c3 n4 c4 X:=
 ⟨h.o0.ext hx,h.o1.ext hx,h.o2.ext hx,h.o3.ext hx,h.o4.ext hx,h.lo,h.sep⟩
theorem StlOwn.at_ {w:World} {lo:Nat} {A0 A1 A2 A3 A4:Option Addr} {n0 c0 n1 c1 n2 c2 n3 c3 n4 c4:Nat} {X:Stl} (h:StlOwn w lo A0 A1 A2 A3 A4 n0 c0 n1 c1 n2 c2 n3 c3 n4 c4 X):StlAt w A0 A1 A2 A3 A4 n0 c0 n1 c1 n2 c2 n3 c3 n4 c4 X:=
 ⟨h.o0.slice intC_len,h.o1.slice order_len,h.o2.slice intC_len,h.o3.slice intC_len,h.o4.slice post_len⟩
def RetStI (X:Stl) (w:World) (e:Ending) (w':World):Prop:=
 ∃(A0 A1 A2 A3 A4:Option Addr) (n0 c0 n1 c1 n2 c2 n3 c3 n4 c4:Nat),e= .returned (.agg #[.slice A0 n0 c0,.slice A1 n1 c1,.slice A2 n2 c2,.slice A3 n3 c3,.slice A4 n4 c4])∧StlOwn w' w.heap.size A0 A1 A2 A3 A4 n0 c0 n1 c1 n2 c2 n3 c3 n4 c4 X∧Ext w w'
structure Acc3 (W wr:World) (g1 g2 gS:Nat) (C T:List Int) (s0 s1 s2 v:Value):Prop where
 a:Acc2 W wr g1 g2 C T
 r:Row wr gS 28 [s0,s1,s2,.slice (some ⟨g1,0,none⟩) 16 16,v]
theorem Acc3.more {W wr wr':World} {g1 g2 gS:Nat} {C T:List Int} {s0 s1 s2 v:Value} (h:Acc3 W wr g1 g2 gS C T s0 s1 s2 v) (hx:Ext wr wr'):Acc3 W wr' g1 g2 gS C T s0 s1 s2 v:=⟨h.a.more hx,h.r.ext hx⟩
theorem Acc3.app {W wr W4 wr':World} {g1 g2 gS:Nat} {C T:List Int} {s0 s1 s2 v v':Value} (h:Acc3 W wr g1 g2 gS C T s0 s1 s2 v) (hx:Ext wr W4) (hg:W4.grownBy wr' v.ownBlock) (hb:∀k,v.ownBlock=some k→k≠g1∧k≠g2∧k≠gS∧W.heap.size≤k) (hS:gS≠g1∧gS≠g2) (hW:W.heap.size≤gS):Acc3 W (wr'.setCell ⟨gS,4,none⟩ v') g1 g2 gS C T s0 s1 s2 v':=by
 have h1:=h.a.grown hx hg (fun k hk=>⟨(hb k hk).1,(hb k hk).2.1,(hb k hk).2.2.2⟩)
 have h2:=Row.grown (h.r.ext hx) hg (fun e=>(hb gS e).2.2.1 rfl)
 refine ⟨⟨h1.c.far (p:=⟨gS,4,none⟩) (Ne.symm hS.1) _,h1.t.far (p:=⟨gS,4,none⟩) (Ne.symm hS.2) _,h1.ext.setCell (p:=⟨gS,4,none⟩) hW _,h1.lo,h1.ne⟩,?_⟩
 exact h2.set_ 4 v'
structure GotIn (wr:World) (lo hi:Nat) (v:Value) (g:List Int):Prop where
 o:OwnL wr lo 2 1 intC v g
 b:∀k,v.ownBlock=some k→lo≤k∧k<hi
theorem GotIn.more {wr wr':World} {lo hi:Nat} {v:Value} {g:List Int} (h:GotIn wr lo hi v g) (hx:Ext wr wr'):GotIn wr' lo hi v g:=⟨h.o.ext hx,h.b⟩
theorem GotIn.far {wr:World} {lo hi:Nat} {v:Value} {g:List Int} (h:GotIn wr lo hi v g) {p:Addr} (hp:p.block<lo∨hi≤p.block) (u:Value):GotIn (wr.setCell p u) lo hi v g:=⟨h.o.farX (fun k hk e=>by have:=h.b k hk; omega) u,h.b⟩
theorem GotIn.grown {wr wr':World} {lo hi:Nat} {v v':Value} {g:List Int} (h:GotIn wr lo hi v g) (hg:wr.grownBy wr' v'.ownBlock) (hb:∀k,v'.ownBlock=some k→hi≤k):GotIn wr' lo hi v g:=
 ⟨h.o.grown hg (fun k hk e=>by have:=h.b k hk; have:=hb k e; omega),h.b⟩
theorem bd6 {g:List Int} (h:Bd 60000 g):Bd 10000000 g:=fun z hz=>by have:=h z hz; omega
set_option maxHeartbeats 4000000 in
theorem c_settleHour (A1 A2:Option Addr) (n1 c1 n2 c2:Nat) (ns:List Node) (ps:List Pipe) (A:Option Addr) (n c:Nat) (xs:List Contract) (B:Option Addr) (m d:Nat) (L:List Nomination) (h:Int) (R:Option Addr) (nr cr:Nat) (rd:List Reading) (band percent price:Int) (K:Option Addr) (kn kc:Nat) (ts:List Tier) (w:World) (hs1:SliceOf w 3 Node.cells A1 n1 c1 ns) (hs2:SliceOf w 5 Pipe.cells A2 n2 c2 ps) (hs:SliceOf w 8 Contract.cells A n c xs) (hL:SliceOf w 4 Nomination.cells B m d L) (hR:SliceOf w 2 Reading.cells R nr cr rd) (hK:SliceOf w 2 Tier.cells K kn kc ts) (hk:HrOk n1 ns ps xs L h) (hrd:readsB n1 rd=true) (V:Valid band percent price ts):Calls Tryz.prog 128 #[.agg #[.slice A1 n1 c1,.slice A2 n2 c2],.slice A n c,.slice B m d,.int .i64 h,.slice R nr cr,.agg #[.int .i64 band,.int .i64 percent,.int .i64 price,.slice K kn kc]] w (RetStI (stlH ps n1 xs L h rd band percent price ts) w):=by
 obtain ⟨W0,HW0⟩:∃W0,Hid ((((w.alloc (.cells #[.slice A1 n1 c1,.slice A2 n2 c2] 45)).alloc (.cells #[.int .i64 band,.int .i64 percent,.int .i64 price,.slice K kn kc] 73)).alloc (.cells #[.slice none 0 0,.slice none 0 0,.slice none 0 0,.slice none 0 0,.slice none 0 0] 28))=W0):=⟨_,hide rfl⟩
 have hN:Row W0 w.heap.size 45 [.slice A1 n1 c1,.slice A2 n2 c2]:=by rw [←HW0.out]; exact ((Row.new w 45 [.slice A1 n1 c1,.slice A2 n2 c2]).ext (Ext.alloc _ _)).ext (Ext.alloc _ _)
 have hT:Row W0 (w.heap.size+1) 73 [.int .i64 band,.int .i64 percent,.int .i64 price,.slice K kn kc]:=by rw [←HW0.out]; exact (Row.newG (W:=(w.alloc (.cells #[.slice A1 n1 c1,.slice A2 n2 c2] 45))) _ [.int .i64 band,.int .i64 percent,.int .i64 price,.slice K kn kc] (by simp)).ext (Ext.alloc _ _)
 have hS:Row W0 (w.heap.size+2) 28 [.slice none 0 0,.slice none 0 0,.slice none 0 0,.slice none 0 0,.slice none 0 0]:=by rw [←HW0.out]; exact Row.newG (W:=((w.alloc (.cells #[.slice A1 n1 c1,.slice A2 n2 c2] 45)).alloc (.cells #[.int .i64 band,.int .i64 percent,.int .i64 price,.slice K kn kc] 73))) _ [.slice none 0 0,.slice none 0 0,.slice none 0 0,.slice none 0 0,.slice none 0 0] (by simp)
 have hx0:Ext w W0:=by rw [←HW0.out]; exact ((Ext.alloc _ _).and_alloc _).and_alloc _
 have hz0:w.heap.size+3=W0.heap.size:=by rw [←HW0.out]; simp
 have HK:=hide hk
 have HV:=hide V
 have HRD:=hide hrd
 have HLN:=hide hs.len
 have hnr:nr≤48:=by rw [hR.len]; exact reads_48 hrd
 have hn20:n≤20:=by rw [hs.len]; exact hk.le
 have hb0:=hN.cell 0
 have hb1:=hN.cell 1
 simp at hb0 hb1
 have hbl:=hN.lt
 obtain ⟨os,HOS⟩:∃os,Hid (hrOrd ps n1 xs L h=os):=⟨_,hide rfl⟩
 have HOK:Hid (∀o∈os,(0≤o.shipper∧o.shipper≤15)∧(0≤o.node∧o.node<n1)∧(-30000≤o.amount∧o.amount≤30000)∧(0≤o.cls∧o.cls≤3)):=hide (by rw [←HOS.out]; exact hrOrd_ok hk.bk hk.nm h)
 have hol:os.length≤40:=by rw [←HOS.out,hrOrd_len]; have:=hk.le; omega
 obtain ⟨sc,HSC⟩:∃sc,Hid (hrSc ps n1 xs L h=sc):=⟨_,hide rfl⟩
 have HST:Hid (stlH ps n1 xs L h rd band percent price ts=stlOf sc os (gotOf os rd) band percent price ts):=hide (by unfold stlH; rw [HOS.out,HSC.out])
 rw [HST.out]
 clear hk V hrd
 go_enter Tryz.func128,Tryz.ntmps128
 go_wp2_with fail
 rw [HW0.out]
 refine (c_curtailedIn A1 A2 n1 c1 n2 c2 ns ps A n c xs B m d L h _ (hs1.ext hx0) (hs2.ext hx0) (hs.ext hx0) (hL.ext hx0) HK.out).mono ?_
 rw [HSC.out]
 rintro e w1 ⟨v1,v2,rfl,ho1,ho2,hx1⟩
 have HLO:=hide (less_ok HK.out.bk HK.out.nm (ps:=ps) h)
 obtain ⟨le,HLE⟩:∃le,Hid (lessT ps n1 xs L h=le):=⟨_,hide rfl⟩
 have hlel:le.length=n:=by rw [←HLE.out,lessT_len,HLN.out]
 rw [HLE.out] at ho1 HLO
 obtain ⟨A4,c4,rfl,hs4⟩:=ho1.sl trn_len (by omega)
 obtain ⟨As,cs,rfl,-⟩:=ho2.sl intC_len (by omega)
 rw [hlel] at hs4
 rw [hlel]
 have hX1:=hx0.trans hx1
 clear hb0 hb1 hbl ho1
 go_wp2_with fail
 refine (c_hourOrders A n c xs A4 c4 le _ (hs.ext hX1) hs4 (by omega) (fun x hx=>(HLO.out x hx).2.2.1)).mono ?_
 rintro e w2 ⟨v3,E3,rfl,ho3,HE3,hx2⟩
 obtain rfl:E3=os:=by rw [HE3.out, ←HOS.out, ←HLE.out]; rfl
 obtain ⟨Ao,co,rfl,hso⟩:=ho3.sl order_len (by omega)
 have HBs:=hide (fun b (hb:blkOf As sc.length=some b)=>(show W0.heap.size≤b∧b<w1.heap.size from ⟨ho2.block_le (own_blk hb),(ho2.ltG (own_blk hb)).2⟩))
 have HBo:=hide (fun b (hb:blkOf Ao E3.length=some b)=>(show w1.heap.size≤b∧b<w2.heap.size from ⟨ho3.block_le (own_blk hb),(ho3.ltG (own_blk hb)).2⟩))
 have hX2:=hX1.trans hx2
 have ho22:=ho2.ext hx2
 obtain ⟨gS,hgS⟩:∃gS,w2.heap.size=gS:=⟨_,rfl⟩
 obtain ⟨W3,HW3⟩:∃W3,Hid (w2.alloc (.cells #[.slice As sc.length cs,.slice Ao E3.length co,.slice none 0 0,.slice none 0 0,.slice none 0 0] 28)=W3):=⟨_,hide rfl⟩
 have hR3:Row W3 gS 28 [.slice As sc.length cs,.slice Ao E3.length co,.slice none 0 0,.slice none 0 0,.slice none 0 0]:=by rw [←HW3.out, ←hgS]; exact Row.new w2 28 [.slice As sc.length cs,.slice Ao E3.length co,.slice none 0 0,.slice none 0 0,.slice none 0 0]
 have hx3:Ext w2 W3:=by rw [←HW3.out]; exact Ext.alloc _ _
 have hz3:gS+1=W3.heap.size:=by rw [←HW3.out, ←hgS]; simp
 have hX3:=hX2.trans hx3
 clear ho2 HE3
 go_wp2_with fail
 rw [HW3.out]
 refine (c_allocated Ao _ co E3 R nr cr rd _ (hso.ext hx3) (hR.ext hX3) hol hnr (fun o ho=>(HOK.out o ho).2.2.1) (reads_mem HRD.out) (sep_of HRD.out)).mono ?_
 rintro e w4 ⟨v4,g,rfl,ho4,HG,hx4⟩
 have HGO:Hid (gotOf E3 rd=g):=hide (gotOf_eq HG.out.1)
 have HBD:=hide (bd6 HG.out.2.1)
 have hgl:g.length=E3.length:=HG.out.2.2
 have HGL:=hide hgl
 obtain ⟨Ag,cg,rfl,-⟩:=ho4.sl intC_len (by omega)
 rw [hgl] at ho4
 rw [hgl]
 have hz4:=hx4.size
 have hR4:=hR3.ext hx4
 have hX4:=hX3.trans hx4
 have hG4:GotIn w4 W3.heap.size w4.heap.size (.slice Ag E3.length cg) g:=⟨ho4,fun k hk=>⟨ho4.block_le hk,(ho4.ltG hk).2⟩⟩
 have q1:=hR4.cell 1
 have q2:=hR4.cell 2
 have q3:=hR4.cell 3
 simp at q1 q2 q3
 have qf:=hR4.frozen
 have ql:=hR4.lt
 have hmk:∀W:World,(Instr.makeSlice 24 (.int .i64 16) (.int .i64 16)).run Tryz.prog W= .ok (.slice (some ⟨W.heap.size,0,none⟩) 16 16) (W.alloc (.cells ((List.replicate 16 (0:Int)).flatMap intC).toArray 2)):=fun W=>run_make_flat (P:=Tryz.prog) 24 2 _ _ 1 8 Tryz.underlying24 int_info (f:=intC) 0 rfl rfl rfl (by omega) 16 (by omega) (by omega) W
 obtain ⟨z16,HZ⟩:∃z,Hid (List.replicate 16 (0:Int)=z):=⟨_,hide rfl⟩
 rw [HZ.out] at hmk
 obtain ⟨g1,hg1⟩:∃g1,w4.heap.size=g1:=⟨_,rfl⟩
 obtain ⟨Wm,HWm⟩:∃Wm,Hid ((((w4.setCell ⟨gS,2,none⟩ (.slice Ag E3.length cg)).setCell ⟨gS,3,none⟩ (.slice (some ⟨g1,0,none⟩) 16 16)).alloc (.cells (z16.flatMap intC).toArray 2)).alloc (.cells (z16.flatMap intC).toArray 2)=Wm):=⟨_,hide rfl⟩
 have hA0:Acc3 w2 Wm g1 (g1+1) gS z16 z16 (.slice As sc.length cs) (.slice Ao E3.length co) (.slice Ag E3.length cg) (.slice none 0 0):=by
  rw [←HWm.out]
  refine ⟨⟨?_,Row.newG _ _ (by simp; omega),?_,⟨by omega,by omega⟩,by omega⟩,?_⟩
  ·exact Row.ext (Row.newG _ _ (by simp; omega)) (Ext.alloc _ _)
  ·exact (((((hx3.trans hx4).setCell (p:=⟨gS,2,none⟩) (by show w2.heap.size≤gS; omega) _).setCell (p:=⟨gS,3,none⟩) (by show w2.heap.size≤gS; omega) _).and_alloc _).and_alloc _)
  ·exact (((hR4.set_ 2 _).set_ 3 _).ext (Ext.alloc _ _)).ext (Ext.alloc _ _)
 have hG0:GotIn Wm W3.heap.size g1 (.slice Ag E3.length cg) g:=by
  rw [←HWm.out, ←hg1]
  exact (((hG4.far (p:=⟨gS,2,none⟩) (.inl (by show gS<_; omega)) _).far (p:=⟨gS,3,none⟩) (.inl (by show gS<_; omega)) _).more (Ext.alloc _ _)).more (Ext.alloc _ _)
 have hxm:g1+2=Wm.heap.size:=by rw [←HWm.out]; simp; omega
 rw [hg1] at ql hz4
 clear hG4 ho4 HG hR3 hgl hx4
 go_wp2_with fail
 rw [HWm.out]
 obtain ⟨g2,hg2⟩:∃g2,g1+1=g2:=⟨_,rfl⟩
 rw [hg2] at hA0 ⊢
 have hne12:g1≠g2:=by omega
 have hne21:g2≠g1:=by omega
 have hneS1:gS≠g1:=by omega
 have hneS2:gS≠g2:=by omega
 have hne1S:g1≠gS:=by omega
 have hne2S:g2≠gS:=by omega
 have hA0:Acc3 w2 Wm g1 g2 gS (accL id E3 g 0) (accL pos0 E3 g 0) (.slice As sc.length cs) (.slice Ao E3.length co) (.slice Ag E3.length cg) (.slice none 0 0):=by unfold accL; rw [HZ.out]; exact hA0
 have HZ3:=hide hz3
 have HXM:=hide hxm
 have HG1:=hide hg1
 have HG2:=hide hg2
 have HGS:=hide hgS
 have hgS1:gS<g1:=by omega
 have hw3:W3.heap.size≤g1:=by omega
 have hw3S:gS<W3.heap.size:=by omega
 have hw2S:w2.heap.size≤gS:=by omega
 have hg12:g1≤g2:=by omega
 have hgs2:w2.heap.size<g1:=by omega
 clear hmk q1 q2 q3 qf hR4 hz3 hxm hg1 hg2 hgS
 go_loopw [47] (fun i wr=>∃j:Nat,j≤E3.length∧i= .int .i64 j∧Acc3 w2 wr g1 g2 gS (accL id E3 g j) (accL pos0 E3 g j) (.slice As sc.length cs) (.slice Ao E3.length co) (.slice Ag E3.length cg) (.slice none 0 0)∧GotIn wr W3.heap.size g1 (.slice Ag E3.length cg) g) (fun i _=>E3.length-(intOf i).toNat)
 case atStart=>exact ⟨0,Nat.zero_le _,rfl,hA0,hG0⟩
 case round=>
  clear hA0 hG0
  obtain ⟨j,hj,rfl,hAc,hG⟩:=hrel
  have hCl:(accL id E3 g j).length=16:=accL_len _ _ _ _
  have hTl:(accL pos0 E3 g j).length=16:=accL_len _ _ _ _
  have q1:=hAc.r.cell 1
  have q2:=hAc.r.cell 2
  have q3:=hAc.r.cell 3
  simp at q1 q2 q3
  have ql:=hAc.r.lt
  by_cases hlt:j<E3.length
  ·obtain ⟨bo,oo,o,hAo,hbo,hok,hco⟩:=(hso.ext hAc.a.ext).get hlt
   have hbow:bo<w2.heap.size:=hso.blk (b:=bo) (by unfold blkOf; rw [if_neg (by omega),hAo]; rfl)
   obtain ⟨bg,og,z,hAg,hbg,hgk,hcg⟩:=(hG.o.slE intC_len (by omega)).get hlt
   have hbgw:=hG.b bg (by rw [hAg]; rfl)
   subst hAo hAg
   have hc0:=hco 0 _ rfl
   have hcz:=hcg 0 _ rfl
   simp only [Nat.add_zero,Nat.mul_one] at hc0 hcz
   have hsh:=(HOK.out o (List.mem_of_getElem? hok)).1
   obtain ⟨k,hk⟩:∃k:Nat,o.shipper=k:=⟨o.shipper.toNat,by omega⟩
   have hk16:k<16:=by omega
   have hzb:=HBD.out z (List.mem_of_getElem? hgk)
   have hcb:=accL_bd (os:=E3) (B:=10000000) (by omega) (bd_id HBD.out) j
   have htb:=accL_bd (os:=E3) (B:=10000000) (by omega) (bd_pos HBD.out) j
   have HS1:=hide (accL_step (f:=id) hok hgk)
   have HS2:=hide (accL_step (f:=pos0) hok hgk)
   obtain ⟨C,hC⟩:∃C,accL id E3 g j=C:=⟨_,rfl⟩
   obtain ⟨T,hT'⟩:∃T,accL pos0 E3 g j=T:=⟨_,rfl⟩
   rw [hC] at hAc hCl hcb HS1
   rw [hT'] at hAc hTl htb HS2
   rw [hk,Int.toNat_natCast] at HS1 HS2
   obtain ⟨a,ha⟩:∃a,C[k]? =some a:=⟨_,List.getElem?_eq_getElem (by omega)⟩
   obtain ⟨t,ht⟩:∃t,T[k]? =some t:=⟨_,List.getElem?_eq_getElem (by omega)⟩
   have hab:=hcb a (List.mem_of_getElem? ha)
   have htb2:=htb t (List.mem_of_getElem? ht)
   obtain ⟨s1,hs1'⟩:∃s,a+z=s:=⟨_,rfl⟩
   obtain ⟨mz,hmz⟩:∃m,(if 0<z then z else 0)=m:=⟨_,rfl⟩
   have hmb:0≤mz∧mz≤10000000:=by rw [←hmz]; split <;> omega
   obtain ⟨s2,hs2'⟩:∃s,t+mz=s:=⟨_,rfl⟩
   have e1:IntKind.i64.wrap (a+z)=s1:=by rw [←hs1']; exact IntWalk.i64_in _ (by omega)
   have e2:IntKind.i64.wrap (t+mz)=s2:=by rw [←hs2']; exact IntWalk.i64_in _ (by omega)
   have HN1:Hid (accL id E3 g (j+1)=C.set k s1):=hide (by rw [HS1.out,accAt,zAt_some ha, ←hs1']; rfl)
   have HN2:Hid (accL pos0 E3 g (j+1)=T.set k s2):=hide (by rw [HS2.out,accAt,zAt_some ht, ←hs2', ←hmz]; rfl)
   have hca:=hAc.a.c.get intC_len ha (j:=0) rfl
   have hct:=hAc.a.t.get intC_len ht (j:=0) rfl
   simp only [Nat.mul_one,Nat.add_zero] at hca hct
   have hf1:=hAc.a.c.frozen k
   have hl1:=hAc.a.c.lt
   have hf2:=hAc.a.t.frozen k
   have hl2:=hAc.a.t.lt
   rw [hk] at hc0
   have hne1:bg≠g1:=by omega
   have hne2:bo≠g1:=by omega
   have hne3:bo≠g2:=by omega
   have hne4:bg≠g2:=by omega
   have hA2:Acc3 w2 ((wr.setCell ⟨g1,k,none⟩ (.int .i64 s1)).drew.setCell ⟨g2,k,none⟩ (.int .i64 s2)) g1 g2 gS (C.set k s1) (T.set k s2) _ _ _ _:=
    ⟨⟨((RowOf.set0 hAc.a.c (fun x=>⟨_,rfl⟩) (d:=k) (by omega) s1 (.int .i64 s1) rfl).drew).far (p:=⟨g2,k,none⟩) hne12 _,RowOf.set0 ((hAc.a.t.far (p:=⟨g1,k,none⟩) hne21 (.int .i64 s1)).drew) (fun x=>⟨_,rfl⟩) (d:=k) (by omega) s2 (.int .i64 s2) rfl,((hAc.a.ext.setCell (p:=⟨g1,k,none⟩) hAc.a.lo.1 _).drew).setCell (p:=⟨g2,k,none⟩) hAc.a.lo.2 _,hAc.a.lo,hAc.a.ne⟩,((hAc.r.far (p:=⟨g1,k,none⟩) hneS1 _).drew).far (p:=⟨g2,k,none⟩) hneS2 _⟩
   have hG2:=((hG.far (p:=⟨g1,k,none⟩) (.inr (Nat.le_refl _)) (.int .i64 s1)).more (Ext.refl _).drew).far (p:=⟨g2,k,none⟩) (.inr (by show g1≤g2; omega)) (.int .i64 s2)
   rw [←HN1.out, ←HN2.out] at hA2
   have HCl:=hide hCl
   have HTl:=hide hTl
   clear hok hgk hC hT' ha ht hs1' hs2' hcb htb HS1 HS2 hco hcg hk hCl hTl
   go_wp2_with fail
   refine wp_region_phZ [(gS,3),(gS,1),(bo,oo+j*4),(g1,k)] [] [0,1,2,3,4,5,6,7,8,9,10,11,12] 13 (by kernel_rfl) (by kernel_rfl) (by intro c a w d v h; cases d <;> exact h) ?_
   simp only [wpPhZ,pickL,nthO]
   repeat (go_big_quiet_step (fail))
   refine wpQuiet_nil ?_
   set_option maxRecDepth 20000 in
   go_wp2_with fail
   go_roundw
   case rel=>exact ⟨j+1,by omega,by go_num,hA2,hG2⟩
   case measure=>simp [intOf]; omega
  ·obtain rfl:j=E3.length:=by omega
   obtain ⟨C,HC⟩:∃C,Hid (accL id E3 g E3.length=C):=⟨_,hide rfl⟩
   obtain ⟨T,HT⟩:∃T,Hid (accL pos0 E3 g E3.length=T):=⟨_,hide rfl⟩
   have hcb:=accL_bd (os:=E3) (B:=10000000) (by omega) (bd_id HBD.out) E3.length
   have htb:=accL_bd (os:=E3) (B:=10000000) (by omega) (bd_pos HBD.out) E3.length
   have htn:=accL_nn (os:=E3) (g:=g) E3.length
   rw [HC.out] at hAc hCl hcb
   rw [HT.out] at hAc hTl htb htn
   have HCB:=hide hcb
   have HTB:=hide htb
   have HTN:=hide htn
   have HCl:=hide hCl
   have HTl:=hide hTl
   obtain ⟨PL,HPL⟩:∃PL,Hid (postsL band percent price ts C T=PL):=⟨_,hide rfl⟩
   have HP0:Hid (PL 0=[]):=hide (by rw [←HPL.out]; rfl)
   have HPS:Hid (∀k,PL (k+1)=PL k++postsK band percent price ts C T k):=hide (by rw [←HPL.out]; exact fun k=>rfl)
   have HPN:Hid (∀k,(PL k).length≤2*k):=hide (by rw [←HPL.out]; exact postsL_len band percent price ts C T)
   have hg1r:=hAc.a.c.lt
   have hg2r:=hAc.a.t.lt
   obtain ⟨rb,hrb⟩:∃rb,wr.heap.size=rb:=⟨_,rfl⟩
   have hO0:OwnL wr rb 188 4 Posting.cells (.slice none 0 0) (PL 0):=by rw [HP0.out]; exact OwnL.nil_ _ _ _ _ _
   have hrz0:rb≤wr.heap.size:=by omega
   rw [hrb] at hg1r hg2r
   have hg2rb:g2<rb:=hg2r
   have HRB:=hide hrb
   clear hcb htb htn hrb hCl hTl q2
   go_wp2_with fail
   go_loopw [82] (fun i wr=>∃(k:Nat) (v:Value),k≤16∧i= .int .i64 k∧OwnL wr rb 188 4 Posting.cells v (PL k)∧Acc3 w2 wr g1 g2 gS C T (.slice As sc.length cs) (.slice Ao E3.length co) (.slice Ag E3.length cg) v∧GotIn wr W3.heap.size g1 (.slice Ag E3.length cg) g∧rb≤wr.heap.size) (fun i _=>16-(intOf i).toNat)
   case atStart=>exact ⟨0,_,Nat.zero_le _,rfl,hO0,hAc,hG,hrz0⟩
   case round=>
    clear hO0 hAc hG hrz0 q1 q3 ql
    obtain ⟨k,v,hk,rfl,ho,hAc,hG,hrz⟩:=hrel
    have HL2:=HPN.out k
    obtain ⟨Av,cv,rfl,hsp⟩:=ho.sl post_len (by omega)
    by_cases hlt:k<16
    ·clear hsp
     obtain ⟨ck,hck⟩:∃a,C[k]? =some a:=⟨_,List.getElem?_eq_getElem (by rw [HCl.out]; omega)⟩
     obtain ⟨tk,htk⟩:∃a,T[k]? =some a:=⟨_,List.getElem?_eq_getElem (by rw [HTl.out]; omega)⟩
     have hcb:=HCB.out ck (List.mem_of_getElem? hck)
     have htb:=HTB.out tk (List.mem_of_getElem? htk)
     have htn:=HTN.out tk (List.mem_of_getElem? htk)
     have hol40:10000000*(E3.length:Int)≤400000000:=by omega
     have htol:=tolF_bd HV.out.band0 HV.out.band1 HV.out.per0 HV.out.per1 htn (show tk≤1000000000 by omega)
     have heb:=excS_bd (bal:=ck) (m:=400000000) htol.1 (by omega) (by omega)
     obtain ⟨ex,hex⟩:∃ex,excF band percent ck tk=ex:=⟨_,rfl⟩
     obtain ⟨fe,hfe⟩:∃fe,absI ex=fe:=⟨_,rfl⟩
     obtain ⟨ch,hch⟩:∃ch,chargeF price ts fe=ch:=⟨_,rfl⟩
     rw [hex] at heb
     have hfb:=absI_le heb.1 heb.2
     rw [hfe] at hfb
     have HZC:Hid (zAt C k=ck):=hide (zAt_some hck)
     have HFK:Hid (feeK band percent price ts C T k=ch):=hide (by unfold feeK; rw [zAt_some hck,zAt_some htk,hex,hfe,hch])
     have HPK0:Hid (PL (k+1)=(PL k++if ck≠0 then [⟨k,16,ck,0⟩] else [])++if ch≠0 then [⟨17,k,0,ch⟩] else []):=hide (by rw [HPS.out]; unfold postsK; rw [HZC.out,HFK.out,List.append_assoc])
     have HEX:=hide hex
     have HFE:=hide hfe
     have HCH:=hide hch
     have hcc:=hAc.a.c.get intC_len hck (j:=0) rfl
     have hct:=hAc.a.t.get intC_len htk (j:=0) rfl
     simp only [Nat.mul_one,Nat.add_zero] at hcc hct
     have hccl:=hAc.a.c.lt
     have hctl:=hAc.a.t.lt
     have hTr:=(hT.ext (hx1.trans hx2)).ext hAc.a.ext
     have y0:=hTr.cell 0
     have y1:=hTr.cell 1
     have y2:=hTr.cell 2
     have y3:=hTr.cell 3
     simp at y0 y1 y2 y3
     have hyl:=hTr.lt
     clear hex hfe hch hck htk htol
     go_wp2_with fail
     refine wp_region_ph [([0,1,2,3,4,5,6],7),([],8),([],9)] [10] (by kernel_rfl) (by kernel_rfl) (by intro c a w d v h; cases d <;> exact h) ?_
     simp only [wpPh,pickL,nthO]
     repeat (go_big_quiet_step (fail))
     refine wpQuiet_nil ?_
     clear y0 y1 y2 y3 hyl hTr hcc hct hccl hctl
     go_wp2_with fail
     refine (c_excessOf band percent price ck tk K kn kc _ HV.out.band0 HV.out.band1 HV.out.per0 HV.out.per1 (by omega) (by omega) (by omega) (by omega)).mono ?_
     rw [HEX.out]
     rintro e w5 ⟨rfl,hx5⟩
     go_wp2_with fail
     refine ⟨hx5,?_⟩
     repeat (go_big_quiet_step (fail))
     refine wpQuiet_nil ?_
     go_wp2_with fail
     refine (c_absOf ex _ (by omega) (by omega)).mono ?_
     rw [HFE.out]
     rintro e w' ⟨rfl,rfl⟩
     go_wp2_with fail
     refine ⟨Ext.refl _,?_⟩
     repeat (go_big_quiet_step (fail))
     refine wpQuiet_nil ?_
     go_wp2_with fail
     have hx05:Ext wr w5:=(Ext.refl _).drew.trans hx5
     have hXX:=hX2.trans (hAc.a.ext.trans hx05)
     refine (c_chargeFor band percent price fe K kn kc ts _ (hK.ext hXX) HV.out (by omega) (by omega)).mono ?_
     rw [HCH.out]
     rintro e w6 ⟨rfl,hx6⟩
     go_wp2_with fail
     refine ⟨hx6,?_⟩
     repeat (go_big_quiet_step (fail))
     refine wpQuiet_nil ?_
     have hx06:=hx05.trans hx6
     have ho6:=ho.ext hx06
     have hA6:=hAc.more hx06
     have hG6:=hG.more hx06
     have hz6:rb≤w6.heap.size:=Nat.le_trans hrz hx06.size
     have q4:=hA6.r.cell 4
     simp at q4
     have ql:=hA6.r.lt
     have qf:=hA6.r.frozen 4
     clear hXX hx05 hx06 hx6 ho hAc hG
     by_cases hc0:ck=0
     ·have hcbb:(ck != 0)=false:=by rw [bne_eq_false_iff_eq]; exact hc0
      have HPK1:Hid (PL (k+1)=PL k++if ch≠0 then [⟨17,k,0,ch⟩] else []):=hide (by rw [HPK0.out,if_neg (fun h=>h hc0),List.append_nil])
      clear hc0
      by_cases hch:ch=0
      ·have hcb2:(ch != 0)=false:=by rw [bne_eq_false_iff_eq]; exact hch
       have HPK:Hid (PL (k+1)=PL k):=hide (by rw [HPK1.out,if_neg (fun h=>h hch),List.append_nil])
       clear hch
       go_wp2_with fail
       go_roundw
       case rel=>exact ⟨k+1,_,by omega,by go_num,by rw [HPK.out]; exact ho6,hA6,hG6,hz6⟩
       case measure=>simp [intOf]; omega
      ·have hcb2:(ch != 0)=true:=by rw [bne_iff_ne]; exact hch
       have HPK:Hid (PL (k+1)=PL k++[⟨17,k,0,ch⟩]):=hide (by rw [HPK1.out,if_pos hch])
       clear hch
       go_wp2_with (at_builtin; go_must (refine wpList_append_where rfl _ _ 26 rfl rb 188 _ 4 32 Tryz.underlying26 posting_info rfl (by decide) Posting.cells post_len post_one _ (PL k) rfl (ho6.ext (Ext.alloc _ _)) w6.heap.size 0 1 1 [(⟨17,k,0,ch⟩:Posting)] rfl (new_post w6 (⟨17,k,0,ch⟩:Posting) rfl) (by first | omega | (simp; omega)) (by omega) (by first | omega | (simp; omega)) ?_))
       intro v7 w7 ho7 hg4 _
       have ho7:OwnL w7 rb 188 4 Posting.cells v7 (PL k++[(⟨17,k,0,ch⟩:Posting)]):=by first | exact ho7 | (rw [List.append_assoc]; exact ho7)
       obtain ⟨Aq,cq,hveq,-⟩:=ho7.sl post_len (by omega)
       obtain ⟨ml,HML⟩:∃m,Hid ((PL k++[(⟨17,k,0,ch⟩:Posting)]).length=m):=⟨_,hide rfl⟩
       rw [HML.out] at hveq
       subst hveq
       have hrow:=Row.grown (hA6.r.ext (Ext.alloc _ _)) hg4 (fun e=>by have:=ho6.block_le e; omega)
       have hrl:=hrow.lt
       have hrf:=hrow.frozen 4
       have hrc:=hrow.cell 4
       simp at hrc
       have hA7:=hA6.app (v':= .slice Aq ml cq) (Ext.alloc _ _) hg4 (fun j hj=>by have:=ho6.block_le hj; omega) ⟨by omega,by omega⟩ (by omega)
       have hG7:=((hG6.more (Ext.alloc _ _)).grown hg4 (fun j hj=>by have:=ho6.block_le hj; omega)).far (p:=⟨gS,4,none⟩) (.inl (by show gS<_; omega)) (.slice Aq ml cq)
       have ho7:=ho7.farX (p:=⟨gS,4,none⟩) (fun j hj=>by have:=ho7.block_le hj; show j≠gS; omega) (.slice Aq ml cq)
       have hz7:rb≤w7.heap.size:=by have:=hg4.size; simp at this; omega
       clear hg4 hrow
       go_wp2_with fail
       go_roundw
       case rel=>exact ⟨k+1,_,by omega,by go_num,by rw [HPK.out]; exact ho7,hA7,hG7,by simp; exact hz7⟩
       case measure=>simp [intOf]; omega
     ·have hcbb:(ck != 0)=true:=by rw [bne_iff_ne]; exact hc0
      have HPK1:Hid (PL (k+1)=(PL k++[⟨k,16,ck,0⟩])++if ch≠0 then [⟨17,k,0,ch⟩] else []):=hide (by rw [HPK0.out,if_pos hc0])
      clear hc0
      go_wp2_with (at_builtin; go_must (refine wpList_append_where rfl _ _ 26 rfl rb 188 _ 4 32 Tryz.underlying26 posting_info rfl (by decide) Posting.cells post_len post_one _ (PL k) rfl (ho6.ext (Ext.alloc _ _)) w6.heap.size 0 1 1 [(⟨k,16,ck,0⟩:Posting)] rfl (new_post w6 (⟨k,16,ck,0⟩:Posting) rfl) (by first | omega | (simp; omega)) (by omega) (by first | omega | (simp; omega)) ?_))
      intro v7 w7 ho7 hg4 _
      have ho7:OwnL w7 rb 188 4 Posting.cells v7 (PL k++[(⟨k,16,ck,0⟩:Posting)]):=by first | exact ho7 | (rw [List.append_assoc]; exact ho7)
      obtain ⟨Aq,cq,hveq,-⟩:=ho7.sl post_len (by omega)
      obtain ⟨ml,HML⟩:∃m,Hid ((PL k++[(⟨k,16,ck,0⟩:Posting)]).length=m):=⟨_,hide rfl⟩
      rw [HML.out] at hveq
      subst hveq
      have hrow:=Row.grown (hA6.r.ext (Ext.alloc _ _)) hg4 (fun e=>by have:=ho6.block_le e; omega)
      have hrl:=hrow.lt
      have hrf:=hrow.frozen 4
      have hrc:=hrow.cell 4
      simp at hrc
      have hA7:=hA6.app (v':= .slice Aq ml cq) (Ext.alloc _ _) hg4 (fun j hj=>by have:=ho6.block_le hj; omega) ⟨by omega,by omega⟩ (by omega)
      have hG7:=((hG6.more (Ext.alloc _ _)).grown hg4 (fun j hj=>by have:=ho6.block_le hj; omega)).far (p:=⟨gS,4,none⟩) (.inl (by show gS<_; omega)) (.slice Aq ml cq)
      have ho7:=ho7.farX (p:=⟨gS,4,none⟩) (fun j hj=>by have:=ho7.block_le hj; show j≠gS; omega) (.slice Aq ml cq)
      have hz7:rb≤w7.heap.size:=by have:=hg4.size; simp at this; omega
      clear hg4 hrow
      by_cases hch:ch=0
      ·have hcb2:(ch != 0)=false:=by rw [bne_eq_false_iff_eq]; exact hch
       have HPK:Hid (PL (k+1)=PL k++[⟨k,16,ck,0⟩]):=hide (by rw [HPK1.out,if_neg (fun h=>h hch),List.append_nil])
       clear hch
       go_wp2_with fail
       go_roundw
       case rel=>exact ⟨k+1,_,by omega,by go_num,by rw [HPK.out]; exact ho7,hA7,hG7,by simp; exact hz7⟩
       case measure=>simp [intOf]; omega
      ·have hcb2:(ch != 0)=true:=by rw [bne_iff_ne]; exact hch
       have HPK:Hid (PL (k+1)=(PL k++[⟨k,16,ck,0⟩])++[⟨17,k,0,ch⟩]):=hide (by rw [HPK1.out,if_pos hch])
       clear hch
       go_wp2_with (at_builtin; go_must (refine wpList_append_where rfl _ _ 26 rfl rb 188 _ 4 32 Tryz.underlying26 posting_info rfl (by decide) Posting.cells post_len post_one _ (PL k++[(⟨k,16,ck,0⟩:Posting)]) rfl (ho7.ext (Ext.alloc _ _)) w7.heap.size 0 1 1 [(⟨17,k,0,ch⟩:Posting)] rfl (new_post (w7.setCell ⟨gS,4,none⟩ (.slice Aq ml cq)) (⟨17,k,0,ch⟩:Posting) (by simp)) (by first | omega | (simp; omega)) (by omega) (by first | omega | (simp; omega)) ?_))
       intro v8 w8 ho8 hg4 _
       have ho8:OwnL w8 rb 188 4 Posting.cells v8 ((PL k++[(⟨k,16,ck,0⟩:Posting)])++[(⟨17,k,0,ch⟩:Posting)]):=by first | exact ho8 | (rw [List.append_assoc]; exact ho8)
       obtain ⟨Aq,cq,hveq,-⟩:=ho8.sl post_len (by omega)
       obtain ⟨ml,HML⟩:∃m,Hid (((PL k++[(⟨k,16,ck,0⟩:Posting)])++[(⟨17,k,0,ch⟩:Posting)]).length=m):=⟨_,hide rfl⟩
       rw [HML.out] at hveq
       subst hveq
       have hrow:=Row.grown (hA7.r.ext (Ext.alloc _ _)) hg4 (fun e=>by have:=ho7.block_le e; omega)
       have hrl:=hrow.lt
       have hrf:=hrow.frozen 4
       have hrc:=hrow.cell 4
       simp at hrc
       have hA8:=hA7.app (v':= .slice Aq ml cq) (Ext.alloc _ _) hg4 (fun j hj=>by have:=ho7.block_le hj; omega) ⟨by omega,by omega⟩ (by omega)
       have hG8:=((hG7.more (Ext.alloc _ _)).grown hg4 (fun j hj=>by have:=ho7.block_le hj; omega)).far (p:=⟨gS,4,none⟩) (.inl (by show gS<_; omega)) (.slice Aq ml cq)
       have ho8:=ho8.farX (p:=⟨gS,4,none⟩) (fun j hj=>by have:=ho8.block_le hj; show j≠gS; omega) (.slice Aq ml cq)
       have hz8:rb≤w8.heap.size:=by have:=hg4.size; simp at this; omega
       clear hg4 hrow
       go_wp2_with fail
       go_roundw
       case rel=>exact ⟨k+1,_,by omega,by go_num,by rw [HPK.out]; exact ho8,hA8,hG8,by simp; exact hz8⟩
       case measure=>simp [intOf]; omega
    ·obtain rfl:k=16:=by omega
     have HPE:Hid (PL 16=postsL band percent price ts C T 16):=hide (by rw [←HPL.out])
     have hSr:=(hS.ext (hx1.trans hx2)).ext hAc.a.ext
     have r0:=hSr.cell 0
     have r1:=hSr.cell 1
     have r2:=hSr.cell 2
     have r3:=hSr.cell 3
     have r4:=hSr.cell 4
     simp at r0 r1 r2 r3 r4
     have rf:=hSr.frozen
     have rl:=hSr.lt
     have p0:=hAc.r.cell 0
     have p1:=hAc.r.cell 1
     have p2:=hAc.r.cell 2
     have p3:=hAc.r.cell 3
     have p4:=hAc.r.cell 4
     simp at p0 p1 p2 p3 p4
     have pl:=hAc.r.lt
     have hzz:=hAc.a.ext.size
     have hw12:=hx1.size
     have hw22:=hx2.size
     have hneR:gS≠w.heap.size+2:=by omega
     have hneR2:w.heap.size+2≠gS:=by omega
     have hRF:=five_rowS (u0:= .slice As sc.length cs) (u1:= .slice Ao E3.length co) (u2:= .slice Ag E3.length cg) (u3:= .slice (some ⟨g1,0,none⟩) 16 16) (u4:= .slice Av (PL 16).length cv) hSr
     have tS:=Turn.fiveS (g:=w.heap.size+2) wr (.slice As sc.length cs) (.slice Ao E3.length co) (.slice Ag E3.length cg) (.slice (some ⟨g1,0,none⟩) 16 16) (.slice Av (PL 16).length cv)
     have f0:=hRF.cell 0
     have f1:=hRF.cell 1
     have f2:=hRF.cell 2
     have f3:=hRF.cell 3
     have f4:=hRF.cell 4
     simp at f0 f1 f2 f3 f4
     have HRES:Hid (RetStI (stlOf sc E3 g band percent price ts) w (.returned (.agg #[.slice As sc.length cs,.slice Ao E3.length co,.slice Ag E3.length cg,.slice (some ⟨g1,0,none⟩) 16 16,.slice Av (PL 16).length cv])) (((((wr.setCell ⟨w.heap.size+2,0,none⟩ (.slice As sc.length cs)).setCell ⟨w.heap.size+2,1,none⟩ (.slice Ao E3.length co)).setCell ⟨w.heap.size+2,2,none⟩ (.slice Ag E3.length cg)).setCell ⟨w.heap.size+2,3,none⟩ (.slice (some ⟨g1,0,none⟩) 16 16)).setCell ⟨w.heap.size+2,4,none⟩ (.slice Av (PL 16).length cv))):=hide (by
      refine ⟨_,_,_,_,_,_,_,_,_,_,_,_,_,_,_,rfl,⟨?_,?_,?_,?_,?_,?_,?_⟩,(hX2.trans hAc.a.ext).turn tS (fun b hb=>by omega)⟩
      ·exact ((ho22.toAS intC_len (by omega)).ext hAc.a.ext).turn tS (fun b hb hS=>by have:=HBs.out b hb; omega)
      ·exact ((ho3.toAS order_len (by omega)).ext hAc.a.ext).turn tS (fun b hb hS=>by have:=HBo.out b hb; omega)
      ·exact (OwnA.lenS (hG.o.toAS intC_len (by omega)) HGL.out).turn tS (fun b hb hS=>by have:=hG.b b (own_blk hb); omega)
      ·have h1:=RowOf.toA hAc.a.c (n:=16) (c:=16) HCl.out.symm (by omega) (by omega)
       rw [←HC.out] at h1
       exact h1.turn tS (fun b hb hS=>by have:=blk_is hb; omega)
      ·show OwnA _ 188 Posting.cells Av (PL 16).length cv (postsL band percent price ts (accL id E3 g E3.length) (accL pos0 E3 g E3.length) 16)
       rw [HC.out,HT.out, ←HPE.out]
       exact (ho.toAS post_len (by omega)).turn tS (fun b hb hS=>by have:rb≤b:=ho.block_le (own_blk hb); omega)
      ·rintro b (hb | hb | hb | hb | hb)
       ·have:=HBs.out b hb; omega
       ·have:=HBo.out b hb; omega
       ·have:=hG.b b (own_blk hb); omega
       ·have:=blk_is hb; omega
       ·have:rb≤b:=ho.block_le (own_blk hb); omega
      ·exact sep5 (a:=w1.heap.size) (b:=w2.heap.size) (c:=g1) (d:=g2) (by omega) (by omega) (by omega) (fun b hb=>(HBs.out b hb).2) (fun b hb=>HBo.out b hb) (fun b hb=>⟨by have:=(hG.b b (own_blk hb)).1; omega,(hG.b b (own_blk hb)).2⟩) (fun b hb=>⟨by have:=blk_is hb; omega,by have:=blk_is hb; omega⟩) (fun b hb=>by have:rb≤b:=ho.block_le (own_blk hb); omega))
     clear hRF tS
     go_wp2_with fail
     refine bodyPost_ret (v:= .agg #[.slice As sc.length cs,.slice Ao E3.length co,.slice Ag E3.length cg,.slice (some ⟨g1,0,none⟩) 16 16,.slice Av (PL 16).length cv]) (by simp [results,Tryz.results128,go_sem,f0,f1,f2,f3,f4]) rfl ?_
     rw [HGO.out]
     exact HRES.out
end Go.Proofs.YtfkpghdmljjegaaGreat
