/-
  The settlement of an hour, of the reference, exactly.
-/
import Derived.Test.YtfkpghdmljjegaaGreatVe39
import Derived.Test.YtfkpghdmljjegaaGreatVe34
import Derived.Test.YtfkpghdmljjegaaGreatVe40
import Derived.Test.YtfkpghdmljjegaaGreatVe41
import Derived.Deep.CutRange
namespace Go.Proofs.YtfkpghdmljjegaaGreat
open Go.RowKit
theorem reads_48 {nn:Int} {rs:List Reading} (h:readsB nn rs=true):rs.length≤48:=by
 unfold readsB at h
 rw [Bool.and_eq_true,decide_eq_true_eq] at h
 exact h.1
structure Acc2 (W wr:World) (g1 g2:Nat) (C T:List Int):Prop where
 c:RowOf wr g1 2 intC C
 t:RowOf wr g2 2 intC T
 ext:Ext W wr
 lo:W.heap.size≤g1∧W.heap.size≤g2
 ne:g1≠g2
theorem acc2_ex {W wr:World} {g1 g2:Nat} {C T:List Int} (hc:RowOf wr g1 2 intC C) (ht:RowOf wr g2 2 intC T) (hx:Ext W wr) (hl:W.heap.size≤g1∧W.heap.size≤g2) (hn:g1≠g2):
  ∃g1' g2':Nat,Value.slice (some ⟨g1,0,none⟩) 16 16= .slice (some ⟨g1',0,none⟩) 16 16∧Value.slice (some ⟨g2,0,none⟩) 16 16= .slice (some ⟨g2',0,none⟩) 16 16∧Acc2 W wr g1' g2' C T:=⟨g1,g2,rfl,rfl,hc,ht,hx,hl,hn⟩
structure StlAt (w:World) (A0 A1 A2 A3 A4:Option Addr) (n0 c0 n1 c1 n2 c2 n3 c3 n4 c4:Nat) (X:Stl):Prop where
 s0:SliceOf w 1 intC A0 n0 c0 X.sc
 s1:SliceOf w 4 Order.cells A1 n1 c1 X.os
 s2:SliceOf w 1 intC A2 n2 c2 X.got
 s3:SliceOf w 1 intC A3 n3 c3 X.chg
 s4:SliceOf w 4 Posting.cells A4 n4 c4 X.psn
def StlLo (lo:Nat) (A0 A1 A2 A3 A4:Option Addr) (n0 n1 n2 n3 n4:Nat):Prop:=
 ∀b,(blkOf A0 n0=some b∨blkOf A1 n1=some b∨blkOf A2 n2=some b∨blkOf A3 n3=some b∨blkOf A4 n4=some b)→lo≤b
theorem StlAt.turn {S:Nat→Prop} {w w':World} {lo:Nat} {A0 A1 A2 A3 A4:Option Addr} {n0 c0 n1 c1 n2 c2 n3 c3 n4 c4:Nat} {X:Stl} (h:StlAt w A0 A1 A2 A3 A4 n0 c0 n1 c1 n2 c2 n3 c3 n4 c4 X) (hl:StlLo lo A0 A1 A2 A3 A4 n0 n1 n2 n3 n4) (k:Turn S w w') (hs:∀b,S b→b<lo):StlAt w' A0 A1 A2 A3 A4 n0 c0 n1 c1 n2 c2 n3 c3 n4 c4 X:=
 ⟨h.s0.turn k (fun b hb hS=>by have:=hl b (.inl hb); have:=hs b hS; omega),h.s1.turn k (fun b hb hS=>by have:=hl b (.inr (.inl hb)); have:=hs b hS; omega),h.s2.turn k (fun b hb hS=>by have:=hl b (.inr (.inr (.inl hb))); have:=hs b hS; omega),h.s3.turn k (fun b hb hS=>by have:=hl b (.inr (.inr (.inr (.inl hb)))); have:=hs b hS; omega),h.s4.turn k (fun b hb hS=>by have:=hl b (.inr (.inr (.inr (.inr hb)))); have:=hs b hS; omega)⟩
def RowAt (w:World) (b:Nat):Prop:=∃(t:TypeId) (cs:List Value),Row w b t cs
theorem RowAt.turn {S:Nat→Prop} {w w':World} {b:Nat} (h:RowAt w b) (k:Turn S w w') (hne:¬S b):RowAt w' b:=let ⟨t,cs,r⟩:=h; ⟨t,cs,r.turn k hne⟩
theorem RowAt.lt {w:World} {b:Nat} (h:RowAt w b):b<w.heap.size:=let ⟨_,_,r⟩:=h; Row.lt r
theorem OwnL.rowAt {α:Type} {w:World} {base:Nat} {e:TypeId} {size:Nat} {f:α→List Value} {A:Option Addr} {n c:Nat} {L:List α} (h:OwnL w base e size f (.slice A n c) L) {b:Nat} (hb:blkOf A n=some b):RowAt w b:=by
 obtain ⟨h1,h2⟩:=h
 rcases h2 with ⟨hv,hn⟩ | ⟨g,cap,cur,hv,hbg,hh,hnc,hcm,hsz,htk⟩
 ·simp only [Value.slice.injEq] at hv
  obtain ⟨rfl,rfl,rfl⟩:=hv
  simp [blkOf] at hb
 ·simp only [Value.slice.injEq] at hv
  obtain ⟨rfl,rfl,rfl⟩:=hv
  obtain rfl:=blk_is hb
  exact ⟨e,cur.toList,by unfold Row; rw [Array.toArray_toList]; exact hh⟩
structure StlW (w:World) (A2 A3 A4:Option Addr) (n2 n3 n4:Nat):Prop where
 f2:∀b,blkOf A2 n2=some b→RowAt w b
 f3:∀b,blkOf A3 n3=some b→RowAt w b
 n23:∀b,blkOf A2 n2=some b→blkOf A3 n3≠some b
 n24:∀b,blkOf A2 n2=some b→blkOf A4 n4≠some b
 n34:∀b,blkOf A3 n3=some b→blkOf A4 n4≠some b
theorem StlW.turn {S:Nat→Prop} {w w':World} {A2 A3 A4:Option Addr} {n2 n3 n4:Nat} (h:StlW w A2 A3 A4 n2 n3 n4) (k:Turn S w w') (h2:∀b,blkOf A2 n2=some b→¬S b) (h3:∀b,blkOf A3 n3=some b→¬S b):StlW w' A2 A3 A4 n2 n3 n4:=
 ⟨fun b hb=>(h.f2 b hb).turn k (h2 b hb),fun b hb=>(h.f3 b hb).turn k (h3 b hb),h.n23,h.n24,h.n34⟩
theorem StlW.ext {w w':World} {A2 A3 A4:Option Addr} {n2 n3 n4:Nat} (h:StlW w A2 A3 A4 n2 n3 n4) (hx:Ext w w'):StlW w' A2 A3 A4 n2 n3 n4:=h.turn (S:=fun _=>False) (Turn.of_ext hx) (fun _ _ e=>e) (fun _ _ e=>e)
def RetStl (X:Stl) (w:World) (e:Ending) (w':World):Prop:=
 ∃(A0 A1 A2 A3 A4:Option Addr) (n0 c0 n1 c1 n2 c2 n3 c3 n4 c4:Nat),e= .returned (.agg #[.slice A0 n0 c0,.slice A1 n1 c1,.slice A2 n2 c2,.slice A3 n3 c3,.slice A4 n4 c4])∧StlAt w' A0 A1 A2 A3 A4 n0 c0 n1 c1 n2 c2 n3 c3 n4 c4 X∧Ext w w'∧StlLo w.heap.size A0 A1 A2 A3 A4 n0 n1 n2 n3 n4∧StlW w' A2 A3 A4 n2 n3 n4
theorem StlAt.ext {w w':World} {A0 A1 A2 A3 A4:Option Addr} {n0 c0 n1 c1 n2 c2 n3 c3 n4 c4:Nat} {X:Stl} (h:StlAt w A0 A1 A2 A3 A4 n0 c0 n1 c1 n2 c2 n3 c3 n4 c4 X) (hx:Ext w w'):StlAt w' A0 A1 A2 A3 A4 n0 c0 n1 c1 n2 c2 n3 c3 n4 c4 X:=
 ⟨h.s0.ext hx,h.s1.ext hx,h.s2.ext hx,h.s3.ext hx,h.s4.ext hx⟩
theorem five_rowS {w:World} {g:Nat} {t:TypeId} {u0 u1 u2 u3 u4 v0 v1 v2 v3 v4:Value} (h:Row w g t [v0,v1,v2,v3,v4]):Row (((((w.setCell ⟨g,0,none⟩ u0).setCell ⟨g,1,none⟩ u1).setCell ⟨g,2,none⟩ u2).setCell ⟨g,3,none⟩ u3).setCell ⟨g,4,none⟩ u4) g t [u0,u1,u2,u3,u4]:=
 ((((h.set_ 0 u0).set_ 1 u1).set_ 2 u2).set_ 3 u3).set_ 4 u4
theorem Acc2.grown {W wr wr' W4:World} {g1 g2:Nat} {C T:List Int} {v:Value} (h:Acc2 W wr g1 g2 C T) (hx:Ext wr W4) (hg:W4.grownBy wr' v.ownBlock) (hb:∀k,v.ownBlock=some k→k≠g1∧k≠g2∧W.heap.size≤k):Acc2 W wr' g1 g2 C T:=
 ⟨Row.grown (h.c.ext hx) hg (fun e=>(hb g1 e).1 rfl),Row.grown (h.t.ext hx) hg (fun e=>(hb g2 e).2.1 rfl),(h.ext.trans hx).grown hg (fun k hk=>(hb k hk).2.2),h.lo,h.ne⟩
theorem Acc2.more {W wr wr':World} {g1 g2:Nat} {C T:List Int} (h:Acc2 W wr g1 g2 C T) (hx:Ext wr wr'):Acc2 W wr' g1 g2 C T:=⟨h.c.ext hx,h.t.ext hx,h.ext.trans hx,h.lo,h.ne⟩
theorem new_post (W:World) (x:Posting) {g:Nat} (hg:g=W.heap.size):SliceOf (W.alloc (.cells #[.int .i64 x.debit,.int .i64 x.credit,.int .i64 x.gas,.int .i64 x.money] 188)) 4 Posting.cells (some ⟨g,0,none⟩) 1 1 [x]:=by
 subst hg; exact new_one post_len W 188 x
theorem bd_id {g:List Int} (h:Bd 10000000 g):∀z∈g,-10000000≤id z∧id z≤10000000:=h
theorem bd_pos {g:List Int} (h:Bd 10000000 g):∀z∈g,-10000000≤pos0 z∧pos0 z≤10000000:=fun z hz=>by have:=h z hz; unfold pos0; split <;> omega
theorem Turn.fiveS {g:Nat} (b:World) (u0 u1 u2 u3 u4:Value):Turn (fun x=>x=g) b (((((b.setCell ⟨g,0,none⟩ u0).setCell ⟨g,1,none⟩ u1).setCell ⟨g,2,none⟩ u2).setCell ⟨g,3,none⟩ u3).setCell ⟨g,4,none⟩ u4):=
 Turn.of_only (g:=g) ((((((Only.refl g b).setCell (p:=⟨g,0,none⟩) rfl u0).setCell (p:=⟨g,1,none⟩) rfl u1).setCell (p:=⟨g,2,none⟩) rfl u2).setCell (p:=⟨g,3,none⟩) rfl u3).setCell (p:=⟨g,4,none⟩) rfl u4) (fun _=>rfl)
set_option maxHeartbeats 4000000 in
theorem c_l31Settle (A1 A2:Option Addr) (n1 c1 n2 c2:Nat) (ns:List Node) (ps:List Pipe) (A:Option Addr) (n c:Nat) (xs:List Contract) (B:Option Addr) (m d:Nat) (L:List Nomination) (h:Int) (R:Option Addr) (nr cr:Nat) (rd:List Reading) (band percent price:Int) (K:Option Addr) (kn kc:Nat) (ts:List Tier) (w:World) (hs1:SliceOf w 3 Node.cells A1 n1 c1 ns) (hs2:SliceOf w 5 Pipe.cells A2 n2 c2 ps) (hs:SliceOf w 8 Contract.cells A n c xs) (hL:SliceOf w 4 Nomination.cells B m d L) (hR:SliceOf w 2 Reading.cells R nr cr rd) (hK:SliceOf w 2 Tier.cells K kn kc ts) (hnm:∀x∈ns,x.name.size≤1048576) (hk:HrOk n1 ns ps xs L h) (hrd:readsB n1 rd=true) (V:Valid band percent price ts):Calls Tryz.prog 137 #[.agg #[.slice A1 n1 c1,.slice A2 n2 c2],.slice A n c,.slice B m d,.int .i64 h,.slice R nr cr,.agg #[.int .i64 band,.int .i64 percent,.int .i64 price,.slice K kn kc]] w (RetStl (stlH ps n1 xs L h rd band percent price ts) w):=by
 obtain ⟨W0,HW0⟩:∃W0,Hid ((((w.alloc (.cells #[.slice A1 n1 c1,.slice A2 n2 c2] 45)).alloc (.cells #[.int .i64 band,.int .i64 percent,.int .i64 price,.slice K kn kc] 73)).alloc (.cells #[.slice none 0 0,.slice none 0 0,.slice none 0 0,.slice none 0 0,.slice none 0 0] 28))=W0):=⟨_,hide rfl⟩
 have hN:Row W0 w.heap.size 45 [.slice A1 n1 c1,.slice A2 n2 c2]:=by rw [←HW0.out]; exact ((Row.new w 45 [.slice A1 n1 c1,.slice A2 n2 c2]).ext (Ext.alloc _ _)).ext (Ext.alloc _ _)
 have hT:Row W0 (w.heap.size+1) 73 [.int .i64 band,.int .i64 percent,.int .i64 price,.slice K kn kc]:=by rw [←HW0.out]; exact (Row.newG (W:=(w.alloc (.cells #[.slice A1 n1 c1,.slice A2 n2 c2] 45))) _ [.int .i64 band,.int .i64 percent,.int .i64 price,.slice K kn kc] (by simp)).ext (Ext.alloc _ _)
 have hS:Row W0 (w.heap.size+2) 28 [.slice none 0 0,.slice none 0 0,.slice none 0 0,.slice none 0 0,.slice none 0 0]:=by rw [←HW0.out]; exact Row.newG (W:=((w.alloc (.cells #[.slice A1 n1 c1,.slice A2 n2 c2] 45)).alloc (.cells #[.int .i64 band,.int .i64 percent,.int .i64 price,.slice K kn kc] 73))) _ [.slice none 0 0,.slice none 0 0,.slice none 0 0,.slice none 0 0,.slice none 0 0] (by simp)
 have hx0:Ext w W0:=by rw [←HW0.out]; exact ((Ext.alloc _ _).and_alloc _).and_alloc _
 have hz0:w.heap.size+3=W0.heap.size:=by rw [←HW0.out]; simp
 have HNM:=hide hnm
 have HK:=hide hk
 have HV:=hide V
 have HRD:=hide hrd
 have hnr:nr≤48:=by rw [hR.len]; exact reads_48 hrd
 have hn20:n≤20:=by rw [hs.len]; exact hk.le
 have hb0:=hN.cell 0
 have hb1:=hN.cell 1
 simp at hb0 hb1
 have hbl:=hN.lt
 obtain ⟨os,HOS⟩:∃os,Hid (hrOrd ps n1 xs L h=os):=⟨_,hide rfl⟩
 have HOK:Hid (∀o∈os,(0≤o.shipper∧o.shipper≤15)∧(0≤o.node∧o.node<n1)∧(-30000≤o.amount∧o.amount≤30000)∧(0≤o.cls∧o.cls≤3)):=hide (by rw [←HOS.out]; exact hrOrd_ok hk.bk hk.nm h)
 have hol:os.length≤40:=by rw [←HOS.out,hrOrd_len]; have:=hk.le; omega
 obtain ⟨sc,HSC⟩:∃sc,Hid (hrSc ps n1 xs L h=sc):=⟨_,hide rfl⟩
 have HST:Hid (stlH ps n1 xs L h rd band percent price ts=stlOf sc os (gotOf os rd) band percent price ts):=hide (by unfold stlH; rw [HOS.out,HSC.out])
 rw [HST.out]
 clear hnm hk V hrd
 go_enter Tryz.func137,Tryz.ntmps137
 go_wp2_with fail
 rw [HW0.out]
 refine (c_l31Orders A1 A2 n1 c1 n2 c2 ns ps A n c xs B m d L h _ (hs1.ext hx0) (hs2.ext hx0) (hs.ext hx0) (hL.ext hx0) HNM.out HK.out).mono ?_
 rw [HOS.out,HSC.out]
 rintro e w1 ⟨v1,v2,rfl,ho1,ho2,hx1⟩
 obtain ⟨As,cs,rfl,-⟩:=ho1.sl intC_len (by omega)
 obtain ⟨Ao,co,rfl,hso⟩:=ho2.sl order_len (by omega)
 have hX1:=hx0.trans hx1
 clear hb0 hb1 hbl
 go_wp2_with fail
 refine (c_l28Allocate Ao os.length co os R nr cr rd _ hso (hR.ext hX1) hol hnr (fun o ho=>(HOK.out o ho).2.2.1) (reads_mem HRD.out)).mono ?_
 rintro e w2 ⟨v3,v4,g,rfl,hsh,HG⟩
 have HGO:Hid (gotOf os rd=g):=hide (gotOf_eq HG.out.1)
 have HBD:=hide HG.out.2.1
 have hgl:g.length=os.length:=HG.out.2.2
 have HGL:=hide hgl
 obtain ⟨Ag,cg,rfl,hsg⟩:=hsh.o6.sl intC_len (by omega)
 obtain ⟨Au,cu,rfl,-⟩:=hsh.o7.sl intC_len (by omega)
 rw [hgl] at hsg
 rw [hgl]
 have hx2:=hsh.ext
 have hX2:=hX1.trans hx2
 have hx12:=hx1.trans hx2
 have hso2:=hso.ext hx2
 have hsc2:=(ho1.ext hx2).slE intC_len (by omega)
 have HBs:=hide (fun b (hb:blkOf As sc.length=some b)=>(show W0.heap.size≤b from ho1.block_le (own_blk hb)))
 have HBo:=hide (fun b (hb:blkOf Ao os.length=some b)=>(show W0.heap.size≤b from ho2.block_le (own_blk hb)))
 have HBg:=hide (fun b (hb:blkOf Ag os.length=some b)=>(show W0.heap.size≤b from Nat.le_trans hx1.size (hsh.o6.block_le (own_blk (c:=cg) (by rw [hgl]; exact hb)))))
 have HFg:=hide (fun b (hb:blkOf Ag os.length=some b)=>(show RowAt w2 b from hsh.o6.rowAt (c:=cg) (by rw [hgl]; exact hb)))
 have hN2:=hN.ext hx12
 have hT2:=hT.ext hx12
 have hS2:=hS.ext hx12
 have hlo2:=hx12.size
 clear HG hsh ho1 ho2 hN hT hS hgl hso
 have hmk:∀W:World,(Instr.makeSlice 24 (.int .i64 16) (.int .i64 16)).run Tryz.prog W= .ok (.slice (some ⟨W.heap.size,0,none⟩) 16 16) (W.alloc (.cells ((List.replicate 16 (0:Int)).flatMap intC).toArray 2)):=fun W=>run_make_flat (P:=Tryz.prog) 24 2 _ _ 1 8 Tryz.underlying24 int_info (f:=intC) 0 rfl rfl rfl (by omega) 16 (by omega) (by omega) W
 obtain ⟨z16,HZ⟩:∃z,Hid (List.replicate 16 (0:Int)=z):=⟨_,hide rfl⟩
 rw [HZ.out] at hmk
 go_wp2_with fail
 go_cut [17,18] from 38 to 39 (fun a b wx=>∃g1 g2:Nat,a= .slice (some ⟨g1,0,none⟩) 16 16∧b= .slice (some ⟨g2,0,none⟩) 16 16∧Acc2 w2 wx g1 g2 z16 z16)
 case first=>
  go_region
  all_goals
   go_wp2_with fail
   go_meet
  all_goals
   apply acc2_ex
   case hc=>(refine RowOf.drew ?_; repeat (first | (refine Row.newG _ _ ?_; simp; done) | refine RowOf.ext ?_ (Ext.alloc _ _)))
   case ht=>(refine RowOf.drew ?_; repeat (first | (refine Row.newG _ _ ?_; simp; done) | refine RowOf.ext ?_ (Ext.alloc _ _)))
   case hx=>
    refine Ext.drew ?_
    repeat (first | exact Ext.refl _ | refine Ext.and_alloc ?_ _)
   case hl=>simp
   case hn=>simp
 case rest=>
  obtain ⟨g1,g2,rfl,rfl,hAc⟩:=hcut
  clear hmk
  have hlo:=hAc.lo
  have hgne:=hAc.ne
  have hgne2:g2≠g1:=Ne.symm hgne
  have hA0:Acc2 w2 wc g1 g2 (accL id os g 0) (accL pos0 os g 0):=by unfold accL; rw [HZ.out]; exact hAc
  clear hAc
  go_wp2_with fail
  go_loopw [19] (fun i wr=>∃j:Nat,j≤os.length∧i= .int .i64 j∧Acc2 w2 wr g1 g2 (accL id os g j) (accL pos0 os g j)) (fun i _=>os.length-(intOf i).toNat)
  case atStart=>exact ⟨0,Nat.zero_le _,rfl,hA0⟩
  case round=>
   clear hA0
   obtain ⟨j,hj,rfl,hAc⟩:=hrel
   have hCl:(accL id os g j).length=16:=accL_len _ _ _ _
   have hTl:(accL pos0 os g j).length=16:=accL_len _ _ _ _
   by_cases hlt:j<os.length
   ·obtain ⟨bo,oo,o,hAo,hbo,hok,hco⟩:=(hso2.ext hAc.ext).get hlt
    have hbow:bo<w2.heap.size:=hso2.blk (b:=bo) (by unfold blkOf; rw [if_neg (by omega),hAo]; rfl)
    obtain ⟨bg,og,z,hAg,hbg,hgk,hcg⟩:=(hsg.ext hAc.ext).get hlt
    have hbgw:bg<w2.heap.size:=hsg.blk (b:=bg) (by unfold blkOf; rw [if_neg (by omega),hAg]; rfl)
    have HAO:=hide hAo
    have HAG:=hide hAg
    subst hAo hAg
    have hc0:=hco 0 _ rfl
    have hcz:=hcg 0 _ rfl
    simp only [Nat.add_zero,Nat.mul_one] at hc0 hcz
    have hsh:=(HOK.out o (List.mem_of_getElem? hok)).1
    obtain ⟨k,hk⟩:∃k:Nat,o.shipper=k:=⟨o.shipper.toNat,by omega⟩
    have hk16:k<16:=by omega
    have hzb:=HBD.out z (List.mem_of_getElem? hgk)
    have hcb:=accL_bd (os:=os) (B:=10000000) (by omega) (bd_id HBD.out) j
    have htb:=accL_bd (os:=os) (B:=10000000) (by omega) (bd_pos HBD.out) j
    have HS1:=hide (accL_step (f:=id) hok hgk)
    have HS2:=hide (accL_step (f:=pos0) hok hgk)
    obtain ⟨C,hC⟩:∃C,accL id os g j=C:=⟨_,rfl⟩
    obtain ⟨T,hT⟩:∃T,accL pos0 os g j=T:=⟨_,rfl⟩
    rw [hC] at hAc hCl hcb HS1
    rw [hT] at hAc hTl htb HS2
    rw [hk,Int.toNat_natCast] at HS1 HS2
    obtain ⟨a,ha⟩:∃a,C[k]? =some a:=⟨_,List.getElem?_eq_getElem (by omega)⟩
    obtain ⟨t,ht⟩:∃t,T[k]? =some t:=⟨_,List.getElem?_eq_getElem (by omega)⟩
    have hab:=hcb a (List.mem_of_getElem? ha)
    have htb2:=htb t (List.mem_of_getElem? ht)
    obtain ⟨s1,hs1'⟩:∃s,a+z=s:=⟨_,rfl⟩
    obtain ⟨mz,hmz⟩:∃m,(if 0<z then z else 0)=m:=⟨_,rfl⟩
    have hmb:0≤mz∧mz≤10000000:=by rw [←hmz]; split <;> omega
    obtain ⟨s2,hs2'⟩:∃s,t+mz=s:=⟨_,rfl⟩
    have e1:IntKind.i64.wrap (a+z)=s1:=by rw [←hs1']; exact IntWalk.i64_in _ (by omega)
    have e2:IntKind.i64.wrap (t+mz)=s2:=by rw [←hs2']; exact IntWalk.i64_in _ (by omega)
    have HN1:Hid (accL id os g (j+1)=C.set k s1):=hide (by rw [HS1.out,accAt,zAt_some ha, ←hs1']; rfl)
    have HN2:Hid (accL pos0 os g (j+1)=T.set k s2):=hide (by rw [HS2.out,accAt,zAt_some ht, ←hs2', ←hmz]; rfl)
    have hca:=hAc.c.get intC_len ha (j:=0) rfl
    have hct:=hAc.t.get intC_len ht (j:=0) rfl
    simp only [Nat.mul_one,Nat.add_zero] at hca hct
    have hf1:=hAc.c.frozen k
    have hl1:=hAc.c.lt
    have hR1:=(RowOf.set0 hAc.c (fun x=>⟨_,rfl⟩) (d:=k) (by omega) s1 (.int .i64 s1) rfl).drew
    have hT1:RowOf (wr.setCell ⟨g1,k,none⟩ (.int .i64 s1)).drew g2 2 intC T:=(hAc.t.far (p:=⟨g1,k,none⟩) hgne2 (.int .i64 s1)).drew
    have hx1':=(hAc.ext.setCell (p:=⟨g1,k,none⟩) hlo.1 (.int .i64 s1)).drew
    rw [hk] at hc0
    have hne1:bg≠g1:=by omega
    have hne2:bo≠g1:=by omega
    have HHC:=hide ht
    clear hok hgk hC hT ha ht hs1' hs2' hcb htb HS1 HS2 hco hcg hk
    go_wp2_with fail
    refine wp_region_phZ [(g1,k),(bg,og+j)] [] [0,1,2,3,4,5,6,7,8,9,10,11] 12 (by kernel_rfl) (by kernel_rfl) (by intro c a w d v h; cases d <;> exact h) ?_
    simp only [wpPhZ,pickL,nthO]
    repeat (go_big_quiet_step (fail))
    refine wpQuiet_nil ?_
    set_option maxRecDepth 20000 in
    go_wp2_with fail
    generalize (wr.setCell ⟨g1,k,none⟩ (.int .i64 s1)).drew=W1 at *
    have hcz1:=(hx1'.cell bg (og+j) hbgw).trans ((hAc.ext.cell bg (og+j) hbgw).symm.trans hcz)
    have hct1:=hT1.get intC_len HHC.out (j:=0) rfl
    simp only [Nat.mul_one,Nat.add_zero] at hct1
    have hf2:=Row.frozen hT1 k
    have hl2:=Row.lt hT1
    have hbg1:bg<W1.heap.size:=Nat.lt_of_lt_of_le hbgw hx1'.size
    have hR2:=(hR1.ext (Ext.refl _).drew).far (p:=⟨g2,k,none⟩) hgne (.int .i64 s2)
    have hT2:=RowOf.set0 (hT1.drew) (fun x=>⟨_,rfl⟩) (d:=k) (by omega) s2 (.int .i64 s2) rfl
    have hx2':=hx1'.drew.setCell (p:=⟨g2,k,none⟩) hlo.2 (.int .i64 s2)
    clear hR1 hT1 hx1' hAc hca hct hf1 hl1 hc0 hcz hbg hbo
    refine wp_region_phZ [(g2,k),(bg,og+j)] [] [0,1,2,3,4,5,6,7,8,9,10,11,12] 13 (by kernel_rfl) (by kernel_rfl) (by intro c a w d v h; cases d <;> exact h) ?_
    simp only [wpPhZ,pickL,nthO]
    repeat (go_big_quiet_step (fail))
    refine wpQuiet_nil ?_
    set_option maxRecDepth 20000 in
    go_wp2_with fail
    go_roundw
    case rel=>exact ⟨j+1,by omega,by go_num,by rw [HN1.out]; exact hR2,by rw [HN2.out]; exact hT2,hx2',hlo,hgne⟩
    case measure=>simp [intOf]; omega
   ·obtain rfl:j=os.length:=by omega
    obtain ⟨C,HC⟩:∃C,Hid (accL id os g os.length=C):=⟨_,hide rfl⟩
    obtain ⟨T,HT⟩:∃T,Hid (accL pos0 os g os.length=T):=⟨_,hide rfl⟩
    have hcb:=accL_bd (os:=os) (B:=10000000) (by omega) (bd_id HBD.out) os.length
    have htb:=accL_bd (os:=os) (B:=10000000) (by omega) (bd_pos HBD.out) os.length
    have htn:=accL_nn (os:=os) (g:=g) os.length
    rw [HC.out] at hAc hCl hcb
    rw [HT.out] at hAc hTl htb htn
    have HCB:=hide hcb
    have HTB:=hide htb
    have HTN:=hide htn
    obtain ⟨PL,HPL⟩:∃PL,Hid (postsL band percent price ts C T=PL):=⟨_,hide rfl⟩
    have HP0:Hid (PL 0=[]):=hide (by rw [←HPL.out]; rfl)
    have HPS:Hid (∀k,PL (k+1)=PL k++postsK band percent price ts C T k):=hide (by rw [←HPL.out]; exact fun k=>rfl)
    have HPN:Hid (∀k,(PL k).length≤2*k):=hide (by rw [←HPL.out]; exact postsL_len band percent price ts C T)
    have hzr:=hAc.ext.size
    have hg1r:=hAc.c.lt
    have hg2r:=hAc.t.lt
    have hO0:OwnL (wr.alloc (.cells #[] 188)) wr.heap.size 188 4 Posting.cells (.slice (some ⟨wr.heap.size,0,none⟩) 0 0) (PL 0):=by rw [HP0.out]; exact own_new wr wr.heap.size _ _ _ _ rfl (Nat.le_refl _)
    have hA1:=hAc.more (Ext.alloc wr (.cells #[] 188))
    obtain ⟨rb,hrb⟩:∃rb,wr.heap.size=rb:=⟨_,rfl⟩
    rw [hrb] at hO0 hzr hg1r hg2r
    clear hcb htb htn hAc
    go_wp2_with fail
    go_loopw [21,22] (fun v i wr=>∃k:Nat,k≤16∧i= .int .i64 k∧OwnL wr rb 188 4 Posting.cells v (PL k)∧Acc2 w2 wr g1 g2 C T∧rb≤wr.heap.size) (fun _ i _=>16-(intOf i).toNat)
    case atStart=>exact ⟨0,Nat.zero_le _,rfl,hO0,hA1,by simp; omega⟩
    case round=>
     clear hO0 hA1
     obtain ⟨k,hk,rfl,ho,hAc,hrz⟩:=hrel
     have HL2:=HPN.out k
     by_cases hlt:k<16
     ·obtain ⟨ck,hck⟩:∃a,C[k]? =some a:=⟨_,List.getElem?_eq_getElem (by omega)⟩
      obtain ⟨tk,htk⟩:∃a,T[k]? =some a:=⟨_,List.getElem?_eq_getElem (by omega)⟩
      have hcb:=HCB.out ck (List.mem_of_getElem? hck)
      have htb:=HTB.out tk (List.mem_of_getElem? htk)
      have htn:=HTN.out tk (List.mem_of_getElem? htk)
      have hol40:10000000*(os.length:Int)≤400000000:=by omega
      have htol:=tolF_bd HV.out.band0 HV.out.band1 HV.out.per0 HV.out.per1 htn (show tk≤1000000000 by omega)
      have heb:=excS_bd (bal:=ck) (m:=400000000) htol.1 (by omega) (by omega)
      obtain ⟨ex,hex⟩:∃ex,excF band percent ck tk=ex:=⟨_,rfl⟩
      obtain ⟨fe,hfe⟩:∃fe,absI ex=fe:=⟨_,rfl⟩
      obtain ⟨ch,hch⟩:∃ch,chargeF price ts fe=ch:=⟨_,rfl⟩
      rw [hex] at heb
      have hfb:=absI_le heb.1 heb.2
      rw [hfe] at hfb
      have HZC:Hid (zAt C k=ck):=hide (zAt_some hck)
      have HFK:Hid (feeK band percent price ts C T k=ch):=hide (by unfold feeK; rw [zAt_some hck,zAt_some htk,hex,hfe,hch])
      have HEX:=hide hex
      have HFE:=hide hfe
      have HCH:=hide hch
      have HCK:=hide hck
      have HTK:=hide htk
      have hcc:=hAc.c.get intC_len hck (j:=0) rfl
      simp only [Nat.mul_one,Nat.add_zero] at hcc
      have hccl:=hAc.c.lt
      clear hex hfe hch hck htk htol
      by_cases hc0:ck=0
      ·have hcbb:(ck != 0)=false:=by rw [bne_eq_false_iff_eq]; exact hc0
       have HC0:=hide hc0
       clear hc0
       have HA16:=hAc
       have hTr:=hT2.ext HA16.ext
       have y0:=hTr.cell 0
       have y1:=hTr.cell 1
       have y2:=hTr.cell 2
       have y3:=hTr.cell 3
       simp at y0 y1 y2 y3
       have hyl:=hTr.lt
       have qc:=HA16.c.get intC_len HCK.out (j:=0) rfl
       have qt:=HA16.t.get intC_len HTK.out (j:=0) rfl
       simp only [Nat.mul_one,Nat.add_zero] at qc qt
       have qcl:=HA16.c.lt
       have qtl:=HA16.t.lt
       go_wp2_with fail
       refine wp_region_ph [([0,1,2,3,4,5,6,7,8,9],10),([],11),([],12)] [13] (by kernel_rfl) (by kernel_rfl) (by intro c a w d v h; cases d <;> exact h) ?_
       simp only [wpPh,pickL,nthO]
       repeat (go_big_quiet_step (fail))
       refine wpQuiet_nil ?_
       clear y0 y1 y2 y3 hyl hTr qc qt qcl qtl
       go_wp2_with fail
       refine (c_l29Excess band percent price ck tk K kn kc _ HV.out.band0 HV.out.band1 HV.out.per0 HV.out.per1 (by omega) (by omega) (by omega) (by omega)).mono ?_
       rw [HEX.out]
       rintro e w5 ⟨rfl,hx5⟩
       go_wp2_with fail
       refine ⟨hx5,?_⟩
       repeat (go_big_quiet_step (fail))
       refine wpQuiet_nil ?_
       go_wp2_with fail
       refine (c_l01Abs ex _ (by omega) (by omega)).mono ?_
       rw [HFE.out]
       rintro e w' ⟨rfl,rfl⟩
       go_wp2_with fail
       refine ⟨Ext.refl _,?_⟩
       repeat (go_big_quiet_step (fail))
       refine wpQuiet_nil ?_
       go_wp2_with fail
       have hx05:Ext wr w5:=(Ext.refl _).drew.trans hx5
       have hXX:=hX2.trans (HA16.ext.trans hx05)
       refine (c_l29Charge band percent price fe K kn kc ts _ (hK.ext hXX) HV.out (by omega) (by omega)).mono ?_
       rw [HCH.out]
       rintro e w6 ⟨rfl,hx6⟩
       go_wp2_with fail
       refine ⟨hx6,?_⟩
       repeat (go_big_quiet_step (fail))
       refine wpQuiet_nil ?_
       have hx06:=hx05.trans hx6
       have ho6:=ho.ext hx06
       have hA6:=HA16.more hx06
       have hz6:rb≤w6.heap.size:=Nat.le_trans (by first | exact hrz | exact hz4) hx06.size
       clear HA16 hXX
       by_cases hch:ch=0
       ·have hcb2:(ch != 0)=false:=by rw [bne_eq_false_iff_eq]; exact hch
        have HPK:Hid (PL (k+1)=PL k):=hide (by rw [HPS.out]; unfold postsK; rw [HZC.out,HFK.out,if_neg (show ¬ch≠0 by omega),List.append_nil]; exact (by rw [if_neg (fun h=>h HC0.out),List.append_nil]))
        clear hch
        go_wp2_with fail
        go_roundw
        case rel=>exact ⟨k+1,by omega,by go_num,by rw [HPK.out]; exact ho6,hA6,hz6⟩
        case measure=>simp [intOf]; omega
       ·have hcb2:(ch != 0)=true:=by rw [bne_iff_ne]; exact hch
        have HPK:Hid (PL (k+1)=PL k++[⟨17,k,0,ch⟩]):=hide (by rw [HPS.out]; unfold postsK; rw [HZC.out,HFK.out,if_pos hch, ←List.append_assoc]; congr 1; exact (by rw [if_neg (fun h=>h HC0.out),List.append_nil]))
        clear hch
        go_wp2_with (at_builtin; go_must (refine wpList_append_where rfl _ _ 26 rfl rb 188 _ 4 32 Tryz.underlying26 posting_info rfl (by decide) Posting.cells post_len post_one _ (PL k) rfl (ho6.ext (Ext.alloc _ _)) w6.heap.size 0 1 1 [⟨17,k,0,ch⟩] rfl (new_post w6 ⟨17,k,0,ch⟩ rfl) (by first | omega | (simp; omega)) (by omega) (by first | omega | (simp; omega)) ?_))
        intro v7 w7 ho7 hg7 _
        have hA7:=hA6.grown (Ext.alloc _ _) hg7 (fun j hj=>by have:=ho6.block_le hj; omega)
        have hz7:=hg7.size
        have HO7:Hid (OwnL w7 rb 188 4 Posting.cells v7 (PL (k+1))):=hide (by rw [HPK.out]; first | exact ho7 | (rw [List.append_assoc]; exact ho7))
        go_wp2_with fail
        go_roundw
        case rel=>exact ⟨k+1,by omega,by go_num,HO7.out,hA7,by simp at hz7; omega⟩
        case measure=>simp [intOf]; omega
      ·have hcbb:(ck != 0)=true:=by rw [bne_iff_ne]; exact hc0
       have HC0:=hide hc0
       clear hc0
       go_wp2_with (at_builtin; go_must (refine wpList_append_where rfl _ _ 26 rfl rb 188 _ 4 32 Tryz.underlying26 posting_info rfl (by decide) Posting.cells post_len post_one _ (PL k) rfl (ho.ext (Ext.alloc _ _)) wr.heap.size 0 1 1 [⟨k,16,ck,0⟩] rfl (new_post wr ⟨k,16,ck,0⟩ rfl) (by first | omega | (simp; omega)) (by omega) (by first | omega | (simp; omega)) ?_))
       intro v4 w4 ho4 hg4 _
       have hA4:=hAc.grown (Ext.alloc _ _) hg4 (fun j hj=>by have:=ho.block_le hj; omega)
       have hz4:rb≤w4.heap.size:=by have:=hg4.size; simp at this; omega
       have hl4:(PL k++[(⟨k,16,ck,0⟩:Posting)]).length≤2*k+1:=by simp; omega
       clear hcc hccl hg4 hAc ho
       have HA16:=hA4
       have hTr:=hT2.ext HA16.ext
       have y0:=hTr.cell 0
       have y1:=hTr.cell 1
       have y2:=hTr.cell 2
       have y3:=hTr.cell 3
       simp at y0 y1 y2 y3
       have hyl:=hTr.lt
       have qc:=HA16.c.get intC_len HCK.out (j:=0) rfl
       have qt:=HA16.t.get intC_len HTK.out (j:=0) rfl
       simp only [Nat.mul_one,Nat.add_zero] at qc qt
       have qcl:=HA16.c.lt
       have qtl:=HA16.t.lt
       go_wp2_with fail
       refine wp_region_ph [([0,1,2,3,4,5,6,7,8,9],10),([],11),([],12)] [13] (by kernel_rfl) (by kernel_rfl) (by intro c a w d v h; cases d <;> exact h) ?_
       simp only [wpPh,pickL,nthO]
       repeat (go_big_quiet_step (fail))
       refine wpQuiet_nil ?_
       clear y0 y1 y2 y3 hyl hTr qc qt qcl qtl
       go_wp2_with fail
       refine (c_l29Excess band percent price ck tk K kn kc _ HV.out.band0 HV.out.band1 HV.out.per0 HV.out.per1 (by omega) (by omega) (by omega) (by omega)).mono ?_
       rw [HEX.out]
       rintro e w5 ⟨rfl,hx5⟩
       go_wp2_with fail
       refine ⟨hx5,?_⟩
       repeat (go_big_quiet_step (fail))
       refine wpQuiet_nil ?_
       go_wp2_with fail
       refine (c_l01Abs ex _ (by omega) (by omega)).mono ?_
       rw [HFE.out]
       rintro e w' ⟨rfl,rfl⟩
       go_wp2_with fail
       refine ⟨Ext.refl _,?_⟩
       repeat (go_big_quiet_step (fail))
       refine wpQuiet_nil ?_
       go_wp2_with fail
       have hx05:Ext w4 w5:=(Ext.refl _).drew.trans hx5
       have hXX:=hX2.trans (HA16.ext.trans hx05)
       refine (c_l29Charge band percent price fe K kn kc ts _ (hK.ext hXX) HV.out (by omega) (by omega)).mono ?_
       rw [HCH.out]
       rintro e w6 ⟨rfl,hx6⟩
       go_wp2_with fail
       refine ⟨hx6,?_⟩
       repeat (go_big_quiet_step (fail))
       refine wpQuiet_nil ?_
       have hx06:=hx05.trans hx6
       have ho6:=ho4.ext hx06
       have hA6:=HA16.more hx06
       have hz6:rb≤w6.heap.size:=Nat.le_trans (by first | exact hrz | exact hz4) hx06.size
       clear HA16 hXX
       by_cases hch:ch=0
       ·have hcb2:(ch != 0)=false:=by rw [bne_eq_false_iff_eq]; exact hch
        have HPK:Hid (PL (k+1)=PL k++[⟨k,16,ck,0⟩]):=hide (by rw [HPS.out]; unfold postsK; rw [HZC.out,HFK.out,if_neg (show ¬ch≠0 by omega),List.append_nil]; exact (by rw [if_pos HC0.out]))
        clear hch
        go_wp2_with fail
        go_roundw
        case rel=>exact ⟨k+1,by omega,by go_num,by rw [HPK.out]; exact ho6,hA6,hz6⟩
        case measure=>simp [intOf]; omega
       ·have hcb2:(ch != 0)=true:=by rw [bne_iff_ne]; exact hch
        have HPK:Hid (PL (k+1)=PL k++[⟨k,16,ck,0⟩]++[⟨17,k,0,ch⟩]):=hide (by rw [HPS.out]; unfold postsK; rw [HZC.out,HFK.out,if_pos hch, ←List.append_assoc]; congr 1; exact (by rw [if_pos HC0.out]))
        clear hch
        go_wp2_with (at_builtin; go_must (refine wpList_append_where rfl _ _ 26 rfl rb 188 _ 4 32 Tryz.underlying26 posting_info rfl (by decide) Posting.cells post_len post_one _ (PL k++[⟨k,16,ck,0⟩]) rfl (ho6.ext (Ext.alloc _ _)) w6.heap.size 0 1 1 [⟨17,k,0,ch⟩] rfl (new_post w6 ⟨17,k,0,ch⟩ rfl) (by first | omega | (simp; omega)) (by omega) (by first | omega | (simp; omega)) ?_))
        intro v7 w7 ho7 hg7 _
        have hA7:=hA6.grown (Ext.alloc _ _) hg7 (fun j hj=>by have:=ho6.block_le hj; omega)
        have hz7:=hg7.size
        have HO7:Hid (OwnL w7 rb 188 4 Posting.cells v7 (PL (k+1))):=hide (by rw [HPK.out]; first | exact ho7 | (rw [List.append_assoc]; exact ho7))
        go_wp2_with fail
        go_roundw
        case rel=>exact ⟨k+1,by omega,by go_num,HO7.out,hA7,by simp at hz7; omega⟩
        case measure=>simp [intOf]; omega
     ·obtain rfl:k=16:=by omega
      have HPE:Hid (PL 16=postsL band percent price ts C T 16):=hide (by rw [←HPL.out])
      obtain ⟨Ap,cp,rfl,hsp⟩:=ho.sl post_len (by omega)
      have hSr:=hS2.ext hAc.ext
      have r0:=hSr.cell 0
      have r1:=hSr.cell 1
      have r2:=hSr.cell 2
      have r3:=hSr.cell 3
      have r4:=hSr.cell 4
      simp at r0 r1 r2 r3 r4
      have rf:=hSr.frozen
      have rl:=hSr.lt
      have hzz:=hAc.ext.size
      have hRF:=five_rowS (u0:= .slice As sc.length cs) (u1:= .slice Ao os.length co) (u2:= .slice Ag os.length cg) (u3:= .slice (some ⟨g1,0,none⟩) 16 16) (u4:= .slice Ap (PL 16).length cp) hSr
      have tS:=Turn.fiveS (g:=w.heap.size+2) wr (.slice As sc.length cs) (.slice Ao os.length co) (.slice Ag os.length cg) (.slice (some ⟨g1,0,none⟩) 16 16) (.slice Ap (PL 16).length cp)
      have f0:=hRF.cell 0
      have f1:=hRF.cell 1
      have f2:=hRF.cell 2
      have f3:=hRF.cell 3
      have f4:=hRF.cell 4
      simp at f0 f1 f2 f3 f4
      have HRES:Hid (RetStl (stlOf sc os g band percent price ts) w (.returned (.agg #[.slice As sc.length cs,.slice Ao os.length co,.slice Ag os.length cg,.slice (some ⟨g1,0,none⟩) 16 16,.slice Ap (PL 16).length cp])) (((((wr.setCell ⟨w.heap.size+2,0,none⟩ (.slice As sc.length cs)).setCell ⟨w.heap.size+2,1,none⟩ (.slice Ao os.length co)).setCell ⟨w.heap.size+2,2,none⟩ (.slice Ag os.length cg)).setCell ⟨w.heap.size+2,3,none⟩ (.slice (some ⟨g1,0,none⟩) 16 16)).setCell ⟨w.heap.size+2,4,none⟩ (.slice Ap (PL 16).length cp))):=hide (by
       refine ⟨_,_,_,_,_,_,_,_,_,_,_,_,_,_,_,rfl,⟨?_,?_,?_,?_,?_⟩,(hX2.trans hAc.ext).turn tS (fun b hb=>by omega),?_,?_⟩
       ·exact (hsc2.ext hAc.ext).turn tS (fun b hb hS=>by have:=HBs.out b hb; omega)
       ·exact (hso2.ext hAc.ext).turn tS (fun b hb hS=>by have:=HBo.out b hb; omega)
       ·exact (hsg.ext hAc.ext).turn tS (fun b hb hS=>by have:=HBg.out b hb; omega)
       ·have h1:=RowOf.slice hAc.c intC_len hCl.symm (by omega)
        rw [←HC.out] at h1
        exact h1.turn tS (fun b hb hS=>by have:=blk_is hb; omega)
       ·show SliceOf _ 4 Posting.cells Ap (PL 16).length cp (postsL band percent price ts (accL id os g os.length) (accL pos0 os g os.length) 16)
        rw [HC.out,HT.out, ←HPE.out]
        exact hsp.turn tS (fun b hb hS=>by have:rb≤b:=ho.block_le (own_blk hb); omega)
       ·rintro b (hb | hb | hb | hb | hb)
        ·have:=HBs.out b hb; omega
        ·have:=HBo.out b hb; omega
        ·have:=HBg.out b hb; omega
        ·have:=blk_is hb; omega
        ·have:rb≤b:=ho.block_le (own_blk hb); omega
       ·refine ⟨fun b hb=>((HFg.out b hb).turn (S:=fun _=>False) (Turn.of_ext hAc.ext) (fun e=>e)).turn tS (fun (e:b=w.heap.size+2)=>by have:=HBg.out b hb; omega),fun b hb=> ?_,fun b hb h3=> ?_,fun b hb h4=> ?_,fun b hb h4=> ?_⟩
        ·obtain rfl:=blk_is hb
         exact ⟨_,_,Row.turn hAc.c tS (fun (e:b=w.heap.size+2)=>by omega)⟩
        ·have:=blk_is h3; have:=(HFg.out b hb).lt; omega
        ·have:rb≤b:=ho.block_le (own_blk h4); have:=(HFg.out b hb).lt; omega
        ·have:=blk_is hb; have:rb≤b:=ho.block_le (own_blk h4); omega)
      clear hRF tS
      go_wp2_with fail
      refine bodyPost_ret (v:= .agg #[.slice As sc.length cs,.slice Ao os.length co,.slice Ag os.length cg,.slice (some ⟨g1,0,none⟩) 16 16,.slice Ap (PL 16).length cp]) (by simp [results,Tryz.results137,go_sem,f0,f1,f2,f3,f4]) rfl ?_
      rw [HGO.out]
      exact HRES.out
end Go.Proofs.YtfkpghdmljjegaaGreat
