/-
  The transports of an hour, of the reference, exactly.
-/
import Derived.Test.YtfkpghdmljjegaaGreatVe19
import Derived.Test.YtfkpghdmljjegaaGreatVe17
import Derived.Test.YtfkpghdmljjegaaGreatVe08
import Derived.Test.YtfkpghdmljjegaaGreatVe04
import Derived.Test.YtfkpghdmljjegaaGreatVe16
import Derived.Test.YtfkpghdmljjegaaGreatVe01
import Derived.Test.YtfkpghdmljjegaaGreatVe00
import Derived.Test.YtfkpghdmljjegaaGreatVe03
namespace Go.Proofs.YtfkpghdmljjegaaGreat
open Go.RowKit
theorem zip_step {α β γ:Type} {f:α→β→γ} {xs:List α} {ys:List β} {k:Nat} {x:α} {y:β} (hx:xs[k]? =some x) (hy:ys[k]? =some y):(List.zipWith f xs ys).take (k+1)=(List.zipWith f xs ys).take k++[f x y]:=by
 rw [List.take_add_one,List.getElem?_zipWith,hx,hy]; rfl
theorem same_grown {bs:List (Nat×Nat)} {wr W w2:World} {v:Value} (hxa:Ext wr W) (hg:W.grownBy w2 v.ownBlock) (h:∀p∈bs,p.1<wr.heap.size∧∀j,v.ownBlock=some j→p.1≠j):SameC bs wr w2:=by
 intro p hp
 obtain ⟨h1,h2⟩:=h p hp
 have h3:=hxa.size
 exact (World.cell?_of_block (w:=W) (hg.block p.1 (by omega) (fun e=>h2 p.1 e.symm rfl))).trans (hxa.cell _ _ h1)
set_option maxHeartbeats 1000000 in
theorem c_l31Transports (A:Option Addr) (n c:Nat) (xs:List Contract) (B:Option Addr) (m d:Nat) (L:List Nomination) (w:World) (hs:SliceOf w 8 Contract.cells A n c xs) (hL:SliceOf w 4 Nomination.cells B m d L) (hn:n≤100000) (hin:∀x∈L,0≤x.contract∧x.contract<n) (h:Int):
  Calls Tryz.prog 101 #[.slice A n c,.slice B m d,.int .i64 h] w (RetT (fun E=>E=trnL xs L h) w):=by
 have HLN:=hide hs.len
 go_enter Tryz.func101,Tryz.ntmps101
 go_wp2_with fail
 refine (c_l21Amounts A n c B m d L w hL hn hin h).mono ?_
 rintro e w1 ⟨v1,am,rfl,ho1,HE,hx1⟩
 have hal:am.length=n:=by rw [HE.out]; exact amtL_len _
 obtain ⟨A4,c4,rfl,hs4⟩:=ho1.sl intC_len (by omega)
 rw [hal] at hs4
 rw [hal]
 have HTL:Hid (List.zipWith trnOf xs am=trnL xs L h):=hide (by unfold trnL; rw [HE.out, ←HLN.out])
 have hs1:=hs.ext hx1
 have hO0:OwnL (w1.alloc (.cells #[] 201)) w1.heap.size 201 4 Trn.cells (.slice (some ⟨w1.heap.size,0,none⟩) 0 0) []:=own_new w1 w1.heap.size _ _ _ _ rfl (Nat.le_refl _)
 have hw1:=hx1.size
 clear ho1 hin hs hL
 go_wp2_with fail
 go_loopw [8,9] (fun v i wr=>∃(k:Nat) (T:List Trn),k≤n∧i= .int .i64 k∧T.length=k∧Hid (T=(List.zipWith trnOf xs am).take k)∧OwnL wr w1.heap.size 201 4 Trn.cells v T∧Ext w1 wr) (fun _ i _=>n-(intOf i).toNat)
 case atStart=>exact ⟨0,[],Nat.zero_le _,rfl,rfl,hide rfl,hO0,Ext.alloc _ _⟩
 case round=>
  clear hO0
  obtain ⟨k,T,hk,rfl,hTk,HT,ho,hx⟩:=hrel
  by_cases hlt:k<n
  ·obtain ⟨b,off,x,hA,hb,hxk,hc⟩:=(hs1.ext hx).get hlt
   have hc1:=hc 1 _ rfl
   have hc2:=hc 2 _ rfl
   have hc4:=hc 4 _ rfl
   clear hc
   subst hA
   obtain ⟨ba,oa,a,hB,hba,hak,hca⟩:=(hs4.ext hx).get hlt
   have hca0:=hca 0 _ rfl
   clear hca
   subst hB
   simp only [Nat.add_zero,Nat.mul_one] at hca0
   have hbw:b<w1.heap.size:=hs1.blk (b:=b) (by unfold blkOf; rw [if_neg (by omega)]; rfl)
   have hbaw:ba<w1.heap.size:=hs4.blk (b:=ba) (by unfold blkOf; rw [if_neg (by omega)]; rfl)
   have hxw:=hx.size
   have HST:Hid ((List.zipWith trnOf xs am).take (k+1)=T++[⟨x.entry,x.exit,a,x.cls⟩]):=hide (by rw [zip_step hxk hak, ←HT.out]; rfl)
   have HOB:Hid (∀j,u8.ownBlock=some j→w1.heap.size≤j):=hide (fun j hj=>ho.block_le hj)
   clear hxk hak
   go_wp2_with fail
   refine wp_region_phC [(b,off+k*8+1),(b,off+k*8+2),(ba,oa+k),(b,off+k*8+4)] [([0,1,2,3,4,5,6,7,8,9,10,11,12,13,14,15,16,17,18,19,20],21),([],22)] [23] (by kernel_rfl) (by kernel_rfl) (by intro c a w d v h; cases d <;> exact h) ?_
   simp only [wpPhC,pickL,nthO]
   repeat (go_big_quiet_step (fail))
   refine wpQuiet_nil ?_
   go_wp2_with fail
   obtain ⟨W,HW⟩:∃W,Hid ((wr.alloc (.cells #[.int .i64 x.entry,.int .i64 x.exit,.int .i64 a,.int .i64 x.cls] 201)).drew=W):=⟨_,hide rfl⟩
   rw [HW.out]
   have hxa:Ext wr W:=by rw [←HW.out]; exact ((Ext.refl wr).and_alloc _).drew
   have hxz:=hxa.size
   have hWn:SliceOf W 4 Trn.cells (some ⟨wr.heap.size,0,none⟩) 1 1 [⟨x.entry,x.exit,a,x.cls⟩]:=by rw [←HW.out]; exact (new_trn wr ⟨x.entry,x.exit,a,x.cls⟩ rfl).ext (Ext.refl _).drew
   refine ⟨SameC.of_ext hxa (by simp; omega),wpQuiet_nil ?_⟩
   go_wp2_with (at_builtin; go_must (refine wpList_append_where rfl _ _ 118 rfl w1.heap.size 201 _ 4 32 Tryz.underlying118 trn_info rfl (by decide) Trn.cells trn_len trn_one _ T rfl (ho.ext hxa) wr.heap.size 0 1 1 [⟨x.entry,x.exit,a,x.cls⟩] rfl hWn (by omega) (by omega) (by omega) ?_))
   intro v2 w2 ho2 hg2 _
   have hx2:=(hx.trans hxa).grown hg2 (fun k hk=>ho.block_le hk)
   have hsm:=same_grown (bs:=[(b,off+k*8+1),(b,off+k*8+2),(ba,oa+k),(b,off+k*8+4)]) hxa hg2 (by
    intro p hp
    simp only [List.mem_cons,List.not_mem_nil,or_false] at hp
    rcases hp with rfl | rfl | rfl | rfl <;> exact ⟨by show _<_; omega,fun j hj=>by have:=HOB.out j hj; show _≠j; omega⟩)
   rw [←HST.out] at ho2
   clear ho hg2 hxa hc1 hc2 hc4 hca0
   go_wp2_with fail
   refine ⟨hsm,?_⟩
   repeat (go_big_quiet_step (fail))
   refine wpQuiet_nil ?_
   go_wp2_with fail
   go_roundw
   case rel=>exact ⟨k+1,_,by omega,by go_num,by rw [HST.out]; simp; omega,hide rfl,ho2,hx2⟩
   case measure=>simp [intOf]; omega
  ·go_wp2_with fail
   go_ret
   refine ⟨_,T,rfl,ho.lowG (by omega),hide ?_,hx1.trans hx⟩
   rw [HT.out,List.take_of_length_le (by rw [List.length_zipWith, ←HLN.out,hal]; omega)]
   exact HTL.out
end Go.Proofs.YtfkpghdmljjegaaGreat
namespace Go.Proofs.YtfkpghdmljjegaaGreat
open Go.RowKit
def ordC2 (c:Contract) (a:Int):List Order:=[⟨c.shipper,c.entry,a,c.cls⟩,⟨c.shipper,c.exit,-a,c.cls⟩]
def ordL (xs:List Contract) (am:List Int):List Order:=(List.zipWith ordC2 xs am).flatten
theorem ordL_step {xs:List Contract} {am:List Int} {k:Nat} {x:Contract} {a:Int} (hx:xs[k]? =some x) (ha:am[k]? =some a):ordL (xs.take (k+1)) (am.take (k+1))=ordL (xs.take k) (am.take k)++ordC2 x a:=by
 obtain ⟨h1,_⟩:=List.getElem?_eq_some_iff.1 hx
 obtain ⟨h2,_⟩:=List.getElem?_eq_some_iff.1 ha
 unfold ordL
 rw [List.take_add_one,hx,List.take_add_one,ha,Option.toList_some,Option.toList_some,List.zipWith_append (by rw [List.length_take,List.length_take]; omega),List.flatten_append]
 simp
theorem ordL_len (xs:List Contract) (am:List Int) (h:am.length=xs.length):(ordL xs am).length=2*xs.length:=by
 unfold ordL
 induction xs generalizing am with
 | nil=>cases am <;> simp
 | cons x xs ih=>
  cases am with
  | nil=>simp at h
  | cons a am=>
   have:=ih am (by simpa using h)
   rw [List.zipWith_cons_cons,List.flatten_cons,List.length_append,this]
   simp [ordC2]; omega
def RetO (Q:List Order→Prop) (w:World) (e:Ending) (w':World):Prop:=
 ∃v E,e= .returned v∧OwnL w' w.heap.size 199 4 Order.cells v E∧Hid (Q E)∧Ext w w'
theorem new_ord (W:World) (x:Order) {g:Nat} (hg:g=W.heap.size):SliceOf (W.alloc (.cells #[.int .i64 x.shipper,.int .i64 x.node,.int .i64 x.amount,.int .i64 x.cls] 199)) 4 Order.cells (some ⟨g,0,none⟩) 1 1 [x]:=by
 subst hg; exact new_one order_len W 199 x
theorem ord_bd {a:Int} (h:0≤a∧a≤30000):IntKind.i64.wrap (-a)= -a:=IntWalk.i64_in _ (by omega)
set_option maxHeartbeats 2000000 in
theorem c_l22Orders (A:Option Addr) (n c:Nat) (xs:List Contract) (B:Option Addr) (d:Nat) (am:List Int) (w:World) (hs:SliceOf w 8 Contract.cells A n c xs) (hsa:SliceOf w 1 intC B n d am) (hn:n≤100000) (hb:∀z∈am,0≤z∧z≤30000):
  Calls Tryz.prog 194 #[.slice A n c,.slice B n d] w (RetO (fun E=>E=ordL xs am) w):=by
 have HB:=hide hb
 have HLX:=hide hs.len
 have HLA:=hide hsa.len
 clear hb
 have hO0:OwnL (w.alloc (.cells #[] 199)) w.heap.size 199 4 Order.cells (.slice (some ⟨w.heap.size,0,none⟩) 0 0) []:=own_new w w.heap.size _ _ _ _ rfl (Nat.le_refl _)
 go_enter Tryz.func194,Tryz.ntmps194
 go_wp2_with fail
 go_loopw [5,6] (fun v i wr=>∃(k:Nat) (T:List Order),k≤n∧i= .int .i64 k∧T.length=2*k∧Hid (T=ordL (xs.take k) (am.take k))∧OwnL wr w.heap.size 199 4 Order.cells v T∧Ext w wr) (fun _ i _=>n-(intOf i).toNat)
 case atStart=>exact ⟨0,[],Nat.zero_le _,rfl,rfl,hide (by simp [ordL]),hO0,Ext.alloc _ _⟩
 case round=>
  clear hO0
  obtain ⟨k,T,hk,rfl,hTk,HT,ho,hx⟩:=hrel
  by_cases hlt:k<n
  ·obtain ⟨b,off,x,hA,hb,hxk,hc⟩:=(hs.ext hx).get hlt
   have hc0:=hc 0 _ rfl
   have hc1:=hc 1 _ rfl
   have hc2:=hc 2 _ rfl
   have hc3:=hc 3 _ rfl
   have hc4:=hc 4 _ rfl
   have hc5:=hc 5 _ rfl
   have hc6:=hc 6 _ rfl
   have hc7:=hc 7 _ rfl
   clear hc
   subst hA
   obtain ⟨ba,oa,a,hB,hba,hak,hca⟩:=(hsa.ext hx).get hlt
   have hca0:=hca 0 _ rfl
   clear hca
   subst hB
   simp only [Nat.add_zero,Nat.mul_one] at hca0 hc0
   have hbaw:ba<w.heap.size:=hsa.blk (b:=ba) (by unfold blkOf; rw [if_neg (by omega)]; rfl)
   have hxw:=hx.size
   have e1:=ord_bd (HB.out a (List.mem_of_getElem? hak))
   have HST:Hid (ordL (xs.take (k+1)) (am.take (k+1))=T++[⟨x.shipper,x.entry,a,x.cls⟩,⟨x.shipper,x.exit,-a,x.cls⟩]):=hide (by rw [ordL_step hxk hak, ←HT.out]; rfl)
   have HOB:Hid (∀j,u5.ownBlock=some j→w.heap.size≤j∧j<wr.heap.size):=hide (fun j hj=>⟨ho.block_le hj,(ho.ltG hj).2⟩)
   clear hxk hak
   go_wp2_with fail
   have hbx:=Row.new wr 153 x.cells
   have hx1:Ext wr (wr.alloc (.cells x.cells.toArray 153)):=Ext.alloc _ _
   rw [show (Obj.cells #[.int .i64 x.shipper,.int .i64 x.entry,.int .i64 x.exit,.int .i64 x.amount,.int .i64 x.cls,.int .i64 x.start,.int .i64 x.stop,.int .i64 x.price] 153)= .cells x.cells.toArray 153 from rfl]
   obtain ⟨g,hg⟩:∃g,wr.heap.size=g:=⟨_,rfl⟩
   generalize (wr.alloc (.cells x.cells.toArray 153))=W1 at *
   have hca1:=(hx1.cell _ _ hba).trans hca0
   have q0:=hbx.cell 0
   have q1:=hbx.cell 1
   have q2:=hbx.cell 2
   have q4:=hbx.cell 4
   simp [Contract.cells] at q0 q1 q2 q4
   have hbl:=hbx.lt
   have ho1:=ho.ext hx1
   have hX1:=hx.trans hx1
   rw [hg] at hbl q0 q1 q2 q4 HOB ⊢
   clear hx ho hca0 hba hx1 hb hc0 hc1 hc2 hc3 hc4 hc5 hc6 hc7 hbx
   refine wp_region_phC [(g,0),(g,1),(ba,oa+k),(g,4)] [([0,1,2,3,4,5,6,7,8,9,10,11],12),([],13)] [14] (by kernel_rfl) (by kernel_rfl) (by intro c a w d v h; cases d <;> exact h) ?_
   simp only [wpPhC,pickL,nthO]
   repeat (go_big_quiet_step (fail))
   refine wpQuiet_nil ?_
   go_wp2_with fail
   obtain ⟨W,HW⟩:∃W,Hid ((W1.alloc (.cells #[.int .i64 x.shipper,.int .i64 x.entry,.int .i64 a,.int .i64 x.cls] 199)).drew=W):=⟨_,hide rfl⟩
   rw [HW.out]
   have hxa:Ext W1 W:=by rw [←HW.out]; exact ((Ext.refl W1).and_alloc _).drew
   have hxz:=hxa.size
   have hxz1:=hX1.size
   have hWn:SliceOf W 4 Order.cells (some ⟨W1.heap.size,0,none⟩) 1 1 [⟨x.shipper,x.entry,a,x.cls⟩]:=by rw [←HW.out]; exact (new_ord W1 ⟨x.shipper,x.entry,a,x.cls⟩ rfl).ext (Ext.refl _).drew
   refine ⟨SameC.of_ext hxa (by simp; omega),wpQuiet_nil ?_⟩
   go_wp2_with (at_builtin; go_must (refine wpList_append_where rfl _ _ 25 rfl w.heap.size 199 _ 4 32 Tryz.underlying25 order_info rfl (by decide) Order.cells order_len order_one _ T rfl (ho1.ext hxa) W1.heap.size 0 1 1 [⟨x.shipper,x.entry,a,x.cls⟩] rfl hWn (by omega) (by omega) (by omega) ?_))
   intro v2 w2 ho2 hg2 hb2
   have hx2:=(hX1.trans hxa).grown hg2 (fun k hk=>ho1.block_le hk)
   have hsm:=same_grown (bs:=[(g,0),(g,1),(ba,oa+k),(g,4)]) hxa hg2 (by
    intro p hp
    simp only [List.mem_cons,List.not_mem_nil,or_false] at hp
    rcases hp with rfl | rfl | rfl | rfl <;> exact ⟨by show _<_; omega,fun j hj=>by have:=HOB.out j hj; show _≠j; omega⟩)
   have hsm2:=same_grown (bs:=[(g,0),(g,2),(ba,oa+k),(g,4)]) hxa hg2 (by
    intro p hp
    simp only [List.mem_cons,List.not_mem_nil,or_false] at hp
    rcases hp with rfl | rfl | rfl | rfl <;> exact ⟨by show _<_; omega,fun j hj=>by have:=HOB.out j hj; show _≠j; omega⟩)
   have t0:=(hsm2 (g,0) (by simp)).trans q0
   have t2:=(hsm2 (g,2) (by simp)).trans q2
   have t4:=(hsm2 (g,4) (by simp)).trans q4
   have ta:=(hsm2 (ba,oa+k) (by simp)).trans hca1
   simp only at t0 t2 t4 ta
   have HOB2:Hid (∀j,v2.ownBlock=some j→w.heap.size≤j∧j≠g):=hide (fun j hj=>⟨ho2.block_le hj,by
    rcases hb2 j hj with h | h
    ·have:=HOB.out j h; omega
    ·omega⟩)
   have hz2:W.heap.size≤w2.heap.size:=hg2.size
   clear ho1 hg2 hxa q0 q1 q2 q4 hca1 hsm2 hb2
   go_wp2_with fail
   refine ⟨hsm,?_⟩
   repeat (go_big_quiet_step (fail))
   refine wpQuiet_nil ?_
   go_wp2_with fail
   refine wp_region_phC [(g,0),(g,2),(ba,oa+k),(g,4)] [([0,1,2,3,4,5,6,7,8,9,10,11,12],13),([],14)] [15] (by kernel_rfl) (by kernel_rfl) (by intro c a w d v h; cases d <;> exact h) ?_
   simp only [wpPhC,pickL,nthO]
   repeat (go_big_quiet_step (fail))
   refine wpQuiet_nil ?_
   go_wp2_with fail
   obtain ⟨W',HW'⟩:∃W',Hid ((w2.alloc (.cells #[.int .i64 x.shipper,.int .i64 x.exit,.int .i64 (-a),.int .i64 x.cls] 199)).drew=W'):=⟨_,hide rfl⟩
   rw [HW'.out]
   have hxa':Ext w2 W':=by rw [←HW'.out]; exact ((Ext.refl w2).and_alloc _).drew
   have hxz':=hxa'.size
   have hWn':SliceOf W' 4 Order.cells (some ⟨w2.heap.size,0,none⟩) 1 1 [⟨x.shipper,x.exit,-a,x.cls⟩]:=by rw [←HW'.out]; exact (new_ord w2 ⟨x.shipper,x.exit,-a,x.cls⟩ rfl).ext (Ext.refl _).drew
   refine ⟨SameC.of_ext hxa' (by simp; omega),wpQuiet_nil ?_⟩
   go_wp2_with (at_builtin; go_must (refine wpList_append_where rfl _ _ 25 rfl w.heap.size 199 _ 4 32 Tryz.underlying25 order_info rfl (by decide) Order.cells order_len order_one v2 (T++[⟨x.shipper,x.entry,a,x.cls⟩]) rfl (ho2.ext hxa') w2.heap.size 0 1 1 [⟨x.shipper,x.exit,-a,x.cls⟩] rfl hWn' (by simp; omega) (by omega) (by omega) ?_))
   intro v3 w3 ho3 hg3 _
   have hx3:=(hx2.trans hxa').grown hg3 (fun k hk=>(HOB2.out k hk).1)
   have hsm3:=same_grown (bs:=[(g,0),(g,2),(ba,oa+k),(g,4)]) hxa' hg3 (by
    intro p hp
    simp only [List.mem_cons,List.not_mem_nil,or_false] at hp
    rcases hp with rfl | rfl | rfl | rfl <;> exact ⟨by show _<_; omega,fun j hj=>by have:=HOB2.out j hj; show _≠j; omega⟩)
   rw [←HST.out] at ho3
   clear ho2 hg3 hxa' t0 t2 t4 ta
   go_wp2_with fail
   refine ⟨hsm3,?_⟩
   repeat (go_big_quiet_step (fail))
   refine wpQuiet_nil ?_
   go_wp2_with fail
   go_roundw
   case rel=>exact ⟨k+1,_,by omega,by go_num,by rw [HST.out]; simp; omega,hide rfl,ho3,hx3⟩
   case measure=>simp [intOf]; omega
  ·go_wp2_with fail
   go_ret
   refine ⟨_,T,rfl,ho,hide ?_,hx⟩
   rw [HT.out,List.take_of_length_le (by rw [←HLX.out]; omega),List.take_of_length_le (by rw [←HLA.out]; omega)]
end Go.Proofs.YtfkpghdmljjegaaGreat
namespace Go.Proofs.YtfkpghdmljjegaaGreat
open Go.RowKit
structure HrAt (A1 A2:Option Addr) (n1 c1 n2 c2:Nat) (ns:List Node) (ps:List Pipe) (A3:Option Addr) (n3 c3:Nat) (xs:List Contract) (A4:Option Addr) (n4 c4:Nat) (L:List Nomination) (w:World):Prop where
 s1:SliceOf w 3 Node.cells A1 n1 c1 ns
 s2:SliceOf w 5 Pipe.cells A2 n2 c2 ps
 s3:SliceOf w 8 Contract.cells A3 n3 c3 xs
 s4:SliceOf w 4 Nomination.cells A4 n4 c4 L
 nm:∀x∈ns,x.name.size≤1048576
 b1:ns.length≤7
 b2:ps.length≤30
 b3:xs.length≤40
 b4:L.length≤210
end Go.Proofs.YtfkpghdmljjegaaGreat
namespace Go.Proofs.YtfkpghdmljjegaaGreat
open Go.RowKit
theorem SrcAt.ext {w w':World} {a n c:Nat} {A:Option Addr} (h:SrcAt w a A n c) (hx:Ext w w'):SrcAt w' a A n c:=
 let ⟨p,s,hr,r⟩:=h; ⟨p,s,hr.ext hx,r⟩
theorem SrcAt.only {w w':World} {a g n c:Nat} {A:Option Addr} (h:SrcAt w a A n c) (hx:Only g w w') (hne:a≠g):SrcAt w' a A n c:=
 let ⟨p,s,hr,r⟩:=h; ⟨p,s,hr.only hx hne,r⟩
theorem SrcAt.lt {w:World} {a n c:Nat} {A:Option Addr} (h:SrcAt w a A n c):a<w.heap.size:=let ⟨_,_,hr,_⟩:=h; hr.lt
end Go.Proofs.YtfkpghdmljjegaaGreat
namespace Go.Proofs.YtfkpghdmljjegaaGreat
open Go.RowKit
def tolF (band percent thr:Int):Int:=max band (thr*percent/100)
theorem mul_bd {a b:Int} (x y:Int) (ha:0≤a) (ha':a≤x) (hb:0≤b) (hb':b≤y):0≤a*b∧a*b≤x*y:=
 ⟨Int.mul_nonneg ha hb,Int.mul_le_mul ha' hb' hb (by omega)⟩
theorem tolF_bd {band percent thr:Int} (h1:0≤band) (h1':band≤1000000000) (h2:0≤percent) (h2':percent≤100) (h3:0≤thr) (h3':thr≤1000000000):0≤tolF band percent thr∧tolF band percent thr≤1000000000:=by
 have:=mul_bd 1000000000 100 h3 h3' h2 h2'
 unfold tolF; omega
theorem c_toleranceFor (band percent price thr:Int) (A:Option Addr) (n c:Nat) (w:World) (h2:0≤percent) (h2':percent≤100) (h3:0≤thr) (h3':thr≤1000000000):
  Calls Tryz.prog 254 #[.agg #[.int .i64 band,.int .i64 percent,.int .i64 price,.slice A n c],.int .i64 thr] w (Ret (.int .i64 (tolF band percent thr)) w):=by
 obtain ⟨hm,hm'⟩:=mul_bd 1000000000 100 h3 h3' h2 h2'
 go_enter Tryz.func254,Tryz.ntmps254
 go_wp2
 all_goals
  go_ret
  refine Ret.int ?_ (Ext.alloc _ _)
  unfold tolF; omega
theorem c_l29Tolerance (band percent price thr:Int) (A:Option Addr) (n c:Nat) (w:World) (h2:0≤percent) (h2':percent≤100) (h3:0≤thr) (h3':thr≤1000000000):
  Calls Tryz.prog 258 #[.agg #[.int .i64 band,.int .i64 percent,.int .i64 price,.slice A n c],.int .i64 thr] w (Ret (.int .i64 (tolF band percent thr)) w):=by
 obtain ⟨hm,hm'⟩:=mul_bd 1000000000 100 h3 h3' h2 h2'
 go_enter Tryz.func258,Tryz.ntmps258
 go_wp2
 all_goals
  go_ret
  refine Ret.int ?_ (Ext.alloc _ _)
  unfold tolF; omega
def excF (band percent bal thr:Int):Int:=
 if tolF band percent thr<bal then bal-tolF band percent thr else if bal < -tolF band percent thr then bal+tolF band percent thr else 0
theorem c_excessOf (band percent price bal thr:Int) (A:Option Addr) (n c:Nat) (w:World) (h1:0≤band) (h1':band≤1000000000) (h2:0≤percent) (h2':percent≤100) (h3:0≤thr) (h3':thr≤1000000000)
  (h4: -2000000000≤bal) (h4':bal≤2000000000):
  Calls Tryz.prog 201 #[.agg #[.int .i64 band,.int .i64 percent,.int .i64 price,.slice A n c],.int .i64 bal,.int .i64 thr] w (Ret (.int .i64 (excF band percent bal thr)) w):=by
 have ht:=tolF_bd h1 h1' h2 h2' h3 h3'
 have HE:=hide (show excF band percent bal thr=if tolF band percent thr<bal then bal-tolF band percent thr else if bal < -tolF band percent thr then bal+tolF band percent thr else 0 from rfl)
 generalize excF band percent bal thr=R at HE ⊢
 go_enter Tryz.func201,Tryz.ntmps201
 go_wp2_with fail
 refine (c_toleranceFor _ _ _ _ _ _ _ _ h2 h2' h3 h3').mono ?_
 generalize tolF band percent thr=T at ht HE ⊢
 obtain ⟨ht0,ht1⟩:=ht
 rintro e w1 ⟨rfl,hx⟩
 go_wp2
 all_goals
  go_ret
  refine Ret.int ?_ hx.box
  rw [HE.out]
  (repeat' split) <;> omega
theorem excF_spec {band percent bal thr:Int} (h:0≤tolF band percent thr):
  excF band percent bal thr=if bal<0 then -(max 0 (absI bal-tolF band percent thr)) else max 0 (absI bal-tolF band percent thr):=by
 unfold excF absI; (repeat' split) <;> omega
set_option maxHeartbeats 400000 in
theorem c_l29Excess (band percent price bal thr:Int) (A:Option Addr) (n c:Nat) (w:World) (h1:0≤band) (h1':band≤1000000000) (h2:0≤percent) (h2':percent≤100) (h3:0≤thr) (h3':thr≤1000000000)
  (h4: -2000000000≤bal) (h4':bal≤2000000000):
  Calls Tryz.prog 210 #[.agg #[.int .i64 band,.int .i64 percent,.int .i64 price,.slice A n c],.int .i64 bal,.int .i64 thr] w (Ret (.int .i64 (excF band percent bal thr)) w):=by
 have ht:=tolF_bd h1 h1' h2 h2' h3 h3'
 have ha:=absI_le (n:=bal) (m:=2000000000) h4 h4'
 have HE:=hide (excF_spec (bal:=bal) ht.1)
 generalize excF band percent bal thr=R at HE ⊢
 go_enter Tryz.func210,Tryz.ntmps210
 go_wp2_with fail
 refine wp_region_later (by kernel_rfl) (by kernel_rfl) ?_
 have e1:IntKind.i64.wrap (absI bal-tolF band percent thr)=absI bal-tolF band percent thr:=IntWalk.i64_in _ (by omega)
 repeat (go_big_quiet_step ((first | (go_at_call 209; exact quiet_later_same (c_l01Abs _ _ (by omega) (by omega))) | (go_at_call 258; exact quiet_later (c_l29Tolerance _ _ _ _ _ _ _ _ h2 h2' h3 h3')))))
 refine wpQuiet_nil ?_
 intro w1 hx
 go_wp2
 all_goals
  go_ret
  refine Ret.int ?_ hx.box
  rw [HE.out]
  (repeat' split) <;> omega
end Go.Proofs.YtfkpghdmljjegaaGreat
namespace Go.Proofs.YtfkpghdmljjegaaGreat
open Go.RowKit
structure Tier where
 upto:Int
 factor:Int
def Tier.cells (t:Tier):List Value:=[.int .i64 t.upto,.int .i64 t.factor]
def stepOk:Option Tier→Tier→Bool
 | none,_=>true
 | some y,x=>decide (y.upto<x.upto)&&decide (y.factor≤x.factor)
def tierOk (ts:List Tier) (i:Nat):Bool:=
 match ts[i]? with
 | none=>true
 | some x=>inB x.upto 1 1000000000&&inB x.factor 0 1000&&(match i with | 0=>true | j+1=>stepOk ts[j]? x)
def isTermsB (band percent price:Int) (ts:List Tier):Bool:=
 inB band 0 1000000000&&inB percent 0 100&&inB price 0 1000000&&inB ts.length 1 6&&(List.range ts.length).all (tierOk ts)
theorem tierOk_zero {ts:List Tier} {k:Nat} {x:Tier} (hk:¬0<k) (h:ts[k]? =some x):tierOk ts k=(inB x.upto 1 1000000000&&inB x.factor 0 1000):=by
 obtain rfl:k=0:=by omega
 simp [tierOk,h]
theorem tierOk_pos {ts:List Tier} {k:Nat} {x y:Tier} (hk:0<k) (h:ts[k]? =some x) (h':ts[k-1]? =some y):
  tierOk ts k=(inB x.upto 1 1000000000&&inB x.factor 0 1000&&(decide (y.upto<x.upto)&&decide (y.factor≤x.factor))):=by
 obtain ⟨m,rfl⟩:∃m,k=m+1:=⟨k-1,by omega⟩
 simp at h'
 simp [tierOk,h,h',stepOk]
theorem tier_ways {ts:List Tier} {k n:Nat} {x y:Tier} (hlt:k<n) (HT:tierOk ts k=(inB x.upto 1 1000000000&&inB x.factor 0 1000&&(decide (y.upto<x.upto)&&decide (y.factor≤x.factor)))):
  (inB x.upto 1 1000000000=true∧inB x.factor 0 1000=true∧decide (x.upto≤y.upto)=false∧decide (x.factor<y.factor)=false∧Hid (tierOk ts k=true))∨
  (inB x.upto 1 1000000000=false∧Hid ((List.range n).all (tierOk ts)=false))∨
  (inB x.upto 1 1000000000=true∧inB x.factor 0 1000=false∧Hid ((List.range n).all (tierOk ts)=false))∨
  (inB x.upto 1 1000000000=true∧inB x.factor 0 1000=true∧decide (x.upto≤y.upto)=true∧Hid ((List.range n).all (tierOk ts)=false))∨
  (inB x.upto 1 1000000000=true∧inB x.factor 0 1000=true∧decide (x.upto≤y.upto)=false∧decide (x.factor<y.factor)=true∧Hid ((List.range n).all (tierOk ts)=false)):=by
 have e1:decide (y.upto<x.upto)= !decide (x.upto≤y.upto):=by rw [Bool.eq_iff_iff]; simp
 have e2:decide (y.factor≤x.factor)= !decide (x.factor<y.factor):=by rw [Bool.eq_iff_iff]; simp
 rw [e1,e2] at HT
 have hf:tierOk ts k=false→Hid ((List.range n).all (tierOk ts)=false):=fun h=>hide (all_range_false hlt h)
 revert HT hf
 cases inB x.upto 1 1000000000 <;> cases inB x.factor 0 1000 <;> cases decide (x.upto≤y.upto) <;> cases decide (x.factor<y.factor) <;> simp <;> intro h <;> simp [h,Hid]
theorem tier_ways0 {ts:List Tier} {k n:Nat} {x:Tier} (hlt:k<n) (HT:tierOk ts k=(inB x.upto 1 1000000000&&inB x.factor 0 1000)):
  (inB x.upto 1 1000000000=true∧inB x.factor 0 1000=true∧Hid (tierOk ts k=true))∨
  (inB x.upto 1 1000000000=false∧Hid ((List.range n).all (tierOk ts)=false))∨
  (inB x.upto 1 1000000000=true∧inB x.factor 0 1000=false∧Hid ((List.range n).all (tierOk ts)=false)):=by
 have hf:tierOk ts k=false→Hid ((List.range n).all (tierOk ts)=false):=fun h=>hide (all_range_false hlt h)
 revert HT hf
 cases inB x.upto 1 1000000000 <;> cases inB x.factor 0 1000 <;> simp <;> intro h <;> simp [h,Hid]
set_option maxHeartbeats 2000000 in
theorem c_isTerms (band percent price:Int) (A:Option Addr) (n c:Nat) (ts:List Tier) (w:World) (hs:SliceOf w 2 Tier.cells A n c ts):
  Calls Tryz.prog 127 #[.agg #[.int .i64 band,.int .i64 percent,.int .i64 price,.slice A n c]] w (Ret (.bool (isTermsB band percent price ts)) w):=by
 have HF:=hide (show isTermsB band percent price ts=(inB band 0 1000000000&&inB percent 0 100&&inB price 0 1000000&&inB n 1 6&&(List.range n).all (tierOk ts)) by rw [isTermsB,hs.1])
 generalize isTermsB band percent price ts=R at HF ⊢
 by_cases hg:inB band 0 1000000000=true∧inB percent 0 100=true∧inB price 0 1000000=true∧inB n 1 6=true
 ·obtain ⟨h1,h2,h3,h4⟩:=hg
  have hn:n≤6:=by simp [inB] at h4; omega
  have HR:=hide (show R=(List.range n).all (tierOk ts) by rw [HF.out]; simp [h1,h2,h3,h4])
  clear HF
  go_enter Tryz.func127,Tryz.ntmps127
  go_wp2_with (go_at_call 164; refine (c_within _ _ _ _).mono ?_; rintro e w' ⟨rfl,rfl⟩)
  go_loopw [2,31] (fun r i wr=>∃k:Nat,k≤n∧r= .bool false∧i= .int .i64 k∧Hid (∀j,j<k→tierOk ts j=true)∧Ext (w.alloc (.cells #[.int .i64 band,.int .i64 percent,.int .i64 price,.slice A n c] 73)) wr) (fun _ i _=>n-(intOf i).toNat)
  case atStart=>exact ⟨0,Nat.zero_le _,rfl,rfl,hide (fun j hj=>absurd hj (by omega)),Ext.refl _⟩
  case round=>
   obtain ⟨k,hk,rfl,rfl,HK,hx⟩:=hrel
   have hxs:=hx.size
   have hz:w.heap.size<wr.heap.size:=by simp at hxs; omega
   clear hxs
   have hbx3:wr.cell? ⟨w.heap.size,3,none⟩=some (.slice A n c):=by rw [hx.cell _ _ (by simp)]; simp
   have hx0:Ext w wr:=hx.box
   by_cases hlt:k<n
   ·have hs':=hs.ext hx0
    obtain ⟨b,off,x,rfl,hb,hxk,hc⟩:=hs'.get hlt
    have hc0:=hc 0 _ rfl
    have hc1:=hc 1 _ rfl
    clear hc
    simp only [Nat.add_zero] at hc0
    by_cases h0:0<k
    ·obtain ⟨y,hyk,hc⟩:=hs'.at_ (k:=k-1) (by omega)
     have hd0:=hc 0 _ rfl
     have hd1:=hc 1 _ rfl
     clear hc
     simp only [Nat.add_zero] at hd0
     have ways:=tier_ways hlt (tierOk_pos h0 hxk hyk)
     clear hxk hyk
     have e1:IntKind.i64.wrap (↑k-1)=(↑k-1):=IntWalk.i64_in _ (by omega)
     have e2:(0:Int)≤ ↑k-1:=by omega
     have e3:((k:Int)-1).toNat=k-1:=by omega
     rcases ways with ⟨g1,g2,g3,g4,HT⟩ | ⟨g1,HT⟩ | ⟨g1,g2,HT⟩ | ⟨g1,g2,g3,HT⟩ | ⟨g1,g2,g3,g4,HT⟩
     ·go_wp2_with (go_at_call 164; refine (c_within _ _ _ _).mono ?_; rintro e w' ⟨rfl,rfl⟩)
      go_quiet ((go_at_call 164; exact quiet_left (c_within _ _ _ _)))
      go_wp2
      go_roundw
      case rel=>exact ⟨k+1,by omega,rfl,by go_num,hide (all_upto HK.out HT.out),(hx.and_alloc _).drewN _⟩
      case measure=>simp [intOf]; omega
     all_goals
      go_wp2_with (go_at_call 164; refine (c_within _ _ _ _).mono ?_; rintro e w' ⟨rfl,rfl⟩)
      go_quiet ((go_at_call 164; exact quiet_left (c_within _ _ _ _)))
      go_wp2
      go_ret
      exact Ret.bool (HR.out.trans HT.out) ((hx0.and_alloc _).drewN _)
    ·have ways:=tier_ways0 hlt (tierOk_zero h0 hxk)
     clear hxk
     have h0':decide (0<k)=false:=by simpa using h0
     rcases ways with ⟨g1,g2,HT⟩ | ⟨g1,HT⟩ | ⟨g1,g2,HT⟩
     ·go_wp2_with (go_at_call 164; refine (c_within _ _ _ _).mono ?_; rintro e w' ⟨rfl,rfl⟩)
      go_quiet ((go_at_call 164; exact quiet_left (c_within _ _ _ _)))
      go_wp2
      go_roundw
      case rel=>exact ⟨k+1,by omega,rfl,by go_num,hide (all_upto HK.out HT.out),(hx.and_alloc _).drewN _⟩
      case measure=>simp [intOf]; omega
     all_goals
      go_wp2_with (go_at_call 164; refine (c_within _ _ _ _).mono ?_; rintro e w' ⟨rfl,rfl⟩)
      go_quiet ((go_at_call 164; exact quiet_left (c_within _ _ _ _)))
      go_wp2
      go_ret
      exact Ret.bool (HR.out.trans HT.out) ((hx0.and_alloc _).drewN _)
   ·go_wp2
    go_ret
    exact Ret.bool (HR.out.trans (all_range_true (fun j hj=>HK.out j (by omega)))) hx0
 ·have hw:inB band 0 1000000000=false∨(inB band 0 1000000000=true∧inB percent 0 100=false)∨(inB band 0 1000000000=true∧inB percent 0 100=true∧inB price 0 1000000=false)∨(inB band 0 1000000000=true∧inB percent 0 100=true∧inB price 0 1000000=true∧inB n 1 6=false):=by
   revert hg; cases inB band 0 1000000000 <;> cases inB percent 0 100 <;> cases inB price 0 1000000 <;> cases inB n 1 6 <;> simp
  have HR:=hide (show R=false by rw [HF.out]; rcases hw with h | h | h | h <;> simp [h])
  clear HF hg
  rcases hw with g1 | ⟨g1,g2⟩ | ⟨g1,g2,g3⟩ | ⟨g1,g2,g3,g4⟩
  all_goals
   go_enter Tryz.func127,Tryz.ntmps127
   go_wp2_with (go_at_call 164; refine (c_within _ _ _ _).mono ?_; rintro e w' ⟨rfl,rfl⟩)
   go_ret
   exact Ret.bool HR.out (Ext.alloc _ _)
end Go.Proofs.YtfkpghdmljjegaaGreat
namespace Go.Proofs.YtfkpghdmljjegaaGreat
open Go.RowKit
theorem tier_len (t:Tier):t.cells.length=2:=rfl
theorem tier_info:(Tryz.prog.info? 70).map (fun i=>(i.zero,i.size,i.bytes))=some (some (.agg #[.int .i64 0,.int .i64 0]),2,16):=by kernel_rfl
end Go.Proofs.YtfkpghdmljjegaaGreat
