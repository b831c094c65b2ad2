/-
  What is settled in an hour, of the program: its code, its amounts and its transports; exactly.
-/
import Derived.Test.YtfkpghdmljjegaaGreatVd35
import Derived.Test.YtfkpghdmljjegaaGreatVd07
import Derived.Test.YtfkpghdmljjegaaGreatVd32
import Derived.Test.YtfkpghdmljjegaaGreatVd41
namespace Go.Proofs.YtfkpghdmljjegaaGreat
open Go.RowKit
theorem c_isHour (h:Int) (w:World):Calls Tryz.prog 188 #[.int .i64 h] w fun e w'=>e= .returned (.bool (inB h 0 47))∧w=w':=by
 go_enter Tryz.func188,Tryz.ntmps188
 go_wp2_with (go_at_call 164; refine (c_within _ _ _ _).mono ?_; rintro e w' ⟨rfl,rfl⟩)
 go_ret
 exact ⟨rfl,rfl⟩
def setV (n1:Int) (xs:List Contract) (rd:Bool) (L:List Nomination) (h:Int):Int:=
 if bookB n1 xs=false then 3 else if rd=false then 3 else if nomsB xs L=false then 5 else if inB h 0 47=false then 2 else if 20<xs.length then 7 else 0
theorem setV_C {n1:Int} {ns:List Node} {ps:List Pipe} {xs:List Contract} {L:List Nomination} {h:Int} (hn:netB ns ps=true):setV n1 xs true L h=setC n1 ns ps xs L h:=by
 unfold setV setC nomC bookC
 rw [hn]
 cases bookB n1 xs <;> cases nomsB xs L <;> simp
def rdB (n1:Int) (rs:List RS):Bool:=rs.all (fun q=>readsB n1 q.xs)
set_option maxHeartbeats 2000000 in
theorem c_checkSettle (A1 A2:Option Addr) (n1 c1 n2 c2:Nat) (ns:List Node) (ps:List Pipe) (A:Option Addr) (n c:Nat) (xs:List Contract) (B:Option Addr) (m d:Nat) (L:List Nomination) (h:Int) (w:World) (hs1:SliceOf w 3 Node.cells A1 n1 c1 ns) (hs2:SliceOf w 5 Pipe.cells A2 n2 c2 ps) (hs:SliceOf w 8 Contract.cells A n c xs) (hL:SliceOf w 4 Nomination.cells B m d L) (hnet:netB ns ps=true) (R:Option Addr) (nr cr:Nat) (rs:List RS) (hsr:SliceOf w 1 RS.cells R nr cr rs) (hrs:∀q∈rs,SliceOf w 2 Reading.cells q.A q.n q.c q.xs):
  Calls Tryz.prog 111 #[.agg #[.slice A1 n1 c1,.slice A2 n2 c2],.slice A n c,.slice B m d,.int .i64 h,.slice R nr cr] w (Ret (.int .i64 (setV n1 xs (rdB n1 rs) L h)) w):=by
 have hB:=Row.new w 45 [.slice A1 n1 c1,.slice A2 n2 c2]
 have hx0:Ext w (w.alloc (.cells #[.slice A1 n1 c1,.slice A2 n2 c2] 45)):=Ext.alloc _ _
 have HLN:=hide hs.len
 have hmx:=hs.max
 have hcp:=hs.cap
 have hrm:=hsr.max
 have hrc:=hsr.cap
 have HNT:=hide hnet
 have HRS:=hide hrs
 have hm1:n1≤9223372036854775807:=Nat.le_trans hs1.cap hs1.max
 clear hnet hrs
 go_enter Tryz.func111,Tryz.ntmps111
 go_wp2_with fail
 refine (c_isBook A1 A2 n1 c1 n2 c2 A n c xs _ hm1 (hs.ext hx0)).mono ?_
 cases hb:bookB n1 xs
 ·rintro e w1 ⟨rfl,hx1⟩
  have HR:Hid (setV n1 xs (rdB n1 rs) L h=3):=hide (by unfold setV; rw [if_pos hb])
  clear hb
  go_wp2_with fail
  go_ret
  exact Ret.int HR.out (hx0.trans hx1)
 rintro e w1 ⟨rfl,hx1⟩
 have HBK:=hide hb
 have HR0:Hid (setV n1 xs (rdB n1 rs) L h=if rdB n1 rs=false then 3 else if nomsB xs L=false then 5 else if inB h 0 47=false then 2 else if 20<xs.length then 7 else 0):=hide (by unfold setV; rw [if_neg (by rw [hb]; decide)])
 have hn32:n≤32:=by
  simp only [bookB,Bool.and_eq_true,decide_eq_true_eq] at hb
  rw [HLN.out]; exact hb.1
 clear hb
 go_wp2_with fail
 go_loopw [10,19] (fun r i wr=>∃k:Nat,k≤nr∧r= .int .i64 0∧i= .int .i64 k∧Hid (∀(j:Nat) (p:RS),j<k→rs[j]? =some p→readsB n1 p.xs=true)∧Ext (w.alloc (.cells #[.slice A1 n1 c1,.slice A2 n2 c2] 45)) wr) (fun _ i _=>nr-(intOf i).toNat)
 case atStart=>exact ⟨0,Nat.zero_le _,rfl,rfl,hide (fun j p hj=>absurd hj (by omega)),hx1⟩
 case round=>
  clear hx1
  obtain ⟨k,hk,rfl,rfl,HK,hx⟩:=hrel
  have hX:=hx0.trans hx
  have hb0:=(hB.ext hx).cell 0
  have hb1:=(hB.ext hx).cell 1
  simp at hb0 hb1
  have hbl:=(hB.ext hx).lt
  by_cases hlt:k<nr
  ·obtain ⟨bb,off,p,hA,hbb,hxk,t⟩:=(hsr.ext hX).get hlt
   have t0:=t 0 _ rfl
   simp only [Nat.add_zero,Nat.mul_one] at t0
   have HX:=hide hxk
   have HP:=hide (List.mem_of_getElem? hxk)
   clear hxk t
   subst hA
   go_wp2_with fail
   refine (c_areReadings A1 A2 n1 c1 n2 c2 ns ps p.A p.n p.c p.xs _ (hs1.ext hX) (hs2.ext hX) ((HRS.out p HP.out).ext hX) HNT.out).mono ?_
   cases hp:readsB n1 p.xs
   ·have HR:Hid (setV n1 xs (rdB n1 rs) L h=3):=hide (by rw [HR0.out,if_pos (by unfold rdB; rw [List.all_eq_false]; exact ⟨p,HP.out,by simp [hp]⟩)])
    clear hp
    rintro e w2 ⟨rfl,hx2⟩
    go_wp2_with fail
    go_ret
    exact Ret.int HR.out (hX.trans hx2)
   ·have HPP:=hide hp
    clear hp
    rintro e w2 ⟨rfl,hx2⟩
    go_wp2_with fail
    go_roundw
    case rel=>
     refine ⟨k+1,by omega,rfl,by go_num,hide fun j q hj hq=> ?_,hx.trans hx2⟩
     by_cases e:j=k
     ·subst e; rw [HX.out] at hq; injection hq with hq; subst hq; exact HPP.out
     ·exact HK.out j q (by omega) hq
    case measure=>simp [intOf]; omega
  ·have hrd:rdB n1 rs=true:=by
    unfold rdB
    rw [List.all_eq_true]; intro q hq
    obtain ⟨j,hj,rfl⟩:=List.mem_iff_getElem.1 hq
    exact HK.out j _ (by have:=hsr.len; omega) (List.getElem?_eq_getElem hj)
   have HR1:Hid (setV n1 xs (rdB n1 rs) L h=if nomsB xs L=false then 5 else if inB h 0 47=false then 2 else if 20<xs.length then 7 else 0):=hide (by rw [HR0.out,if_neg (by rw [hrd]; decide)])
   clear hrd
   go_wp2_with fail
   refine (c_AreNominations A1 A2 n1 c1 n2 c2 ns ps A n c xs B m d L _ (hs1.ext hX) (hs2.ext hX) (hs.ext hX) (hL.ext hX)).mono ?_
   have HOK:Hid (nomsOk n1 ns ps xs L=nomsB xs L):=hide (by unfold nomsOk; rw [HNT.out,HBK.out]; simp)
   rw [HOK.out]
   cases hnm:nomsB xs L
   ·have HR:Hid (setV n1 xs (rdB n1 rs) L h=5):=hide (by rw [HR1.out,if_pos hnm])
    clear hnm
    rintro e w2 ⟨rfl,hx2⟩
    go_wp2_with fail
    go_ret
    exact Ret.int HR.out (hX.trans hx2)
   ·have HR2:Hid (setV n1 xs (rdB n1 rs) L h=if inB h 0 47=false then 2 else if 20<xs.length then 7 else 0):=hide (by rw [HR1.out,if_neg (by rw [hnm]; decide)])
    clear hnm
    rintro e w2 ⟨rfl,hx2⟩
    have e1:IntKind.i64.wrap (2*(n:Int))=2*n:=IntWalk.i64_in _ (by omega)
    cases hh:inB h 0 47
    ·have HR:Hid (setV n1 xs (rdB n1 rs) L h=2):=hide (by rw [HR2.out,if_pos hh])
     go_wp2_with (go_at_call 188; refine (c_isHour h _).mono ?_; rw [hh]; rintro e w' ⟨rfl,rfl⟩)
     go_ret
     exact Ret.int HR.out (hX.trans hx2)
    ·by_cases h20:20<n
     ·have HR:Hid (setV n1 xs (rdB n1 rs) L h=7):=hide (by rw [HR2.out,if_neg (by rw [hh]; decide),if_pos (by rw [←HLN.out]; exact h20)])
      have hd:decide (40<2*(n:Int))=true:=decide_eq_true (by omega)
      go_wp2_with (go_at_call 188; refine (c_isHour h _).mono ?_; rw [hh]; rintro e w' ⟨rfl,rfl⟩)
      go_ret
      exact Ret.int HR.out (hX.trans hx2)
     ·have HR:Hid (setV n1 xs (rdB n1 rs) L h=0):=hide (by rw [HR2.out,if_neg (by rw [hh]; decide),if_neg (by rw [←HLN.out]; exact h20)])
      have hd:decide (40<2*(n:Int))=false:=decide_eq_false (by omega)
      go_wp2_with (go_at_call 188; refine (c_isHour h _).mono ?_; rw [hh]; rintro e w' ⟨rfl,rfl⟩)
      go_ret
      exact Ret.int HR.out (hX.trans hx2)
def RetOC {α:Type} (t:TypeId) (size:Nat) (f:α→List Value) (p:List α×Int) (w:World) (e:Ending) (w':World):Prop:=
 ∃v l z,e= .returned (.tuple #[v,.int .i64 z])∧OwnL w' w.heap.size t size f v l∧Ext w w'∧Hid ((l,z)=p)
theorem RetOC.nil0 {α:Type} {t:TypeId} {size:Nat} {f:α→List Value} {p:List α×Int} {w w':World} {z:Int} (hx:Ext w w') (h:([],z)=p):RetOC t size f p w (.returned (.tuple #[.slice none 0 0,.int .i64 z])) w':=
 ⟨_,[],z,rfl,OwnL.nil_ _ _ _ _ _,hx,hide h⟩
def amC (n1:Int) (ns:List Node) (ps:List Pipe) (xs:List Contract) (L:List Nomination) (h:Int):Int:=
 if nomC n1 ns ps xs L=0 then (if inB h 0 47=false then 2 else 0) else nomC n1 ns ps xs L
def amV (n1:Int) (ns:List Node) (ps:List Pipe) (xs:List Contract) (L:List Nomination) (h:Int):List Int×Int:=
 if amC n1 ns ps xs L h=0 then (amtL xs.length L h,0) else ([],amC n1 ns ps xs L h)
def fnV (n1:Int) (ns:List Node) (ps:List Pipe) (xs:List Contract) (L:List Nomination) (h:Int):List Trn×Int:=
 if amC n1 ns ps xs L h=0 then (trnL xs L h,0) else ([],amC n1 ns ps xs L h)
theorem amC_set {n1:Nat} {ns:List Node} {ps:List Pipe} {xs:List Contract} {L:List Nomination} {h:Int} (hk:HrOk n1 ns ps xs L h):amC n1 ns ps xs L h=0:=by
 unfold amC nomC bookC
 rw [hk.net,hk.bk,hk.nm,hk.hr]; rfl
set_option maxHeartbeats 1000000 in
theorem c_AmountsIn (A1 A2:Option Addr) (n1 c1 n2 c2:Nat) (ns:List Node) (ps:List Pipe) (A:Option Addr) (n c:Nat) (xs:List Contract) (B:Option Addr) (m d:Nat) (L:List Nomination) (h:Int) (w:World) (hs1:SliceOf w 3 Node.cells A1 n1 c1 ns) (hs2:SliceOf w 5 Pipe.cells A2 n2 c2 ps) (hs:SliceOf w 8 Contract.cells A n c xs) (hL:SliceOf w 4 Nomination.cells B m d L) (hn32:n≤100000):Calls Tryz.prog 148 #[.agg #[.slice A1 n1 c1,.slice A2 n2 c2],.slice A n c,.slice B m d,.int .i64 h] w (RetOC 2 1 intC (amV n1 ns ps xs L h) w):=by
 have hx0:Ext w (w.alloc (.cells #[.slice A1 n1 c1,.slice A2 n2 c2] 45)):=Ext.alloc _ _
 have HLN:=hide hs.len
 obtain ⟨z,HZ⟩:∃z,Hid (nomC n1 ns ps xs L=z):=⟨_,hide rfl⟩
 go_enter Tryz.func148,Tryz.ntmps148
 go_wp2_with fail
 refine (c_checkNominations A1 A2 n1 c1 n2 c2 ns ps A n c xs B m d L _ (hs1.ext hx0) (hs2.ext hx0) (hs.ext hx0) (hL.ext hx0)).mono ?_
 rw [HZ.out]
 rintro e w1 ⟨rfl,hx1⟩
 have hX1:=hx0.trans hx1
 by_cases h0:z=0
 ·subst h0
  have HK:=hide (nomC_ok3 HZ.out)
  cases hh:inB h 0 47
  ·have HC:Hid (amC n1 ns ps xs L h=2):=hide (by unfold amC; rw [if_pos HZ.out,if_pos hh])
   have HR:Hid (amV n1 ns ps xs L h=([],2)):=hide (by unfold amV; rw [if_neg (by rw [HC.out]; decide),HC.out])
   go_wp2_with (go_at_call 188; refine (c_isHour h _).mono ?_; rw [hh]; rintro e w' ⟨rfl,rfl⟩)
   go_ret2
   exact RetOC.nil0 hX1 HR.out.symm
  ·have HC:Hid (amC n1 ns ps xs L h=0):=hide (by unfold amC; rw [if_pos HZ.out,if_neg (by rw [hh]; decide)])
   have HR:Hid (amV n1 ns ps xs L h=(amtL xs.length L h,0)):=hide (by unfold amV; rw [if_pos HC.out])
   have HIN:=hide (fun x hx=>((nom_facts HK.out.2.1 HK.out.2.2).2 x hx).1)
   go_wp2_with (go_at_call 188; refine (c_isHour h _).mono ?_; rw [hh]; rintro e w' ⟨rfl,rfl⟩)
   refine (c_amountsIn A n c B m d L _ (hL.ext hX1) hn32 (by rw [HLN.out]; exact HIN.out) h).mono ?_
   rintro e w2 ⟨v,E,rfl,ho,HE,hx2⟩
   have hz:=hX1.size
   go_wp2_with fail
   go_ret2
   exact ⟨v,E,0,rfl,ho.lowG hz,hX1.trans hx2,hide (by rw [HR.out,HE.out,HLN.out])⟩
 ·have HC:Hid (amC n1 ns ps xs L h=z):=hide (by unfold amC; rw [if_neg (by rw [HZ.out]; exact h0),HZ.out])
  have HR:Hid (amV n1 ns ps xs L h=([],z)):=hide (by unfold amV; rw [if_neg (by rw [HC.out]; exact h0),HC.out])
  have hb:(z != 0)=true:=by rw [bne_iff_ne]; exact h0
  go_wp2_with fail
  go_ret2
  exact RetOC.nil0 hX1 HR.out.symm
set_option maxHeartbeats 2000000 in
theorem c_FromNominations (A1 A2:Option Addr) (n1 c1 n2 c2:Nat) (ns:List Node) (ps:List Pipe) (A:Option Addr) (n c:Nat) (xs:List Contract) (B:Option Addr) (m d:Nat) (L:List Nomination) (h:Int) (w:World) (hs1:SliceOf w 3 Node.cells A1 n1 c1 ns) (hs2:SliceOf w 5 Pipe.cells A2 n2 c2 ps) (hs:SliceOf w 8 Contract.cells A n c xs) (hL:SliceOf w 4 Nomination.cells B m d L) (hn32:n≤100000):Calls Tryz.prog 76 #[.agg #[.slice A1 n1 c1,.slice A2 n2 c2],.slice A n c,.slice B m d,.int .i64 h] w (RetOC 201 4 Trn.cells (fnV n1 ns ps xs L h) w):=by
 have hx0:Ext w (w.alloc (.cells #[.slice A1 n1 c1,.slice A2 n2 c2] 45)):=Ext.alloc _ _
 have HLN:=hide hs.len
 have hmx:=hs.max
 have hcp:=hs.cap
 obtain ⟨z,HZ⟩:∃z,Hid (amC n1 ns ps xs L h=z):=⟨_,hide rfl⟩
 go_enter Tryz.func76,Tryz.ntmps76
 go_wp2_with fail
 refine (c_AmountsIn A1 A2 n1 c1 n2 c2 ns ps A n c xs B m d L h _ (hs1.ext hx0) (hs2.ext hx0) (hs.ext hx0) (hL.ext hx0) hn32).mono ?_
 rintro e w1 ⟨v1,am,zz,rfl,ho1,hx1,HP⟩
 by_cases h0:z=0
 ·subst h0
  have hp:(am,zz)=(amtL xs.length L h,0):=by rw [HP.out]; unfold amV; rw [if_pos HZ.out]
  injection hp with hp1 hp2
  subst hp2
  have HE:=hide hp1
  clear hp1 HP
  have hal:am.length=n:=by rw [HE.out,amtL_len, ←HLN.out]
  obtain ⟨A4,c4,rfl,hs4⟩:=ho1.sl intC_len (by omega)
  rw [hal] at hs4
  rw [hal]
  have HTL:Hid (List.zipWith trnOf xs am=trnL xs L h):=hide (by unfold trnL; rw [HE.out])
  have HR:Hid (fnV n1 ns ps xs L h=(trnL xs L h,0)):=hide (by unfold fnV; rw [if_pos HZ.out])
  have hX1:=hx0.trans hx1
  have hs1':=hs.ext hX1
  have hw1:=hX1.size
  clear ho1 hs hL hs1 hs2
  go_wp2_with fail
  go_loopw [12,28] (fun v i wr=>∃(k:Nat) (T:List Trn),k≤n∧i= .int .i64 k∧T.length=k∧Hid (T=(List.zipWith trnOf xs am).take k)∧OwnL wr w1.heap.size 201 4 Trn.cells v T∧Ext w1 wr) (fun _ i _=>n-(intOf i).toNat)
  case atStart=>exact ⟨0,[],Nat.zero_le _,rfl,rfl,hide rfl,OwnL.nil_ _ _ _ _ _,Ext.refl _⟩
  case round=>
   obtain ⟨k,T,hk,rfl,hTk,HT,ho,hx⟩:=hrel
   by_cases hlt:k<n
   ·obtain ⟨b,off,x,hA,hb,hxk,hc⟩:=(hs1'.ext hx).get hlt
    have hc0:=hc 0 _ rfl
    have hc1:=hc 1 _ rfl
    have hc2:=hc 2 _ rfl
    have hc3:=hc 3 _ rfl
    have hc4:=hc 4 _ rfl
    have hc5:=hc 5 _ rfl
    have hc6:=hc 6 _ rfl
    have hc7:=hc 7 _ rfl
    clear hc
    subst hA
    obtain ⟨ba,oa,a,hB,hba,hak,hca⟩:=(hs4.ext hx).get hlt
    have hca0:=hca 0 _ rfl
    clear hca
    subst hB
    simp only [Nat.add_zero,Nat.mul_one] at hca0 hc0
    have hbaw:ba<w1.heap.size:=hs4.blk (b:=ba) (by unfold blkOf; rw [if_neg (by omega)]; rfl)
    have hxw:=hx.size
    have HST:Hid ((List.zipWith trnOf xs am).take (k+1)=T++[⟨x.entry,x.exit,a,x.cls⟩]):=hide (by rw [zip_step hxk hak, ←HT.out]; rfl)
    have HOB:Hid (∀j,u12.ownBlock=some j→w1.heap.size≤j∧j<wr.heap.size):=hide (fun j hj=>⟨ho.block_le hj,(ho.ltG hj).2⟩)
    clear hxk hak
    go_wp2_with fail
    have hbx:=Row.new wr 153 x.cells
    have hx1':Ext wr (wr.alloc (.cells x.cells.toArray 153)):=Ext.alloc _ _
    rw [show (Obj.cells #[.int .i64 x.shipper,.int .i64 x.entry,.int .i64 x.exit,.int .i64 x.amount,.int .i64 x.cls,.int .i64 x.start,.int .i64 x.stop,.int .i64 x.price] 153)= .cells x.cells.toArray 153 from rfl]
    obtain ⟨g,hg⟩:∃g,wr.heap.size=g:=⟨_,rfl⟩
    generalize (wr.alloc (.cells x.cells.toArray 153))=W1 at *
    have hca1:=(hx1'.cell _ _ hba).trans hca0
    have q1:=hbx.cell 1
    have q2:=hbx.cell 2
    have q4:=hbx.cell 4
    simp [Contract.cells] at q1 q2 q4
    have hbl:=hbx.lt
    have ho1:=ho.ext hx1'
    have hX2:=hx.trans hx1'
    have hbaW:ba<W1.heap.size:=Nat.lt_of_lt_of_le hba hx1'.size
    rw [hg] at hbl q1 q2 q4 HOB hxw ⊢
    clear hx ho hca0 hba hx1' hb hc0 hc1 hc2 hc3 hc4 hc5 hc6 hc7 hbx
    refine wp_region_phC [(g,1),(g,2),(ba,oa+k),(g,4)] [([0,1,2,3,4,5,6,7,8,9,10,11],12),([],13)] [14] (by kernel_rfl) (by kernel_rfl) (by intro c a w d v h; cases d <;> exact h) ?_
    simp only [wpPhC,pickL,nthO]
    repeat (go_big_quiet_step (fail))
    refine wpQuiet_nil ?_
    go_wp2_with fail
    obtain ⟨W,HW⟩:∃W,Hid ((W1.alloc (.cells #[.int .i64 x.entry,.int .i64 x.exit,.int .i64 a,.int .i64 x.cls] 201)).drew=W):=⟨_,hide rfl⟩
    rw [HW.out]
    have hxa:Ext W1 W:=by rw [←HW.out]; exact ((Ext.refl W1).and_alloc _).drew
    have hxz:=hxa.size
    have hxz1:=hX2.size
    have hWn:SliceOf W 4 Trn.cells (some ⟨W1.heap.size,0,none⟩) 1 1 [⟨x.entry,x.exit,a,x.cls⟩]:=by rw [←HW.out]; exact (new_trn W1 ⟨x.entry,x.exit,a,x.cls⟩ rfl).ext (Ext.refl _).drew
    refine ⟨SameC.of_ext hxa (by simp; omega),wpQuiet_nil ?_⟩
    go_wp2_with (at_builtin; go_must (refine wpList_append_where rfl _ _ 118 rfl w1.heap.size 201 _ 4 32 Tryz.underlying118 trn_info rfl (by decide) Trn.cells trn_len trn_one _ T rfl (ho1.ext hxa) W1.heap.size 0 1 1 [⟨x.entry,x.exit,a,x.cls⟩] rfl hWn (by omega) (by omega) (by omega) ?_))
    intro v2 w2 ho2 hg2 _
    have hx2:=(hX2.trans hxa).grown hg2 (fun k hk=>ho1.block_le hk)
    have hsm:=same_grown (bs:=[(g,1),(g,2),(ba,oa+k),(g,4)]) hxa hg2 (by
     intro p hp
     simp only [List.mem_cons,List.not_mem_nil,or_false] at hp
     rcases hp with rfl | rfl | rfl | rfl <;> exact ⟨by show _<_; omega,fun j hj=>by have:=HOB.out j hj; show _≠j; omega⟩)
    rw [←HST.out] at ho2
    clear ho1 hg2 hxa q1 q2 q4 hca1
    go_wp2_with fail
    refine ⟨hsm,?_⟩
    repeat (go_big_quiet_step (fail))
    refine wpQuiet_nil ?_
    go_wp2_with fail
    go_roundw
    case rel=>exact ⟨k+1,_,by omega,by go_num,by rw [HST.out]; simp; omega,hide rfl,ho2,hx2⟩
    case measure=>simp [intOf]; omega
   ·go_wp2_with fail
    go_ret2
    refine ⟨_,T,0,rfl,ho.lowG hw1,hX1.trans hx,hide ?_⟩
    rw [HR.out,HT.out,List.take_of_length_le (by rw [List.length_zipWith, ←HLN.out,hal]; omega),HTL.out]
 ·have hp:(am,zz)=([],z):=by rw [HP.out]; unfold amV; rw [if_neg (by rw [HZ.out]; exact h0),HZ.out]
  injection hp with hp1 hp2
  subst hp1 hp2
  have HR:Hid (fnV n1 ns ps xs L h=([],zz)):=hide (by unfold fnV; rw [if_neg (by rw [HZ.out]; exact h0),HZ.out])
  have hb:(zz != 0)=true:=by rw [bne_iff_ne]; exact h0
  go_wp2_with fail
  go_ret2
  exact RetOC.nil0 (hx0.trans hx1) HR.out.symm
end Go.Proofs.YtfkpghdmljjegaaGreat
namespace Go.Proofs.YtfkpghdmljjegaaGreat
open Go.RowKit
def shC (n1:Nat) (ns:List Node) (ps:List Pipe) (xs:List Contract) (L:List Nomination) (h:Int) (rd:List Reading) (band percent price:Int) (ts:List Tier):Int:=
 if netB ns ps=false then 1 else if isTermsB band percent price ts=false then 1 else setV n1 xs (readsB n1 rd) L h
noncomputable def shV (n1:Nat) (ns:List Node) (ps:List Pipe) (xs:List Contract) (L:List Nomination) (h:Int) (rd:List Reading) (band percent price:Int) (ts:List Tier):Stl×Int:=
 if shC n1 ns ps xs L h rd band percent price ts=0 then (stlH ps n1 xs L h rd band percent price ts,0) else (zeroS,shC n1 ns ps xs L h rd band percent price ts)
theorem setV_ok {n1:Nat} {ns:List Node} {ps:List Pipe} {xs:List Contract} {L:List Nomination} {h:Int} {b:Bool} (hn:netB ns ps=true) (hz:setV n1 xs b L h=0):b=true∧HrOk n1 ns ps xs L h:=by
 cases b
 ·exfalso
  unfold setV at hz
  split at hz
  ·cases hz
  ·rw [if_pos rfl] at hz; cases hz
 ·exact ⟨rfl,setC_ok (by rw [←setV_C hn]; exact hz)⟩
end Go.Proofs.YtfkpghdmljjegaaGreat
namespace Go.Proofs.YtfkpghdmljjegaaGreat
open Go.RowKit
def rdK (rs:List RS) (k:Nat):List Reading:=(rs[k]?.map RS.xs).getD []
noncomputable def hsL (ps:List Pipe) (n1:Nat) (xs:List Contract) (L:List Nomination) (h:Int) (rs:List RS) (band percent price:Int) (ts:List Tier):Nat→List Posting
 | 0=>[]
 | k+1=>hsL ps n1 xs L h rs band percent price ts k++(stlH ps n1 xs L (h+k) (rdK rs k) band percent price ts).psn
def hsC (n1:Nat) (ns:List Node) (ps:List Pipe) (xs:List Contract) (L:List Nomination) (h:Int) (rs:List RS) (band percent price:Int) (ts:List Tier):Int:=
 if netB ns ps=false then 1 else if isTermsB band percent price ts=false then 1 else if 48<rs.length then 3 else
  if (setV n1 xs (rdB n1 rs) L h=0∨setV n1 xs (rdB n1 rs) L h=7)∧48<h+rs.length then 2 else setV n1 xs (rdB n1 rs) L h
noncomputable def hsV (n1:Nat) (ns:List Node) (ps:List Pipe) (xs:List Contract) (L:List Nomination) (h:Int) (rs:List RS) (band percent price:Int) (ts:List Tier):List Posting×Int:=
 if hsC n1 ns ps xs L h rs band percent price ts=0 then
  (if 300<(hsL ps n1 xs L h rs band percent price ts rs.length).length then ([],3) else (hsL ps n1 xs L h rs band percent price ts rs.length,0))
 else ([],hsC n1 ns ps xs L h rs band percent price ts)
theorem stlH_psn (ps:List Pipe) (n1:Nat) (xs:List Contract) (L:List Nomination) (h:Int) (rd:List Reading) (band percent price:Int) (ts:List Tier):(stlH ps n1 xs L h rd band percent price ts).psn.length≤32:=
 Nat.le_trans (postsL_len band percent price ts _ _ 16) (by omega)
theorem hsC_ok {n1:Nat} {ns:List Node} {ps:List Pipe} {xs:List Contract} {L:List Nomination} {h:Int} {rs:List RS} {band percent price:Int} {ts:List Tier} (hz:hsC n1 ns ps xs L h rs band percent price ts=0):
  netB ns ps=true∧isTermsB band percent price ts=true∧rdB n1 rs=true∧HrOk n1 ns ps xs L h∧rs.length≤48∧h+rs.length≤48:=by
 unfold hsC at hz
 split at hz
 ·cases hz
 ·rename_i h1
  split at hz
  ·cases hz
  ·rename_i h2
   split at hz
   ·cases hz
   ·rename_i h3
    split at hz
    ·cases hz
    ·rename_i h4
     have hn:netB ns ps=true:=by simpa using h1
     obtain ⟨a,b⟩:=setV_ok hn hz
     refine ⟨hn,by simpa using h2,a,b,by omega,?_⟩
     by_cases h5:(48:Int)<h+rs.length
     ·exact absurd ⟨.inl hz,h5⟩ h4
     ·omega
theorem HrOk.at_hour {n1:Nat} {ns:List Node} {ps:List Pipe} {xs:List Contract} {L:List Nomination} {h:Int} (hk:HrOk n1 ns ps xs L h) {k:Nat} (hl:h+k≤47):HrOk n1 ns ps xs L (h+k):=
 ⟨hk.net,hk.bk,hk.nm,by have:=inB_true.1 hk.hr; exact inB_true.2 ⟨by omega,by omega⟩,hk.le⟩
theorem setC_ways {n1:Nat} {ns:List Node} {ps:List Pipe} {xs:List Contract} {L:List Nomination} {h:Int} (hn:netB ns ps=true) (hb:bookB n1 xs=true):
  setC n1 ns ps xs L h=5∨(setC n1 ns ps xs L h=2∧inB h 0 47=false)∨((setC n1 ns ps xs L h=0∨setC n1 ns ps xs L h=7)∧inB h 0 47=true):=by
 rw [←setV_C hn]
 unfold setV
 rw [if_neg (by rw [hb]; decide),if_neg (by decide)]
 cases nomsB xs L
 ·left; rfl
 ·right
  rw [if_neg (by decide)]
  cases inB h 0 47
  ·left; exact ⟨rfl,rfl⟩
  ·right
   rw [if_neg (by decide)]
   refine ⟨?_,rfl⟩
   split
   ·exact .inr rfl
   ·exact .inl rfl
theorem setV_hour {n1:Nat} {xs:List Contract} {b:Bool} {L:List Nomination} {h:Int} (hz:setV n1 xs b L h=0∨setV n1 xs b L h=7):inB h 0 47=true:=by
 unfold setV at hz
 split at hz
 ·omega
 ·split at hz
  ·omega
  ·split at hz
   ·omega
   ·split at hz
    ·omega
    ·simp_all
theorem hsV_len {n1:Nat} {ns:List Node} {ps:List Pipe} {xs:List Contract} {L:List Nomination} {h:Int} {rs:List RS} {band percent price:Int} {ts:List Tier}:(hsV n1 ns ps xs L h rs band percent price ts).1.length≤300:=by
 unfold hsV
 split
 ·split
  ·simp
  ·simp only; omega
 ·simp
theorem fld4 (A0 A1 A2 A3 A4:Option Addr) (n0 c0 n1 c1 n2 c2 n3 c3 n4 c4:Nat) (W:World):(Instr.field 28 (.agg #[.slice A0 n0 c0,.slice A1 n1 c1,.slice A2 n2 c2,.slice A3 n3 c3,.slice A4 n4 c4]) 4).run Tryz.prog W= .ok (.slice A4 n4 c4) W:=by kernel_rfl
end Go.Proofs.YtfkpghdmljjegaaGreat
