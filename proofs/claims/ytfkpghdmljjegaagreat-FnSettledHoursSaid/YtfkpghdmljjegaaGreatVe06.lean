/-
  Lists of nominations: validity, of the program and of the reference.
-/
import Derived.Test.YtfkpghdmljjegaaGreatVe05
import Derived.Test.YtfkpghdmljjegaaGreatVe04
import Derived.Test.YtfkpghdmljjegaaGreatVe00
import Derived.Test.YtfkpghdmljjegaaGreatVe03
namespace Go.Proofs.YtfkpghdmljjegaaGreat
open Go.RowKit
def prevOk (L:List Nomination) (i:Nat) (s:Int):Bool:=if i=0 then true else match L[i-1]? with
 | some y=>decide (y.sent≤s)
 | none=>true
def nomOkB (xs:List Contract) (L:List Nomination) (i:Nat):Bool:=match L[i]? with
 | some x=>nomB xs x&&prevOk L i x.sent
 | none=>true
def nomsB (xs:List Contract) (L:List Nomination):Bool:=decide (L.length≤200)&&(List.range L.length).all (nomOkB xs L)
theorem nomOk_at {xs:List Contract} {L:List Nomination} {k:Nat} {x:Nomination} (h:L[k]? =some x):nomOkB xs L k=(nomB xs x&&prevOk L k x.sent):=by unfold nomOkB; rw [h]
theorem noms_no {xs:List Contract} {L:List Nomination} {n k:Nat} (hn:n=L.length) (hk:k<n) (h:nomOkB xs L k=false):nomsB xs L=false:=by
 unfold nomsB
 rw [all_range_false (by omega) h]; simp
theorem noms_yes {xs:List Contract} {L:List Nomination} {n:Nat} (hn:n=L.length) (h200:n≤200) (h:∀j,j<n→nomOkB xs L j=true):nomsB xs L=true:=by
 subst hn
 unfold nomsB
 rw [all_range_true h]; simp [h200]
theorem noms_long {xs:List Contract} {L:List Nomination} {n:Nat} (hn:n=L.length) (h:¬n≤200):nomsB xs L=false:=by
 subst hn
 unfold nomsB; simp [h]
theorem prev_zero (L:List Nomination) (s:Int):prevOk L 0 s=true:=rfl
theorem prev_at {L:List Nomination} {k:Nat} {s:Int} {y:Nomination} (h:L[k]? =some y):prevOk L (k+1) s=decide (y.sent≤s):=by
 unfold prevOk; rw [if_neg (by omega),Nat.add_sub_cancel,h]
def nomC (n1:Int) (ns:List Node) (ps:List Pipe) (xs:List Contract) (L:List Nomination):Int:=if bookC n1 ns ps xs=0 then (if nomsB xs L=false then 5 else 0) else bookC n1 ns ps xs
theorem book_zero {n1:Int} {ns:List Node} {ps:List Pipe} {xs:List Contract} (h:bookC n1 ns ps xs=0):netB ns ps=true∧bookB n1 xs=true:=by
 unfold bookC at h
 split at h
 ·cases h
 ·split at h
  ·cases h
  ·simp_all
set_option maxHeartbeats 4000000 in
theorem c_checkNominations (A1 A2:Option Addr) (n1 c1 n2 c2:Nat) (ns:List Node) (ps:List Pipe) (A:Option Addr) (n c:Nat) (xs:List Contract) (B:Option Addr) (m d:Nat) (L:List Nomination) (w:World) (hs1:SliceOf w 3 Node.cells A1 n1 c1 ns) (hs2:SliceOf w 5 Pipe.cells A2 n2 c2 ps) (hs:SliceOf w 8 Contract.cells A n c xs) (hL:SliceOf w 4 Nomination.cells B m d L):
  Calls Tryz.prog 216 #[.agg #[.slice A1 n1 c1,.slice A2 n2 c2],.slice A n c,.slice B m d] w (Ret (.int .i64 (nomC n1 ns ps xs L)) w):=by
 have hm:=hL.max
 have hcap:=hL.cap
 have HL:=hide hL.len
 by_cases hb0:bookC n1 ns ps xs=0
 case neg=>
  have hb1:(bookC n1 ns ps xs != 0)=true:=by simpa using hb0
  have HR:=hide (show nomC n1 ns ps xs L=bookC n1 ns ps xs by simp [nomC,hb0])
  clear hb0
  go_enter Tryz.func216,Tryz.ntmps216
  go_wp2_with fail
  refine (c_checkBook A1 A2 n1 c1 n2 c2 ns ps A n c xs _ (hs1.ext (Ext.alloc _ _)) (hs2.ext (Ext.alloc _ _)) (hs.ext (Ext.alloc _ _))).mono ?_
  generalize bookC n1 ns ps xs=B0 at *
  rintro e w1 ⟨rfl,hx1⟩
  go_wp2_with fail
  go_ret
  exact Ret.int HR.out hx1.box
 have hok:=book_hours (book_zero hb0).2
 have HOK:=hide hok
 have HB:=hide hb0
 have HRn:=hide (show nomsB xs L=false→nomC n1 ns ps xs L=5 by intro h; simp [nomC,hb0,h])
 have HRy:=hide (show nomsB xs L=true→nomC n1 ns ps xs L=0 by intro h; simp [nomC,hb0,h])
 clear hok hb0
 by_cases h200:m≤200
 case neg=>
  have HR:=hide (HRn.out (noms_long HL.out h200))
  have h2':(200:Int)<m:=by omega
  go_enter Tryz.func216,Tryz.ntmps216
  go_wp2_with fail
  refine (c_checkBook A1 A2 n1 c1 n2 c2 ns ps A n c xs _ (hs1.ext (Ext.alloc _ _)) (hs2.ext (Ext.alloc _ _)) (hs.ext (Ext.alloc _ _))).mono ?_
  rw [HB.out]
  rintro e w1 ⟨rfl,hx1⟩
  go_wp2_with fail
  go_ret
  exact Ret.int HR.out hx1.box
 go_enter Tryz.func216,Tryz.ntmps216
 go_wp2_with fail
 refine (c_checkBook A1 A2 n1 c1 n2 c2 ns ps A n c xs _ (hs1.ext (Ext.alloc _ _)) (hs2.ext (Ext.alloc _ _)) (hs.ext (Ext.alloc _ _))).mono ?_
 rw [HB.out]
 rintro e w1 ⟨rfl,hx1⟩
 have hx0:=hx1.box
 clear hx1
 go_wp2_with fail
 go_loopw [21] (fun i wr=>∃k:Nat,k≤m∧i= .int .i64 k∧Hid (∀j,j<k→nomOkB xs L j=true)∧Ext w wr) (fun i _=>m-(intOf i).toNat)
 case atStart=>exact ⟨0,Nat.zero_le _,rfl,hide (fun j hj=>absurd hj (by omega)),hx0⟩
 case round=>
  obtain ⟨k,hk,rfl,HK,hx⟩:=hrel
  clear hx0
  by_cases hlt:k<m
  ·obtain ⟨bb,off,x,rfl,hbb,hxk,t⟩:=(hL.ext hx).get hlt
   have t0:=(t 0 _ rfl)
   have t1:=(t 1 _ rfl)
   have t2:=(t 2 _ rfl)
   have t3:=(t 3 _ rfl)
   simp only [Nat.add_zero] at t0
   clear t
   have HX:=hide (nomOk_at (xs:=xs) hxk)
   have hR:=Row.new wr 157 [.int .i64 x.contract,.int .i64 x.hour,.int .i64 x.sent,.int .i64 x.amount]
   have q0:=hR.cell 0
   have q1:=hR.cell 1
   have q2:=hR.cell 2
   have q3:=hR.cell 3
   simp at q0 q1 q2 q3
   have hl:=hR.lt
   have hL':=hL.ext hx
   clear hxk
   rcases Nat.eq_zero_or_pos k with hk0 | hk0
   ·have HP:=hide (show prevOk L k x.sent=true by rw [hk0]; exact prev_zero L x.sent)
    have hk0':decide (0<k)=false:=by simp; omega
    clear hk0
    rw [HP.out,Bool.and_true] at HX
    go_wp2_with fail
    refine wp_region_ph [([0,1],2)] [3,4,5,6,7,8,9,10,11,12,13,14,15,16,17,18] (by kernel_rfl) (by kernel_rfl) (by intro c a w d v h; cases d <;> exact h) ?_
    simp only [wpPh,pickL,nthO]
    repeat (go_big_quiet_step (fail))
    refine wpQuiet_nil ?_
    go_wp2_with fail
    refine (c_isNomination A n c xs x _ (hs.ext ((hx.and_alloc _).drew)) HOK.out).mono ?_
    cases hp:nomB xs x
    ·rw [hp] at HX
     have HR:=hide (HRn.out (noms_no HL.out hlt HX.out))
     rintro e w2 ⟨rfl,hx2⟩
     go_wp2_with fail
     refine ⟨hx2,?_⟩
     repeat (go_big_quiet_step (fail))
     refine wpQuiet_nil ?_
     go_wp2_with fail
     go_ret
     exact Ret.int HR.out ((hx.and_alloc _).drew.trans hx2)
    ·rw [hp] at HX
     have HO:=hide (all_upto HK.out HX.out)
     rintro e w2 ⟨rfl,hx2⟩
     go_wp2_with fail
     refine ⟨hx2,?_⟩
     repeat (go_big_quiet_step (fail))
     refine wpQuiet_nil ?_
     go_wp2_with fail
     go_roundw
     case rel=>exact ⟨k+1,by omega,by go_num,HO,(hx.and_alloc _).drew.trans hx2⟩
     case measure=>simp [intOf]; omega
   ·obtain ⟨k',hkk⟩:∃k',k=k'+1:=⟨k-1,by omega⟩
    have hk1:k'<m:=by omega
    obtain ⟨y,hyk,u⟩:=hL'.at_ hk1
    have u2:=u 2 _ rfl
    have HP:=hide (show prevOk L k x.sent=decide (y.sent≤x.sent) by rw [hkk]; exact prev_at (s:=x.sent) hyk)
    have hidx:(k:Int)-1=(k':Int):=by omega
    have hk0':decide (0<k)=true:=by simp; omega
    clear u hyk hkk
    go_wp2_with fail
    refine wp_region_ph [([0,1],2)] [3,4,5,6,7,8,9,10,11,12,13,14,15,16,17,18] (by kernel_rfl) (by kernel_rfl) (by intro c a w d v h; cases d <;> exact h) ?_
    simp only [wpPh,pickL,nthO]
    repeat (go_big_quiet_step (fail))
    refine wpQuiet_nil ?_
    go_wp2_with fail
    refine (c_isNomination A n c xs x _ (hs.ext ((hx.and_alloc _).drew)) HOK.out).mono ?_
    cases hp:nomB xs x
    ·rw [hp] at HX
     have HR:=hide (HRn.out (noms_no HL.out hlt HX.out))
     rintro e w2 ⟨rfl,hx2⟩
     go_wp2_with fail
     refine ⟨hx2,?_⟩
     repeat (go_big_quiet_step (fail))
     refine wpQuiet_nil ?_
     go_wp2_with fail
     go_ret
     exact Ret.int HR.out ((hx.and_alloc _).drew.trans hx2)
    rw [hp] at HX
    rintro e w2 ⟨rfl,hx2⟩
    have hxa:=(Ext.refl (wr.alloc (.cells #[.int .i64 x.contract,.int .i64 x.hour,.int .i64 x.sent,.int .i64 x.amount] 157))).drew.trans hx2
    have hR2:=hR.ext hxa
    have v2:=hR2.cell 2
    simp at v2
    have hl2:=hR2.lt
    have u2':w2.cell? ⟨bb,off+k'*4+2,none⟩=some (.int .i64 y.sent):=((hxa.box).cell _ _ hbb).trans u2
    have hbb2:bb<w2.heap.size:=Nat.lt_of_lt_of_le hbb hxa.box.size
    by_cases hq:y.sent≤x.sent
    ·rw [HP.out,decide_eq_true hq] at HX
     have HO:=hide (all_upto HK.out HX.out)
     have hq':decide (x.sent<y.sent)=false:=by simp; omega
     go_wp2_with fail
     refine ⟨hx2,?_⟩
     repeat (go_big_quiet_step (fail))
     refine wpQuiet_nil ?_
     go_wp2_with fail
     go_roundw
     case rel=>exact ⟨k+1,by omega,by go_num,HO,hx.trans hxa.box⟩
     case measure=>simp [intOf]; omega
    ·rw [HP.out,decide_eq_false hq] at HX
     have HR:=hide (HRn.out (noms_no HL.out hlt HX.out))
     have hq':decide (x.sent<y.sent)=true:=by simp; omega
     go_wp2_with fail
     refine ⟨hx2,?_⟩
     repeat (go_big_quiet_step (fail))
     refine wpQuiet_nil ?_
     go_wp2_with fail
     go_ret
     exact Ret.int HR.out (hx.trans hxa.box)
  ·have HR:=hide (HRy.out (noms_yes HL.out h200 (fun j hj=>HK.out j (by omega))))
   go_wp2_with fail
   go_ret
   exact Ret.int HR.out hx
set_option maxHeartbeats 4000000 in
theorem c_l21List (A:Option Addr) (n c:Nat) (xs:List Contract) (B:Option Addr) (m d:Nat) (L:List Nomination) (w:World) (hs:SliceOf w 8 Contract.cells A n c xs) (hL:SliceOf w 4 Nomination.cells B m d L) (hok:HoursOk xs):
  Calls Tryz.prog 229 #[.slice A n c,.slice B m d] w (Ret (.bool (nomsB xs L)) w):=by
 have hm:=hL.max
 have hcap:=hL.cap
 have HL:=hide hL.len
 have HOK:=hide hok
 clear hok
 by_cases h200:m≤200
 case neg=>
  have HR:=hide (noms_long (xs:=xs) HL.out h200)
  have h2':(200:Int)<m:=by omega
  go_enter Tryz.func229,Tryz.ntmps229
  go_wp2_with fail
  go_ret
  exact Ret.bool HR.out (Ext.refl _)
 go_enter Tryz.func229,Tryz.ntmps229
 go_wp2_with fail
 go_loopw [5] (fun i wr=>∃k:Nat,k≤m∧i= .int .i64 k∧Hid (∀j,j<k→nomOkB xs L j=true)∧Ext w wr) (fun i _=>m-(intOf i).toNat)
 case atStart=>exact ⟨0,Nat.zero_le _,rfl,hide (fun j hj=>absurd hj (by omega)),Ext.refl _⟩
 case round=>
  obtain ⟨k,hk,rfl,HK,hx⟩:=hrel
  by_cases hlt:k<m
  ·obtain ⟨bb,off,x,rfl,hbb,hxk,t⟩:=(hL.ext hx).get hlt
   have t0:=(t 0 _ rfl)
   have t1:=(t 1 _ rfl)
   have t2:=(t 2 _ rfl)
   have t3:=(t 3 _ rfl)
   simp only [Nat.add_zero] at t0
   clear t
   have HX:=hide (nomOk_at (xs:=xs) hxk)
   have hL':=hL.ext hx
   clear hxk
   rcases Nat.eq_zero_or_pos k with hk0 | hk0
   ·have HP:=hide (show prevOk L k x.sent=true by rw [hk0]; exact prev_zero L x.sent)
    have hk0':decide (0<k)=false:=by simp; omega
    clear hk0
    rw [HP.out,Bool.and_true] at HX
    go_wp2_with fail
    refine wp_region_ph [([0,1,2,3,4],5)] [6,7,8,9,10,11,12,13,14,15,16,17,18,19,20,21,22,23,24] (by kernel_rfl) (by kernel_rfl) (by intro c a w d v h; cases d <;> exact h) ?_
    simp only [wpPh,pickL,nthO]
    repeat (go_big_quiet_step (fail))
    refine wpQuiet_nil ?_
    go_wp2_with fail
    refine (c_l21Is A n c xs x _ (hs.ext hx.drew) HOK.out).mono ?_
    cases hp:nomB xs x
    ·rw [hp] at HX
     have HR:=hide (noms_no HL.out hlt HX.out)
     rintro e w2 ⟨rfl,hx2⟩
     go_wp2_with fail
     refine ⟨hx2,?_⟩
     repeat (go_big_quiet_step (fail))
     refine wpQuiet_nil ?_
     go_wp2_with fail
     go_ret
     exact Ret.bool HR.out (hx.drew.trans hx2)
    ·rw [hp] at HX
     have HO:=hide (all_upto HK.out HX.out)
     rintro e w2 ⟨rfl,hx2⟩
     go_wp2_with fail
     refine ⟨hx2,?_⟩
     repeat (go_big_quiet_step (fail))
     refine wpQuiet_nil ?_
     go_wp2_with fail
     go_roundw
     case rel=>exact ⟨k+1,by omega,by go_num,HO,hx.drew.trans hx2⟩
     case measure=>simp [intOf]; omega
   ·obtain ⟨k',hkk⟩:∃k',k=k'+1:=⟨k-1,by omega⟩
    have hk1:k'<m:=by omega
    obtain ⟨y,hyk,u⟩:=hL'.at_ hk1
    have u2:=u 2 _ rfl
    have HP:=hide (show prevOk L k x.sent=decide (y.sent≤x.sent) by rw [hkk]; exact prev_at (s:=x.sent) hyk)
    have hidx:(k:Int)-1=(k':Int):=by omega
    have hk0':decide (0<k)=true:=by simp; omega
    clear u hyk hkk
    go_wp2_with fail
    refine wp_region_ph [([0,1,2,3,4],5)] [6,7,8,9,10,11,12,13,14,15,16,17,18,19,20,21,22,23,24] (by kernel_rfl) (by kernel_rfl) (by intro c a w d v h; cases d <;> exact h) ?_
    simp only [wpPh,pickL,nthO]
    repeat (go_big_quiet_step (fail))
    refine wpQuiet_nil ?_
    go_wp2_with fail
    refine (c_l21Is A n c xs x _ (hs.ext hx.drew) HOK.out).mono ?_
    cases hp:nomB xs x
    ·rw [hp] at HX
     have HR:=hide (noms_no HL.out hlt HX.out)
     rintro e w2 ⟨rfl,hx2⟩
     go_wp2_with fail
     refine ⟨hx2,?_⟩
     repeat (go_big_quiet_step (fail))
     refine wpQuiet_nil ?_
     go_wp2_with fail
     go_ret
     exact Ret.bool HR.out (hx.drew.trans hx2)
    rw [hp] at HX
    rintro e w2 ⟨rfl,hx2⟩
    have hxa:=(Ext.refl wr).drew.trans hx2
    have u2':w2.cell? ⟨bb,off+k'*4+2,none⟩=some (.int .i64 y.sent):=(hxa.cell _ _ hbb).trans u2
    have t2':w2.cell? ⟨bb,off+k*4+2,none⟩=some (.int .i64 x.sent):=(hxa.cell _ _ hbb).trans t2
    have hbb2:bb<w2.heap.size:=Nat.lt_of_lt_of_le hbb hxa.size
    by_cases hq:y.sent≤x.sent
    ·rw [HP.out,decide_eq_true hq] at HX
     have HO:=hide (all_upto HK.out HX.out)
     have hq':decide (x.sent<y.sent)=false:=by simp; omega
     go_wp2_with fail
     refine ⟨hx2,?_⟩
     repeat (go_big_quiet_step (fail))
     refine wpQuiet_nil ?_
     go_wp2_with fail
     go_roundw
     case rel=>exact ⟨k+1,by omega,by go_num,HO,hx.trans hxa⟩
     case measure=>simp [intOf]; omega
    ·rw [HP.out,decide_eq_false hq] at HX
     have HR:=hide (noms_no HL.out hlt HX.out)
     have hq':decide (x.sent<y.sent)=true:=by simp; omega
     go_wp2_with fail
     refine ⟨hx2,?_⟩
     repeat (go_big_quiet_step (fail))
     refine wpQuiet_nil ?_
     go_wp2_with fail
     go_ret
     exact Ret.bool HR.out (hx.trans hxa)
  ·have HR:=hide (noms_yes HL.out h200 (fun j hj=>HK.out j (by omega)))
   go_wp2_with fail
   go_ret
   exact Ret.bool HR.out hx
def nomsOk (n1:Int) (ns:List Node) (ps:List Pipe) (xs:List Contract) (L:List Nomination):Bool:=netB ns ps&&bookB n1 xs&&nomsB xs L
theorem nomC_ok (n1:Int) (ns:List Node) (ps:List Pipe) (xs:List Contract) (L:List Nomination):(nomC n1 ns ps xs L==0)=nomsOk n1 ns ps xs L:=by
 unfold nomC bookC nomsOk
 cases netB ns ps <;> cases bookB n1 xs <;> cases nomsB xs L <;> simp
theorem c_AreNominations (A1 A2:Option Addr) (n1 c1 n2 c2:Nat) (ns:List Node) (ps:List Pipe) (A:Option Addr) (n c:Nat) (xs:List Contract) (B:Option Addr) (m d:Nat) (L:List Nomination) (w:World) (hs1:SliceOf w 3 Node.cells A1 n1 c1 ns) (hs2:SliceOf w 5 Pipe.cells A2 n2 c2 ps) (hs:SliceOf w 8 Contract.cells A n c xs) (hL:SliceOf w 4 Nomination.cells B m d L):
  Calls Tryz.prog 163 #[.agg #[.slice A1 n1 c1,.slice A2 n2 c2],.slice A n c,.slice B m d] w (Ret (.bool (nomsOk n1 ns ps xs L)) w):=by
 have HR:=hide (nomC_ok n1 ns ps xs L)
 go_enter Tryz.func163,Tryz.ntmps163
 go_wp2_with fail
 refine (c_checkNominations A1 A2 n1 c1 n2 c2 ns ps A n c xs B m d L _ (hs1.ext (Ext.alloc _ _)) (hs2.ext (Ext.alloc _ _)) (hs.ext (Ext.alloc _ _)) (hL.ext (Ext.alloc _ _))).mono ?_
 generalize nomC n1 ns ps xs L=z at *
 rintro e w1 ⟨rfl,hx1⟩
 go_wp2_with fail
 go_ret
 exact Ret.bool HR.out.symm hx1.box
end Go.Proofs.YtfkpghdmljjegaaGreat
namespace Go.Proofs.YtfkpghdmljjegaaGreat
open Go.RowKit
structure Reading where
 node:Int
 amount:Int
def Reading.cells (x:Reading):List Value:=[.int .i64 x.node,.int .i64 x.amount]
theorem reading_len (x:Reading):x.cells.length=2:=rfl
theorem reading_info:(Tryz.prog.info? 176).map (fun i=>(i.zero,i.size,i.bytes))=some (some (.agg #[.int .i64 0,.int .i64 0]),2,16):=by kernel_rfl
def markReading (a:Int) (n:Nat):List Reading:=(List.range n).map fun (i:Nat)=>⟨a+2*(i:Int),a+2*(i:Int)+1⟩
end Go.Proofs.YtfkpghdmljjegaaGreat
namespace Go.Proofs.YtfkpghdmljjegaaGreat
open Go.RowKit
def clash (x y:Reading):Bool:=(x.node==y.node)&&(decide (0<x.amount)==decide (0<y.amount))
def hasR (L:List Reading) (r:Reading):Bool:=L.any fun x=>clash x r
def readB (nn:Int) (r:Reading):Bool:=inB r.node 0 (nn-1)&&inB r.amount (-30000) 30000&& !(r.amount==0)
def readOkB (nn:Int) (L:List Reading) (i:Nat):Bool:=match L[i]? with
 | some r=>readB nn r&& !hasR (L.take i) r
 | none=>true
def readsB (nn:Int) (L:List Reading):Bool:=decide (L.length≤48)&&(List.range L.length).all (readOkB nn L)
theorem readOk_at {nn:Int} {L:List Reading} {k:Nat} {r:Reading} (h:L[k]? =some r):readOkB nn L k=(readB nn r&& !hasR (L.take k) r):=by unfold readOkB; rw [h]
theorem reads_no {nn:Int} {L:List Reading} {n k:Nat} (hn:n=L.length) (hk:k<n) (h:readOkB nn L k=false):readsB nn L=false:=by
 unfold readsB
 rw [all_range_false (by omega) h]; simp
theorem reads_yes {nn:Int} {L:List Reading} {n:Nat} (hn:n=L.length) (h48:n≤48) (h:∀j,j<n→readOkB nn L j=true):readsB nn L=true:=by
 subst hn
 unfold readsB
 rw [all_range_true h]; simp [h48]
theorem reads_long {nn:Int} {L:List Reading} {n:Nat} (hn:n=L.length) (h:¬n≤48):readsB nn L=false:=by
 subst hn
 unfold readsB; simp [h]
theorem read_ways (nn:Int) (r:Reading):(inB r.node 0 (nn-1)=false∧Hid (readB nn r=false))∨(inB r.node 0 (nn-1)=true∧inB r.amount (-30000) 30000=false∧Hid (readB nn r=false))∨
  (inB r.node 0 (nn-1)=true∧inB r.amount (-30000) 30000=true∧(r.amount==0)=true∧Hid (readB nn r=false))∨(inB r.node 0 (nn-1)=true∧inB r.amount (-30000) 30000=true∧(r.amount==0)=false∧Hid (readB nn r=true)):=by
 unfold readB Hid
 cases inB r.node 0 (nn-1) <;> cases inB r.amount (-30000) 30000 <;> cases (r.amount==0) <;> simp
def ReadIn (w:World) (b:Nat) (r:Reading):Prop:=b<w.heap.size∧w.cell? ⟨b,0,none⟩=some (.int .i64 r.node)∧w.cell? ⟨b,1,none⟩=some (.int .i64 r.amount)
theorem ReadIn.ext {w w':World} {b:Nat} {r:Reading} (h:ReadIn w b r) (hx:Ext w w'):ReadIn w' b r:=⟨Nat.lt_of_lt_of_le h.1 hx.size,(hx.cell _ _ h.1).trans h.2.1,(hx.cell _ _ h.1).trans h.2.2⟩
theorem ReadIn.new (w:World) (r:Reading):ReadIn (w.alloc (.cells #[.int .i64 r.node,.int .i64 r.amount] 176)) w.heap.size r:=⟨by simp,by simp [go_sem],by simp [go_sem]⟩
theorem c_clash (x r:Reading) (b:Nat) (w:World) (hb:ReadIn w b r):
  Calls Tryz.prog 274 #[.agg #[.int .i64 x.node,.int .i64 x.amount],.pointer (some ⟨b,0,none⟩)] w (Ret (.bool (clash x r)) w):=by
 obtain ⟨hb0,hb1,hb2⟩:=hb
 cases hn:(x.node==r.node)
 ·have HR:=hide (show clash x r=false by simp [clash,hn])
  go_enter Tryz.func274,Tryz.ntmps274
  go_wp2_with fail
  go_ret
  exact Ret.bool HR.out (Ext.alloc _ _)
 ·have HR:=hide (show clash x r=(decide (0<x.amount)==decide (0<r.amount)) by simp [clash,hn])
  go_enter Tryz.func274,Tryz.ntmps274
  go_wp2_with fail
  go_ret
  exact Ret.bool HR.out (Ext.alloc _ _)
set_option maxHeartbeats 1000000 in
theorem c_IndexRead (A:Option Addr) (n c:Nat) (L:List Reading) (r:Reading) (b:Nat) (w:World) (hs:SliceOf w 2 Reading.cells A n c L) (hb:ReadIn w b r):
  Calls Tryz.prog 299 #[.slice A n c,.func (.func 274) #[] #[.pointer (some ⟨b,0,none⟩)]] w (FoundN (hasR L r) w):=by
 have hm:=hs.max
 have hcap:=hs.cap
 go_enter Tryz.func299,Tryz.ntmps299
 go_wp2_with fail
 go_loopw [4,8] (fun q i wr=>∃k:Nat,k≤n∧q= .int .i64 0∧i= .int .i64 k∧Hid (∀(j:Nat) (p:Reading),j<k→L[j]? =some p→clash p r=false)∧Ext w wr) (fun _ i _=>n-(intOf i).toNat)
 case atStart=>exact ⟨0,Nat.zero_le _,rfl,rfl,hide (fun j p hj=>absurd hj (by omega)),Ext.refl _⟩
 case round=>
  obtain ⟨k,hk,rfl,rfl,HK,hx⟩:=hrel
  by_cases hlt:k<n
  ·obtain ⟨bb,off,p,rfl,hbb,hxk,hc⟩:=(hs.ext hx).get hlt
   have hc0:=hc 0 _ rfl
   have hc1:=hc 1 _ rfl
   clear hc
   simp only [Nat.add_zero] at hc0
   have HX:=hide hxk
   clear hxk
   have hbx:=hb.ext hx
   cases hp:clash p r
   ·go_wp2_with (go_at_call 274; refine (c_clash p r b _ hbx).mono ?_; rw [hp]; rintro e w1 ⟨rfl,hx1⟩)
    go_roundw
    case rel=>
     refine ⟨k+1,by omega,rfl,by go_num,hide fun j q hj hq=> ?_,hx.trans hx1⟩
     by_cases e:j=k
     ·subst e; rw [HX.out] at hq; injection hq with hq; subst hq; exact hp
     ·exact HK.out j q (by omega) hq
    case measure=>simp [intOf]; omega
   ·go_wp2_with (go_at_call 274; refine (c_clash p r b _ hbx).mono ?_; rw [hp]; rintro e w1 ⟨rfl,hx1⟩)
    go_ret
    refine ⟨k,rfl,?_,hx.trans hx1⟩
    have:hasR L r=true:=by rw [hasR,List.any_eq_true]; exact ⟨p,List.mem_of_getElem? HX.out,hp⟩
    rw [this]; simp
  ·go_wp2_with fail
   go_ret
   refine ⟨-1,rfl,?_,hx⟩
   have:hasR L r=false:=by
    rw [hasR,List.any_eq_false]; intro q hq
    obtain ⟨j,hj,rfl⟩:=List.mem_iff_getElem.1 hq
    simp [HK.out j _ (by have:=hs.len; omega) (List.getElem?_eq_getElem hj)]
   rw [this]; simp
theorem c_ContainsRead (A:Option Addr) (n c:Nat) (L:List Reading) (r:Reading) (b:Nat) (w:World) (hs:SliceOf w 2 Reading.cells A n c L) (hb:ReadIn w b r):
  Calls Tryz.prog 273 #[.slice A n c,.func (.func 274) #[] #[.pointer (some ⟨b,0,none⟩)]] w (Ret (.bool (hasR L r)) w):=by
 go_enter Tryz.func273,Tryz.ntmps273
 go_wp2_with fail
 refine (c_IndexRead A n c L r b _ hs hb).mono ?_
 rintro e w1 ⟨q,rfl,hr,hx1⟩
 have HR:=hide hr
 clear hr
 go_wp2_with fail
 go_ret
 exact Ret.bool HR.out.symm hx1
theorem c_checkNone (A1 A2:Option Addr) (n1 c1 n2 c2:Nat) (ns:List Node) (ps:List Pipe) (w:World) (hs1:SliceOf w 3 Node.cells A1 n1 c1 ns) (hs2:SliceOf w 5 Pipe.cells A2 n2 c2 ps):
  Calls Tryz.prog 197 #[.agg #[.slice A1 n1 c1,.slice A2 n2 c2],.slice none 0 0] w (Ret (.int .i64 (if netB ns ps=true then 0 else 1)) w):=by
 cases hN:netB ns ps
 ·rw [if_neg (by decide)]
  go_enter Tryz.func197,Tryz.ntmps197
  go_wp2_with fail
  refine (c_IsNetwork A1 A2 n1 c1 n2 c2 ns ps _ (hs1.ext (Ext.alloc _ _)) (hs2.ext (Ext.alloc _ _))).mono ?_
  rw [hN]
  rintro e w1 ⟨rfl,hx1⟩
  go_wp2_with fail
  go_ret
  exact Ret.int rfl hx1.box
 ·rw [if_pos rfl]
  go_enter Tryz.func197,Tryz.ntmps197
  go_wp2_with fail
  refine (c_IsNetwork A1 A2 n1 c1 n2 c2 ns ps _ (hs1.ext (Ext.alloc _ _)) (hs2.ext (Ext.alloc _ _))).mono ?_
  rw [hN]
  rintro e w1 ⟨rfl,hx1⟩
  go_wp2_with fail
  go_loopw [17] (fun i wr=>i= .int .i64 0∧wr=w1) (fun _ _=>0)
  case atStart=>exact ⟨rfl,rfl⟩
  case round=>
   obtain ⟨rfl,rfl⟩:=hrel
   go_wp2_with fail
   go_ret
   exact Ret.int rfl hx1.box
end Go.Proofs.YtfkpghdmljjegaaGreat
namespace Go.Proofs.YtfkpghdmljjegaaGreat
open Go.RowKit
set_option maxHeartbeats 4000000 in
theorem c_AreReadings (A1 A2:Option Addr) (n1 c1 n2 c2:Nat) (ns:List Node) (ps:List Pipe) (A:Option Addr) (n c:Nat) (L:List Reading) (w:World) (hs1:SliceOf w 3 Node.cells A1 n1 c1 ns) (hs2:SliceOf w 5 Pipe.cells A2 n2 c2 ps) (hs:SliceOf w 2 Reading.cells A n c L) (hN:netB ns ps=true):
  Calls Tryz.prog 227 #[.agg #[.slice A1 n1 c1,.slice A2 n2 c2],.slice none 0 0,.slice A n c] w (Ret (.int .i64 (if readsB n1 L=true then 0 else 3)) w):=by
 have hm1:=hs1.max
 have hp1:=hs1.cap
 have hm:=hs.max
 have hcap:=hs.cap
 have HL:=hide hs.len
 have HRy:=hide (show readsB n1 L=true→(if readsB n1 L=true then (0:Int) else 3)=0 by intro h; rw [if_pos h])
 have HRn:=hide (show readsB n1 L=false→(if readsB n1 L=true then (0:Int) else 3)=3 by intro h; rw [if_neg (by rw [h]; decide)])
 have HN:=hide hN
 clear hN
 generalize (if readsB n1 L=true then (0:Int) else 3)=Z at *
 by_cases h48:n≤48
 case neg=>
  have HR:=hide (HRn.out (reads_long HL.out h48))
  have h2':(48:Int)<n:=by omega
  go_enter Tryz.func227,Tryz.ntmps227
  go_wp2_with fail
  refine (c_checkNone A1 A2 n1 c1 n2 c2 ns ps _ (hs1.ext (Ext.alloc _ _)) (hs2.ext (Ext.alloc _ _))).mono ?_
  rw [if_pos HN.out]
  rintro e w1 ⟨rfl,hx1⟩
  go_wp2_with fail
  go_ret
  exact Ret.int HR.out hx1.box
 go_enter Tryz.func227,Tryz.ntmps227
 go_wp2_with fail
 refine (c_checkNone A1 A2 n1 c1 n2 c2 ns ps _ (hs1.ext (Ext.alloc _ _)) (hs2.ext (Ext.alloc _ _))).mono ?_
 rw [if_pos HN.out]
 rintro e w1 ⟨rfl,hx1⟩
 have hX1:NetBox w A1 A2 n1 c1 n2 c2 w1:=⟨hx1⟩
 clear hx1
 go_wp2_with fail
 go_loopw [21] (fun i wr=>∃k:Nat,k≤n∧i= .int .i64 k∧Hid (∀j,j<k→readOkB n1 L j=true)∧NetBox w A1 A2 n1 c1 n2 c2 wr) (fun i _=>n-(intOf i).toNat)
 case atStart=>exact ⟨0,Nat.zero_le _,rfl,hide (fun j hj=>absurd hj (by omega)),hX1⟩
 case round=>
  obtain ⟨k,hk,rfl,HK,hX⟩:=hrel
  clear hX1
  have hx:=hX.ext.box
  obtain ⟨x0,x1,hz⟩:=hX.cell
  by_cases hlt:k<n
  ·obtain ⟨bb,off,r,rfl,hbb,hxk,t⟩:=(hs.ext hx).get hlt
   have t0:=t 0 _ rfl
   have t1:=t 1 _ rfl
   simp only [Nat.add_zero] at t0
   clear t
   have HX:=hide (readOk_at (nn:=n1) hxk)
   clear hxk
   have hRI:=ReadIn.new wr r
   rcases read_ways n1 r with ⟨h1,HB⟩ | hways
   ·rw [HB] at HX
    have HR:=hide (HRn.out (reads_no HL.out hlt HX.out))
    go_wp2_with fail
    refine (c_isNodeOf A1 A2 n1 c1 n2 c2 r.node _ (by omega)).mono ?_
    rw [h1]
    rintro e w2 ⟨rfl,hx2⟩
    go_wp2_with fail
    go_ret
    exact Ret.int HR.out ((hx.and_alloc _).trans hx2)
   have h1:inB r.node 0 ((n1:Int)-1)=true:=by rcases hways with ⟨h,_⟩ | ⟨h,_⟩ | ⟨h,_⟩ <;> exact h
   have HWY:=hide hways
   clear hways
   go_wp2_with fail
   refine (c_isNodeOf A1 A2 n1 c1 n2 c2 r.node _ (by omega)).mono ?_
   rw [h1]
   rintro e w2 ⟨rfl,hx2⟩
   clear h1
   have hR2:=hRI.ext hx2
   obtain ⟨hl2,v0,v1⟩:=hR2
   have hX2:NetBox w A1 A2 n1 c1 n2 c2 w2:=⟨(hX.ext.and_alloc _).trans hx2⟩
   rcases HWY.out with ⟨_,h2,HB⟩ | ⟨_,h2,h3,HB⟩ | ⟨_,h2,h3,HB⟩
   ·rw [HB] at HX
    have HR:=hide (HRn.out (reads_no HL.out hlt HX.out))
    go_wp2_with (go_at_call 164; refine (c_within _ _ _ _).mono ?_; rintro e w' ⟨rfl,rfl⟩)
    go_ret
    exact Ret.int HR.out hX2.ext.box
   ·rw [HB] at HX
    have HR:=hide (HRn.out (reads_no HL.out hlt HX.out))
    go_wp2_with (go_at_call 164; refine (c_within _ _ _ _).mono ?_; rintro e w' ⟨rfl,rfl⟩)
    go_ret
    exact Ret.int HR.out hX2.ext.box
   ·rw [HB] at HX
    have hs2k:=(hs.ext hX2.ext.box).take (show k≤n by omega)
    go_wp2_with (go_at_call 164; refine (c_within _ _ _ _).mono ?_; rintro e w' ⟨rfl,rfl⟩)
    refine (c_ContainsRead _ k c (L.take k) r _ _ hs2k (hRI.ext hx2)).mono ?_
    cases hh:hasR (L.take k) r
    ·rw [hh] at HX
     have HO:=hide (all_upto HK.out HX.out)
     rintro e w3 ⟨rfl,hx3⟩
     go_wp2_with fail
     go_roundw
     case rel=>exact ⟨k+1,by omega,by go_num,HO,⟨hX2.ext.trans hx3⟩⟩
     case measure=>simp [intOf]; omega
    ·rw [hh] at HX
     have HR:=hide (HRn.out (reads_no HL.out hlt HX.out))
     rintro e w3 ⟨rfl,hx3⟩
     go_wp2_with fail
     go_ret
     exact Ret.int HR.out (hX2.ext.box.trans hx3)
  ·have HR:=hide (HRy.out (reads_yes HL.out h48 (fun j hj=>HK.out j (by omega))))
   go_wp2_with fail
   go_ret
   exact Ret.int HR.out hx
theorem hasR_true {L:List Reading} {k m:Nat} {r q:Reading} (hm:m<k) (hq:L[m]? =some q) (h:clash q r=true):hasR (L.take k) r=true:=by
 rw [hasR,List.any_eq_true]
 exact ⟨q,List.mem_of_getElem? (i:=m) (by rw [List.getElem?_take,if_pos hm]; exact hq),h⟩
theorem hasR_false {L:List Reading} {k:Nat} {r:Reading} (h:∀(j:Nat) (q:Reading),j<k→L[j]? =some q→clash q r=false):hasR (L.take k) r=false:=by
 rw [hasR,List.any_eq_false]
 intro q hq
 obtain ⟨j,hj,hje⟩:=List.mem_iff_getElem.1 hq
 have h1:(L.take k)[j]? =some q:=by rw [List.getElem?_eq_getElem hj,hje]
 rw [List.getElem?_take] at h1
 split at h1
 ·rename_i hjk
  rw [h j q hjk h1]; simp
 ·cases h1
theorem c_l05Flow (z:Int) (w:World):
  Calls Tryz.prog 206 #[.int .i64 z] w fun e w'=>e= .returned (.bool (inB z (-30000) 30000))∧w=w':=by
 go_enter Tryz.func206,Tryz.ntmps206
 go_wp2_with (go_at_call 169; refine (c_l01In _ _ _ _).mono ?_; rintro e w' ⟨rfl,rfl⟩)
 go_ret
 exact ⟨rfl,rfl⟩
theorem clash_ways (q r:Reading):((q.node==r.node)=false∧Hid (clash q r=false))∨((q.node==r.node)=true∧(decide (0<q.amount)==decide (0<r.amount))=false∧Hid (clash q r=false))∨
  ((q.node==r.node)=true∧(decide (0<q.amount)==decide (0<r.amount))=true∧Hid (clash q r=true)):=by
 unfold clash Hid
 cases (q.node==r.node) <;> cases (decide (0<q.amount)==decide (0<r.amount)) <;> simp
set_option maxHeartbeats 4000000 in
theorem c_l28List (A1 A2:Option Addr) (n1 c1 n2 c2:Nat) (A:Option Addr) (n c:Nat) (L:List Reading) (w:World) (hn1:n1≤9223372036854775807) (hs:SliceOf w 2 Reading.cells A n c L):
  Calls Tryz.prog 135 #[.agg #[.slice A1 n1 c1,.slice A2 n2 c2],.slice A n c] w (Ret (.bool (readsB n1 L)) w):=by
 have hm:=hs.max
 have hcap:=hs.cap
 have HL:=hide hs.len
 by_cases h48:n≤48
 case neg=>
  have HR:=hide (reads_long (nn:=n1) HL.out h48)
  have h2':(48:Int)<n:=by omega
  go_enter Tryz.func135,Tryz.ntmps135
  go_wp2_with fail
  go_ret
  exact Ret.bool HR.out (Ext.alloc _ _)
 go_enter Tryz.func135,Tryz.ntmps135
 go_wp2_with fail
 go_loopw [5] (fun i wr=>∃k:Nat,k≤n∧i= .int .i64 k∧Hid (∀j,j<k→readOkB n1 L j=true)∧NetBox w A1 A2 n1 c1 n2 c2 wr) (fun i _=>n-(intOf i).toNat)
 case atStart=>exact ⟨0,Nat.zero_le _,rfl,hide (fun j hj=>absurd hj (by omega)),⟨Ext.refl _⟩⟩
 case round=>
  obtain ⟨k,hk,rfl,HK,hX⟩:=hrel
  have hx:=hX.ext.box
  obtain ⟨x0,x1,hz⟩:=hX.cell
  by_cases hlt:k<n
  ·obtain ⟨bb,off,r,rfl,hbb,hxk,t⟩:=(hs.ext hx).get hlt
   have t0:=t 0 _ rfl
   have t1:=t 1 _ rfl
   simp only [Nat.add_zero] at t0
   clear t
   have HX:=hide (readOk_at (nn:=n1) hxk)
   clear hxk
   have hRI:=ReadIn.new wr r
   rcases read_ways n1 r with ⟨h1,HB⟩ | hways
   ·rw [HB] at HX
    have HR:=hide (reads_no HL.out hlt HX.out)
    go_wp2_with fail
    refine (c_l02Node A1 A2 n1 c1 n2 c2 r.node _ (by omega)).mono ?_
    rw [h1]
    rintro e w2 ⟨rfl,hx2⟩
    go_wp2_with fail
    go_ret
    exact Ret.bool HR.out ((hx.and_alloc _).trans hx2)
   have h1:inB r.node 0 ((n1:Int)-1)=true:=by rcases hways with ⟨h,_⟩ | ⟨h,_⟩ | ⟨h,_⟩ <;> exact h
   have HWY:=hide hways
   clear hways
   go_wp2_with fail
   refine (c_l02Node A1 A2 n1 c1 n2 c2 r.node _ (by omega)).mono ?_
   rw [h1]
   rintro e w2 ⟨rfl,hx2⟩
   clear h1
   have hR2:=hRI.ext hx2
   obtain ⟨hl2,v0,v1⟩:=hR2
   have hX2:NetBox w (A1) A2 n1 c1 n2 c2 w2:=⟨(hX.ext.and_alloc _).trans hx2⟩
   rcases HWY.out with ⟨_,h2,HB⟩ | ⟨_,h2,h3,HB⟩ | ⟨_,h2,h3,HB⟩
   ·rw [HB] at HX
    have HR:=hide (reads_no HL.out hlt HX.out)
    go_wp2_with (go_at_call 206; refine (c_l05Flow _ _).mono ?_; rintro e w' ⟨rfl,rfl⟩)
    go_ret
    exact Ret.bool HR.out hX2.ext.box
   ·rw [HB] at HX
    have HR:=hide (reads_no HL.out hlt HX.out)
    go_wp2_with (go_at_call 206; refine (c_l05Flow _ _).mono ?_; rintro e w' ⟨rfl,rfl⟩)
    go_ret
    exact Ret.bool HR.out hX2.ext.box
   ·rw [HB] at HX
    have hRr:=hRI.ext hx2
    go_wp2_with (go_at_call 206; refine (c_l05Flow _ _).mono ?_; rintro e w' ⟨rfl,rfl⟩)
    clear v0 v1 hl2 hx2 hx hX hRI t0 t1 x0 x1 hbb
    go_loopw [7] (fun i wx=>∃m:Nat,m≤k∧i= .int .i64 m∧Hid (∀(j:Nat) (q:Reading),j<m→L[j]? =some q→clash q r=false)∧NetBox w A1 A2 n1 c1 n2 c2 wx∧ReadIn wx wr.heap.size r) (fun i _=>k-(intOf i).toNat)
    case atStart=>exact ⟨0,Nat.zero_le _,rfl,hide (fun j q hj=>absurd hj (by omega)),hX2,hRr⟩
    case round=>
     obtain ⟨m,hm',rfl,HM,hX,hRx⟩:=hrel
     clear hX2 hRr
     have hx:=hX.ext.box
     obtain ⟨hl2,v0,v1⟩:=hRx
     by_cases hlt2:m<k
     ·have hmn:m<n:=by omega
      obtain ⟨b1,off1,q,hA1,hbb,hqm,hd⟩:=(hs.ext hx).get hmn
      simp only [Option.some.injEq,Addr.mk.injEq] at hA1
      obtain ⟨rfl,rfl,-⟩:=hA1
      have hd0:=hd 0 _ rfl
      have hd1:=hd 1 _ rfl
      simp only [Nat.add_zero] at hd0
      have HQ:=hide hqm
      clear hd hqm
      rcases clash_ways q r with ⟨hc1',HC⟩ | ⟨hc1',hc2',HC⟩ | ⟨hc1',hc2',HC⟩
      ·go_wp2_with fail
       refine wp_region_later (by kernel_rfl) (by kernel_rfl) ?_
       repeat (go_big_quiet_step (fail))
       refine wpQuiet_nil ?_
       intro w3 hx3
       go_wp2_with fail
       go_roundw
       case rel=>
        refine ⟨m+1,by omega,by go_num,hide fun j q' hj hq'=> ?_,⟨hX.ext.trans hx3⟩,ReadIn.ext ⟨hl2,v0,v1⟩ hx3⟩
        by_cases e:j=m
        ·subst e; rw [HQ.out] at hq'; injection hq' with hq'; subst hq'; exact HC
        ·exact HM.out j q' (by omega) hq'
       case measure=>simp [intOf]; omega
      ·go_wp2_with fail
       refine wp_region_later (by kernel_rfl) (by kernel_rfl) ?_
       repeat (go_big_quiet_step (fail))
       refine wpQuiet_nil ?_
       intro w3 hx3
       go_wp2_with fail
       go_roundw
       case rel=>
        refine ⟨m+1,by omega,by go_num,hide fun j q' hj hq'=> ?_,⟨hX.ext.trans hx3⟩,ReadIn.ext ⟨hl2,v0,v1⟩ hx3⟩
        by_cases e:j=m
        ·subst e; rw [HQ.out] at hq'; injection hq' with hq'; subst hq'; exact HC
        ·exact HM.out j q' (by omega) hq'
       case measure=>simp [intOf]; omega
      ·have hh:=hasR_true hlt2 HQ.out HC
       rw [hh] at HX
       have HR:=hide (reads_no HL.out hlt HX.out)
       clear hh
       go_wp2_with fail
       refine wp_region_later (by kernel_rfl) (by kernel_rfl) ?_
       repeat (go_big_quiet_step (fail))
       refine wpQuiet_nil ?_
       intro w3 hx3
       go_wp2_with fail
       go_ret
       exact Ret.bool HR.out (hx.trans hx3)
     ·have hh:=hasR_false (L:=L) (k:=k) (r:=r) (fun j q hj hq=>HM.out j q (by omega) hq)
      rw [hh] at HX
      have HO:=hide (all_upto HK.out HX.out)
      clear hh
      go_wp2_with fail
      go_roundw
      case rel=>exact ⟨k+1,by omega,by go_num,HO,hX⟩
      case measure=>simp [intOf]; omega
  ·have HR:=hide (reads_yes HL.out h48 (fun j hj=>HK.out j (by omega)))
   go_wp2_with fail
   go_ret
   exact Ret.bool HR.out hx
end Go.Proofs.YtfkpghdmljjegaaGreat
namespace Go.Proofs.YtfkpghdmljjegaaGreat
open Go.RowKit
structure RS where
 A:Option Addr
 n:Nat
 c:Nat
 xs:List Reading
def RS.cells (r:RS):List Value:=[.slice r.A r.n r.c]
theorem rs_len (r:RS):r.cells.length=1:=rfl
structure Room where
 ns:List Node
 ps:List Pipe
 xs:List Contract
 L:List Nomination
 rs:List RS
structure RoomAt (w:World) (A1 A2 A3 A4 A5:Option Addr) (n1 c1 n2 c2 n3 c3 n4 c4 n5 c5:Nat) (r:Room):Prop where
 s1:SliceOf w 3 Node.cells A1 n1 c1 r.ns
 s2:SliceOf w 5 Pipe.cells A2 n2 c2 r.ps
 s3:SliceOf w 8 Contract.cells A3 n3 c3 r.xs
 s4:SliceOf w 4 Nomination.cells A4 n4 c4 r.L
 s5:SliceOf w 1 RS.cells A5 n5 c5 r.rs
 s6:∀q∈r.rs,SliceOf w 2 Reading.cells q.A q.n q.c q.xs
section
variable {w w':World} {A1 A2 A3 A4 A5:Option Addr} {n1 c1 n2 c2 n3 c3 n4 c4 n5 c5:Nat} {r:Room}
theorem RoomAt.ext (h:RoomAt w A1 A2 A3 A4 A5 n1 c1 n2 c2 n3 c3 n4 c4 n5 c5 r) (hx:Ext w w'):RoomAt w' A1 A2 A3 A4 A5 n1 c1 n2 c2 n3 c3 n4 c4 n5 c5 r:=
 ⟨h.s1.ext hx,h.s2.ext hx,h.s3.ext hx,h.s4.ext hx,h.s5.ext hx,fun q hq=>(h.s6 q hq).ext hx⟩
end
structure RoomIn (w:World) (b:Nat) (A1 A2 A3 A4 A5:Option Addr) (n1 c1 n2 c2 n3 c3 n4 c4 n5 c5:Nat):Prop where
 lt:b<w.heap.size
 x0:w.cell? ⟨b,0,none⟩=some (.slice A1 n1 c1)
 x1:w.cell? ⟨b,1,none⟩=some (.slice A2 n2 c2)
 x2:w.cell? ⟨b,2,none⟩=some (.slice A3 n3 c3)
 x3:w.cell? ⟨b,3,none⟩=some (.slice A4 n4 c4)
 x4:w.cell? ⟨b,4,none⟩=some (.slice A5 n5 c5)
section
variable {w w':World} {b:Nat} {A1 A2 A3 A4 A5:Option Addr} {n1 c1 n2 c2 n3 c3 n4 c4 n5 c5:Nat}
theorem RoomIn.ext (h:RoomIn w b A1 A2 A3 A4 A5 n1 c1 n2 c2 n3 c3 n4 c4 n5 c5) (hx:Ext w w'):RoomIn w' b A1 A2 A3 A4 A5 n1 c1 n2 c2 n3 c3 n4 c4 n5 c5:=
 ⟨Nat.lt_of_lt_of_le h.lt hx.size,(hx.cell _ _ h.lt).trans h.x0,(hx.cell _ _ h.lt).trans h.x1,(hx.cell _ _ h.lt).trans h.x2,(hx.cell _ _ h.lt).trans h.x3,(hx.cell _ _ h.lt).trans h.x4⟩
end
theorem RoomIn.new (w:World) (A1 A2 A3 A4 A5:Option Addr) (n1 c1 n2 c2 n3 c3 n4 c4 n5 c5:Nat) (t:TypeId):RoomIn (w.alloc (.cells #[.slice A1 n1 c1,.slice A2 n2 c2,.slice A3 n3 c3,.slice A4 n4 c4,.slice A5 n5 c5] t)) w.heap.size A1 A2 A3 A4 A5 n1 c1 n2 c2 n3 c3 n4 c4 n5 c5:=by
 have hR:=Row.new w t [.slice A1 n1 c1,.slice A2 n2 c2,.slice A3 n3 c3,.slice A4 n4 c4,.slice A5 n5 c5]
 exact ⟨by simp,hR.cell 0,hR.cell 1,hR.cell 2,hR.cell 3,hR.cell 4⟩
def roomB (n1:Int) (r:Room):Bool:=nomsOk n1 r.ns r.ps r.xs r.L&&inB (r.rs.length:Int) 1 48&&r.rs.all (fun q=>readsB n1 q.xs)
theorem c_areReadings (A1 A2:Option Addr) (n1 c1 n2 c2:Nat) (ns:List Node) (ps:List Pipe) (A:Option Addr) (n c:Nat) (L:List Reading) (w:World) (hs1:SliceOf w 3 Node.cells A1 n1 c1 ns) (hs2:SliceOf w 5 Pipe.cells A2 n2 c2 ps) (hs:SliceOf w 2 Reading.cells A n c L) (hN:netB ns ps=true):
  Calls Tryz.prog 167 #[.agg #[.slice A1 n1 c1,.slice A2 n2 c2],.slice A n c] w (Ret (.bool (readsB n1 L)) w):=by
 cases hb:readsB n1 L
 ·go_enter Tryz.func167,Tryz.ntmps167
  go_wp2_with fail
  refine (c_AreReadings A1 A2 n1 c1 n2 c2 ns ps A n c L _ (hs1.ext (Ext.alloc _ _)) (hs2.ext (Ext.alloc _ _)) (hs.ext (Ext.alloc _ _)) hN).mono ?_
  rw [if_neg (by rw [hb]; decide)]
  rintro e w1 ⟨rfl,hx1⟩
  go_wp2_with fail
  go_ret
  exact Ret.bool rfl hx1.box
 ·go_enter Tryz.func167,Tryz.ntmps167
  go_wp2_with fail
  refine (c_AreReadings A1 A2 n1 c1 n2 c2 ns ps A n c L _ (hs1.ext (Ext.alloc _ _)) (hs2.ext (Ext.alloc _ _)) (hs.ext (Ext.alloc _ _)) hN).mono ?_
  rw [if_pos hb]
  rintro e w1 ⟨rfl,hx1⟩
  go_wp2_with fail
  go_ret
  exact Ret.bool rfl hx1.box
end Go.Proofs.YtfkpghdmljjegaaGreat
namespace Go.Proofs.YtfkpghdmljjegaaGreat
open Go.RowKit
end Go.Proofs.YtfkpghdmljjegaaGreat
namespace Go.Proofs.YtfkpghdmljjegaaGreat
open Go.RowKit
theorem node_info:(Tryz.prog.info? 223).map (fun i=>(i.zero,i.size,i.bytes))=some (some (.agg #[.string ByteArray.empty,.int .i64 0,.int .i64 0]),3,32):=by kernel_rfl
end Go.Proofs.YtfkpghdmljjegaaGreat
