/-
  What is settled in an hour, in plain Lean: its code, its transports, its orders.
-/
import Derived.Test.YtfkpghdmljjegaaGreatVd31
import Derived.Test.YtfkpghdmljjegaaGreatVd33
import Derived.Test.YtfkpghdmljjegaaGreatVd06
import Derived.Test.YtfkpghdmljjegaaGreatVd34
import Derived.Test.YtfkpghdmljjegaaGreatVd15
import Derived.Test.YtfkpghdmljjegaaGreatVd03
import Derived.Test.YtfkpghdmljjegaaGreatVd00
import Derived.Test.YtfkpghdmljjegaaGreatVd32
namespace Go.Proofs.YtfkpghdmljjegaaGreat
open Go.RowKit
def setC (n1:Int) (ns:List Node) (ps:List Pipe) (xs:List Contract) (L:List Nomination) (h:Int):Int:=
 if nomC n1 ns ps xs L=0 then (if inB h 0 47=false then 2 else if 20<xs.length then 7 else 0) else nomC n1 ns ps xs L
structure HrOk (n1:Nat) (ns:List Node) (ps:List Pipe) (xs:List Contract) (L:List Nomination) (h:Int):Prop where
 net:netB ns ps=true
 bk:bookB n1 xs=true
 nm:nomsB xs L=true
 hr:inB h 0 47=true
 le:xs.length≤20
theorem nomC_ok3 {n1:Int} {ns:List Node} {ps:List Pipe} {xs:List Contract} {L:List Nomination} (h:nomC n1 ns ps xs L=0):netB ns ps=true∧bookB n1 xs=true∧nomsB xs L=true:=by
 unfold nomC at h
 split at h
 ·rename_i h0
  obtain ⟨h1,h2⟩:=book_zero h0
  split at h
  ·cases h
  ·exact ⟨h1,h2,by simp_all⟩
 ·exact absurd h (by assumption)
theorem setC_ok {n1:Nat} {ns:List Node} {ps:List Pipe} {xs:List Contract} {L:List Nomination} {h:Int} (hz:setC n1 ns ps xs L h=0):HrOk n1 ns ps xs L h:=by
 unfold setC at hz
 split at hz
 ·rename_i h0
  obtain ⟨a,b,c⟩:=nomC_ok3 h0
  split at hz
  ·cases hz
  ·split at hz
   ·cases hz
   ·exact ⟨a,b,c,by simp_all,by omega⟩
 ·exact absurd hz (by assumption)
theorem con_facts {nn:Int} {xs:List Contract} (h:bookB nn xs=true):∀x∈xs,(0≤x.shipper∧x.shipper≤15)∧(0≤x.entry∧x.entry<nn)∧(0≤x.exit∧x.exit<nn)∧x.entry≠x.exit∧(1≤x.amount∧x.amount≤30000)∧(0≤x.cls∧x.cls≤3):=by
 intro x hx
 simp only [bookB,Bool.and_eq_true,List.all_eq_true] at h
 have:=h.2 x hx
 simp only [conB,Bool.and_eq_true,inB_true,bne_iff_ne,ne_eq,decide_eq_true_eq] at this
 omega
theorem nom_facts {nn:Int} {xs:List Contract} {L:List Nomination} (hb:bookB nn xs=true) (h:nomsB xs L=true):L.length≤200∧∀x∈L,(0≤x.contract∧x.contract<xs.length)∧(0≤x.amount∧x.amount≤30000):=by
 simp only [nomsB,Bool.and_eq_true,decide_eq_true_eq,List.all_eq_true] at h
 refine ⟨h.1,fun x hx=> ?_⟩
 obtain ⟨k,hk,rfl⟩:=List.mem_iff_getElem.1 hx
 have h1:=h.2 k (by simpa using hk)
 rw [nomOk_at (List.getElem?_eq_getElem hk),Bool.and_eq_true] at h1
 have h2:=h1.1
 unfold nomB at h2
 split at h2
 ·rename_i p hp
  have hpc:=(con_facts hb p (List.mem_of_getElem? hp)).2.2.2.2.1
  simp only [Bool.and_eq_true,inB_true] at h2
  omega
 ·cases h2
section
variable {n1:Nat} {xs:List Contract} {L:List Nomination}
theorem trn_ok (hb:bookB n1 xs=true) (hn:nomsB xs L=true) (h:Int):∀x∈trnL xs L h,TrnB n1 30000 x:=by
 intro x hx
 have ha:=amtL_in (nb:=xs.length) (h:=h) (fun y hy=>((nom_facts hb hn).2 y hy).2)
 obtain ⟨k,hk,rfl⟩:=List.mem_iff_getElem.1 hx
 unfold trnL at hk ⊢
 rw [List.length_zipWith] at hk
 rw [List.getElem_zipWith]
 have h1:=con_facts hb (xs[k]'(by omega)) (List.getElem_mem _)
 have h2:=ha ((amtL xs.length L h)[k]'(by omega)) (List.getElem_mem _)
 unfold trnOf
 exact ⟨h1.2.1,h1.2.2.1,h2,⟨h1.2.2.2.2.2.1,by have:=h1.2.2.2.2.2.2; show (xs[k]'(by omega)).cls<4; omega⟩⟩
end
noncomputable def lessT (ps:List Pipe) (N:Nat) (xs:List Contract) (L:List Nomination) (h:Int):List Trn:=(trnL xs L h).map (scaleT (scalesF (fitS ps N (trnL xs L h))))
noncomputable def hrSc (ps:List Pipe) (N:Nat) (xs:List Contract) (L:List Nomination) (h:Int):List Int:=scalesF (fitS ps N (trnL xs L h))
theorem hrSc_in (ps:List Pipe) (N:Nat) (xs:List Contract) (L:List Nomination) (h:Int):ScaleIn (hrSc ps N xs L h):=scK_in _ 4
theorem hrSc_len (ps:List Pipe) (N:Nat) (xs:List Contract) (L:List Nomination) (h:Int):(hrSc ps N xs L h).length=4:=(hrSc_in ps N xs L h).1
theorem lessT_len (ps:List Pipe) (N:Nat) (xs:List Contract) (L:List Nomination) (h:Int):(lessT ps N xs L h).length=xs.length:=by
 unfold lessT; rw [List.length_map,trnL_len]
theorem less_ok {n1:Nat} {ps:List Pipe} {xs:List Contract} {L:List Nomination} (hb:bookB n1 xs=true) (hn:nomsB xs L=true) (h:Int):∀x∈lessT ps n1 xs L h,TrnB n1 30000 x:=by
 intro x hx
 obtain ⟨y,hy,rfl⟩:=List.mem_map.1 hx
 exact scaleT_ok (trn_ok hb hn h y hy) (hrSc_in ps n1 xs L h)
noncomputable def hrOrd (ps:List Pipe) (N:Nat) (xs:List Contract) (L:List Nomination) (h:Int):List Order:=ordL xs ((lessT ps N xs L h).map Trn.amount)
theorem hrOrd_len (ps:List Pipe) (N:Nat) (xs:List Contract) (L:List Nomination) (h:Int):(hrOrd ps N xs L h).length=2*xs.length:=ordL_len _ _ (by rw [List.length_map,lessT_len])
end Go.Proofs.YtfkpghdmljjegaaGreat
namespace Go.Proofs.YtfkpghdmljjegaaGreat
structure Valid (band percent price:Int) (ts:List Tier):Prop where
 band0:0≤band
 band1:band≤1000000000
 per0:0≤percent
 per1:percent≤100
 pr0:0≤price
 pr1:price≤1000000
 len0:1≤ts.length
 len1:ts.length≤6
 at_:∀(k:Nat) (x:Tier),ts[k]? =some x→1≤x.upto∧x.upto≤1000000000∧0≤x.factor∧x.factor≤1000
 next:∀(k:Nat) (x y:Tier),ts[k]? =some x→ts[k+1]? =some y→x.upto<y.upto∧x.factor≤y.factor
theorem valid_of {band percent price:Int} {ts:List Tier} (h:isTermsB band percent price ts=true):Valid band percent price ts:=by
 unfold isTermsB at h
 simp only [Bool.and_eq_true,inB_true] at h
 obtain ⟨⟨⟨⟨h1,h2⟩,h3⟩,h4⟩,h5⟩:=h
 have hk:∀k,k<ts.length→tierOk ts k=true:=fun k hk=>List.all_eq_true.1 h5 k (by simpa using hk)
 refine ⟨h1.1,h1.2,h2.1,h2.2,h3.1,h3.2,by omega,by omega,?_,?_⟩
 ·intro k x hx
  have:=hk k (List.getElem?_eq_some_iff.1 hx).1
  unfold tierOk at this
  rw [hx] at this
  simp only [Bool.and_eq_true,inB_true] at this
  omega
 ·intro k x y hx hy
  have:=hk (k+1) (List.getElem?_eq_some_iff.1 hy).1
  unfold tierOk at this
  rw [hy] at this
  simp only [hx,stepOk,Bool.and_eq_true,decide_eq_true_eq] at this
  exact this.2
def chg (ex:Int):List Tier→Int→Int
 | [],_=>0
 | [x],b=>if b<ex then (ex-b)*x.factor else 0
 | x::y::r,b=>if b<min ex x.upto then (min ex x.upto-b)*x.factor+chg ex (y::r) (min ex x.upto) else chg ex (y::r) b
theorem chg_nil (ex b:Int):chg ex [] b=0:=rfl
theorem chg_last (ex b:Int) (x:Tier):chg ex [x] b=if b<ex then (ex-b)*x.factor else 0:=rfl
theorem chg_cons (ex b:Int) (x:Tier) (l:List Tier) (h:l≠[]):chg ex (x::l) b=if b<min ex x.upto then (min ex x.upto-b)*x.factor+chg ex l (min ex x.upto) else chg ex l b:=by
 cases l with
 | nil=>exact absurd rfl h
 | cons y r=>rfl
theorem chg_done (ex:Int) (l:List Tier) (b:Int) (h:ex≤b):chg ex l b=0:=by
 induction l with
 | nil=>rfl
 | cons x l ih=>
  by_cases hl:l=[]
  ·subst hl; rw [chg_last,if_neg (by omega)]
  ·rw [chg_cons _ _ _ _ hl,if_neg (by omega),ih]
theorem drop_at {ts:List Tier} {k:Nat} {x:Tier} (h:ts[k]? =some x):ts.drop k=x::ts.drop (k+1):=by
 obtain ⟨hk,rfl⟩:=List.getElem?_eq_some_iff.1 h
 exact List.drop_eq_getElem_cons hk
def chargeF (price:Int) (ts:List Tier) (ex:Int):Int:=(price*chg ex ts 0+99)/100
theorem charge_spec (s price:Int):s/100*price+(s % 100*price+99)/100=(price*s+99)/100:=by
 have h:price*s+99=(s % 100*price+99)+100*(s/100*price):=by
  have e:=Int.emod_add_mul_ediv s 100
  calc price*s+99=(s % 100+100*(s/100))*price+99:=by rw [e,Int.mul_comm]
   _=(s % 100*price+99)+100*(s/100*price):=by rw [Int.add_mul,Int.mul_assoc]; omega
 rw [h,Int.add_mul_ediv_left _ _ (by decide)]
 omega
end Go.Proofs.YtfkpghdmljjegaaGreat
namespace Go.Proofs.YtfkpghdmljjegaaGreat
open Go.RowKit
set_option maxHeartbeats 2000000 in
theorem c_specIsTerms (band percent price:Int) (A:Option Addr) (n c:Nat) (ts:List Tier) (w:World) (hs:SliceOf w 2 Tier.cells A n c ts):
  Calls Tryz.prog 133 #[.agg #[.int .i64 band,.int .i64 percent,.int .i64 price,.slice A n c]] w (Ret (.bool (isTermsB band percent price ts)) w):=by
 have HF:=hide (show isTermsB band percent price ts=(inB band 0 1000000000&&inB percent 0 100&&inB price 0 1000000&&inB n 1 6&&(List.range n).all (tierOk ts)) by rw [isTermsB,hs.1])
 generalize isTermsB band percent price ts=R at HF ⊢
 by_cases hg:inB band 0 1000000000=true∧inB percent 0 100=true∧inB price 0 1000000=true∧inB n 1 6=true
 ·obtain ⟨h1,h2,h3,h4⟩:=hg
  have hn:n≤6:=by simp [inB] at h4; omega
  have hn1:1≤n:=by simp [inB] at h4; omega
  have HR:=hide (show R=(List.range n).all (tierOk ts) by rw [HF.out]; simp [h1,h2,h3,h4])
  clear HF
  go_enter Tryz.func133,Tryz.ntmps133
  go_wp2_with (go_at_call 169; refine (c_l01In _ _ _ _).mono ?_; rintro e w' ⟨rfl,rfl⟩)
  go_loopw [2,3] (fun r i wr=>∃k:Nat,k≤n∧r= .bool false∧i= .int .i64 k∧Hid (∀j,j<k→tierOk ts j=true)∧Ext (w.alloc (.cells #[.int .i64 band,.int .i64 percent,.int .i64 price,.slice A n c] 73)) wr) (fun _ i _=>n-(intOf i).toNat)
  case atStart=>exact ⟨0,Nat.zero_le _,rfl,rfl,hide (fun j hj=>absurd hj (by omega)),Ext.refl _⟩
  case round=>
   obtain ⟨k,hk,rfl,rfl,HK,hx⟩:=hrel
   have hxs:=hx.size
   have hz:w.heap.size<wr.heap.size:=by simp at hxs; omega
   clear hxs
   have hbx3:wr.cell? ⟨w.heap.size,3,none⟩=some (.slice A n c):=by rw [hx.cell _ _ (by simp)]; simp
   have hx0:Ext w wr:=hx.box
   by_cases hlt:k<n
   ·have hs':=hs.ext hx0
    obtain ⟨b,off,x,rfl,hb,hxk,hc⟩:=hs'.get hlt
    have hc0:=hc 0 _ rfl
    have hc1:=hc 1 _ rfl
    clear hc
    simp only [Nat.add_zero] at hc0
    by_cases h0:0<k
    ·obtain ⟨y,hyk,hc⟩:=hs'.at_ (k:=k-1) (by omega)
     have hd0:=hc 0 _ rfl
     have hd1:=hc 1 _ rfl
     clear hc
     simp only [Nat.add_zero] at hd0
     have ways:=tier_ways hlt (tierOk_pos h0 hxk hyk)
     clear hxk hyk
     have e1:IntKind.i64.wrap (↑k-1)=(↑k-1):=IntWalk.i64_in _ (by omega)
     have e2:(0:Int)≤ ↑k-1:=by omega
     have e3:((k:Int)-1).toNat=k-1:=by omega
     rcases ways with ⟨g1,g2,g3,g4,HT⟩ | ⟨g1,HT⟩ | ⟨g1,g2,HT⟩ | ⟨g1,g2,g3,HT⟩ | ⟨g1,g2,g3,g4,HT⟩
     ·go_wp2_with (go_at_call 169; refine (c_l01In _ _ _ _).mono ?_; rintro e w' ⟨rfl,rfl⟩)
      go_quiet (fail)
      go_wp2
      go_roundw
      case rel=>exact ⟨k+1,by omega,rfl,by go_num,hide (all_upto HK.out HT.out),hx.drewN _⟩
      case measure=>simp [intOf]; omega
     ·go_wp2_with (go_at_call 169; refine (c_l01In _ _ _ _).mono ?_; rintro e w' ⟨rfl,rfl⟩)
      go_ret
      exact Ret.bool (HR.out.trans HT.out) hx0
     ·go_wp2_with (go_at_call 169; refine (c_l01In _ _ _ _).mono ?_; rintro e w' ⟨rfl,rfl⟩)
      go_ret
      exact Ret.bool (HR.out.trans HT.out) hx0
     all_goals
      go_wp2_with (go_at_call 169; refine (c_l01In _ _ _ _).mono ?_; rintro e w' ⟨rfl,rfl⟩)
      go_quiet (fail)
      go_wp2
      go_ret
      exact Ret.bool (HR.out.trans HT.out) (hx0.drewN _)
    ·have ways:=tier_ways0 hlt (tierOk_zero h0 hxk)
     clear hxk
     have h0':decide (0<k)=false:=by simpa using h0
     rcases ways with ⟨g1,g2,HT⟩ | ⟨g1,HT⟩ | ⟨g1,g2,HT⟩
     ·go_wp2_with (go_at_call 169; refine (c_l01In _ _ _ _).mono ?_; rintro e w' ⟨rfl,rfl⟩)
      go_quiet (fail)
      go_wp2
      go_roundw
      case rel=>exact ⟨k+1,by omega,rfl,by go_num,hide (all_upto HK.out HT.out),hx.drewN _⟩
      case measure=>simp [intOf]; omega
     all_goals
      go_wp2_with (go_at_call 169; refine (c_l01In _ _ _ _).mono ?_; rintro e w' ⟨rfl,rfl⟩)
      go_ret
      exact Ret.bool (HR.out.trans HT.out) hx0
   ·go_wp2
    go_ret
    exact Ret.bool (HR.out.trans (all_range_true (fun j hj=>HK.out j (by omega)))) hx0
 ·have hw:inB band 0 1000000000=false∨(inB band 0 1000000000=true∧inB percent 0 100=false)∨(inB band 0 1000000000=true∧inB percent 0 100=true∧inB price 0 1000000=false)∨(inB band 0 1000000000=true∧inB percent 0 100=true∧inB price 0 1000000=true∧inB n 1 6=false):=by
   revert hg; cases inB band 0 1000000000 <;> cases inB percent 0 100 <;> cases inB price 0 1000000 <;> cases inB n 1 6 <;> simp
  have HR:=hide (show R=false by rw [HF.out]; rcases hw with h | h | h | h <;> simp [h])
  clear HF hg
  rcases hw with g1 | ⟨g1,g2⟩ | ⟨g1,g2,g3⟩ | ⟨g1,g2,g3,g4⟩
  case' inr.inr.inr=>
   have hn:n<1∨(1≤n∧6<n):=by simp [inB] at g4; omega
   rcases hn with hn | ⟨hn,hn'⟩
  all_goals
   go_enter Tryz.func133,Tryz.ntmps133
   go_wp2_with (go_at_call 169; refine (c_l01In _ _ _ _).mono ?_; rintro e w' ⟨rfl,rfl⟩)
   go_ret
   exact Ret.bool HR.out (Ext.alloc _ _)
end Go.Proofs.YtfkpghdmljjegaaGreat
namespace Go.Proofs.YtfkpghdmljjegaaGreat
open Go.RowKit
theorem pay_bd {d price f:Int} (h0:0≤d) (h1:d≤1000000000) (p0:0≤price) (p1:price≤1000000) (f0:0≤f) (f1:f≤1000):
  0≤d*price∧d*price≤1000000000000000∧0≤d*price*f∧d*price*f≤d*1000000000:=by
 have a:=mul_bd 1000000000 1000000 h0 h1 p0 p1
 have b:d*price≤d*1000000:=Int.mul_le_mul_of_nonneg_left p1 h0
 have c:0≤d*price*f:=Int.mul_nonneg a.1 f0
 have e:d*price*f≤d*price*1000:=Int.mul_le_mul_of_nonneg_left f1 a.1
 refine ⟨a.1,a.2,c,?_⟩
 omega
theorem step_sum {price ex B S T:Int} {x:Tier} {l:List Tier} {U:Int} (hS:S+price*chg ex (x::l) B=T) (hU:(l=[]∧U=ex)∨(l≠[]∧U=min ex x.upto)) (hlt:B<U):
  S+(U-B)*price*x.factor+price*chg ex l U=T:=by
 have e:(U-B)*price*x.factor=price*((U-B)*x.factor):=by
  rw [Int.mul_comm (U-B) price,Int.mul_assoc]
 rcases hU with ⟨rfl,rfl⟩ | ⟨hl,rfl⟩
 ·rw [chg_last,if_pos hlt] at hS
  rw [chg_nil,e,Int.mul_zero]
  omega
 ·rw [chg_cons _ _ _ _ hl,if_pos hlt,Int.mul_add] at hS
  rw [e]
  omega
theorem stay_sum {price ex B S T:Int} {x:Tier} {l:List Tier} {U:Int} (hS:S+price*chg ex (x::l) B=T) (hU:(l=[]∧U=ex)∨(l≠[]∧U=min ex x.upto)) (hlt:¬B<U):
  S+price*chg ex l B=T:=by
 rcases hU with ⟨rfl,rfl⟩ | ⟨hl,rfl⟩
 ·rw [chg_last,if_neg hlt] at hS
  rw [chg_nil]; exact hS
 ·rw [chg_cons _ _ _ _ hl,if_neg hlt] at hS
  exact hS
set_option maxHeartbeats 2000000 in
theorem c_chargeFor (band percent price ex:Int) (A:Option Addr) (n c:Nat) (ts:List Tier) (w:World) (hs:SliceOf w 2 Tier.cells A n c ts) (V:Valid band percent price ts) (h0:0≤ex) (h1:ex≤1000000000):
  Calls Tryz.prog 200 #[.agg #[.int .i64 band,.int .i64 percent,.int .i64 price,.slice A n c],.int .i64 ex] w (Ret (.int .i64 (chargeF price ts ex)) w):=by
 have hn:n≤6:=by rw [hs.len]; exact V.len1
 have hn1:1≤n:=by rw [hs.len]; exact V.len0
 have hp0:=V.pr0
 have hp1:=V.pr1
 have HR:=hide (show chargeF price ts ex=(price*chg ex ts 0+99)/100 from rfl)
 generalize chargeF price ts ex=R at HR ⊢
 go_enter Tryz.func200,Tryz.ntmps200
 go_wp2_with fail
 go_loopw [5,6,13] (fun s b i wr=>∃(k:Nat) (S B:Int),k≤n∧s= .int .i64 S∧b= .int .i64 B∧i= .int .i64 k∧0≤B∧B≤ex∧0≤S∧S≤B*1000000000∧Hid (S+price*chg ex (ts.drop k) B=price*chg ex ts 0)∧Ext (w.alloc (.cells #[.int .i64 band,.int .i64 percent,.int .i64 price,.slice A n c] 73)) wr) (fun _ _ i _=>n-(intOf i).toNat)
 case atStart=>exact ⟨0,0,0,Nat.zero_le _,rfl,rfl,rfl,by omega,by omega,by omega,by omega,hide (by simp),Ext.refl _⟩
 case round=>
  obtain ⟨k,S,B,hk,rfl,rfl,rfl,hB0,hB1,hS0,hS1,HS,hx⟩:=hrel
  have hxs:=hx.size
  have hz:w.heap.size<wr.heap.size:=by simp at hxs; omega
  clear hxs
  have hbx2:wr.cell? ⟨w.heap.size,2,none⟩=some (.int .i64 price):=by rw [hx.cell _ _ (by simp)]; simp
  have hbx3:wr.cell? ⟨w.heap.size,3,none⟩=some (.slice A n c):=by rw [hx.cell _ _ (by simp)]; simp
  by_cases hlt:k<n
  ·obtain ⟨b,off,x,rfl,hb,hxk,hc⟩:=(hs.ext hx.box).get hlt
   have hc0:=hc 0 _ rfl
   have hc1:=hc 1 _ rfl
   clear hc
   simp only [Nat.add_zero] at hc0
   obtain ⟨hu0,hu1,hf0,hf1⟩:=V.at_ k x hxk
   have HS2:=hide (show S+price*chg ex (x::ts.drop (k+1)) B=price*chg ex ts 0 by rw [←drop_at hxk]; exact HS.out)
   have HD:=hide (show ts.drop (k+1)=[]↔k+1=n by rw [List.drop_eq_nil_iff, ←hs.len]; omega)
   clear HS hxk
   have key:∃U:Int,((k+1=n∧U=ex)∨(k+1<n∧U=min ex x.upto)):=by
    by_cases e:k+1=n
    ·exact ⟨ex,.inl ⟨e,rfl⟩⟩
    ·exact ⟨_,.inr ⟨by omega,rfl⟩⟩
   obtain ⟨U,hU⟩:=key
   have HU:=hide (show (ts.drop (k+1)=[]∧U=ex)∨(ts.drop (k+1)≠[]∧U=min ex x.upto) by
    rcases hU with ⟨e,h⟩ | ⟨e,h⟩
    ·exact .inl ⟨HD.out.2 e,h⟩
    ·exact .inr ⟨fun h'=>by have:=HD.out.1 h'; omega,h⟩)
   have hU1:U≤ex:=by omega
   have hpay:=pay_bd (d:=U-B) (price:=price) (f:=x.factor)
   have HN:Hid (B<U→S+(U-B)*price*x.factor+price*chg ex (ts.drop (k+1)) U=price*chg ex ts 0):=hide (step_sum HS2.out HU.out)
   have HN':Hid (¬B<U→S+price*chg ex (ts.drop (k+1)) B=price*chg ex ts 0):=hide (stay_sum HS2.out HU.out)
   clear HS2 HD HU
   by_cases hBU:B<U
   ·obtain ⟨q1,q2,q3,q4⟩:=hpay (by omega) (by omega) hp0 hp1 hf0 hf1
    have HN2:=hide (HN.out hBU)
    clear HN HN' hpay
    rcases hU with ⟨e1,e2⟩ | ⟨e1,e2⟩
    ·have hl:((k:Int)==(n:Int)-1)=true:=by simp; omega
     subst e2
     clear e1
     go_wp2_with fail
     all_goals
      go_roundw
      case rel=>exact ⟨k+1,_,_,by omega,rfl,rfl,by go_num,by omega,by omega,by omega,by omega,HN2,hx.and_alloc _⟩
      case measure=>simp [intOf]; omega
    ·have hl:((k:Int)==(n:Int)-1)=false:=by simp; omega
     by_cases hm:ex≤x.upto
     ·have e3:U=ex:=by omega
      clear e2
      subst e3
      go_wp2_with fail
      go_roundw
      case rel=>exact ⟨k+1,_,_,by omega,rfl,rfl,by go_num,by omega,by omega,by omega,by omega,HN2,hx.and_alloc _⟩
      case measure=>simp [intOf]; omega
     ·have e3:U=x.upto:=by omega
      clear e2
      subst e3
      go_wp2_with fail
      go_roundw
      case rel=>exact ⟨k+1,_,_,by omega,rfl,rfl,by go_num,by omega,by omega,by omega,by omega,HN2,hx.and_alloc _⟩
      case measure=>simp [intOf]; omega
   ·have HN2:=hide (HN'.out hBU)
    clear HN HN' hpay
    rcases hU with ⟨e1,e2⟩ | ⟨e1,e2⟩
    ·have hl:((k:Int)==(n:Int)-1)=true:=by simp; omega
     subst e2
     clear e1
     go_wp2_with fail
     all_goals
      go_roundw
      case rel=>exact ⟨k+1,_,_,by omega,rfl,rfl,by go_num,by omega,by omega,by omega,by omega,HN2,hx.and_alloc _⟩
      case measure=>simp [intOf]; omega
    ·have hl:((k:Int)==(n:Int)-1)=false:=by simp; omega
     go_wp2_with fail
     all_goals
      go_roundw
      case rel=>exact ⟨k+1,_,_,by omega,rfl,rfl,by go_num,by omega,by omega,by omega,by omega,HN2,hx.and_alloc _⟩
      case measure=>simp [intOf]; omega
  ·go_wp2_with fail
   go_ret
   refine Ret.int ?_ hx.box
   have:=HS.out
   rw [List.drop_of_length_le (by have:=hs.len; omega),chg_nil] at this
   rw [HR.out, ←this,Int.mul_zero,Int.add_zero]
end Go.Proofs.YtfkpghdmljjegaaGreat
namespace Go.Proofs.YtfkpghdmljjegaaGreat
open Go.RowKit
theorem step_sum1 {ex B S T:Int} {x:Tier} {l:List Tier} {U:Int} (hS:S+chg ex (x::l) B=T) (hU:(l=[]∧U=ex)∨(l≠[]∧U=min ex x.upto)) (hlt:B<U):
  S+(U-B)*x.factor+chg ex l U=T:=by
 rcases hU with ⟨rfl,rfl⟩ | ⟨hl,rfl⟩
 ·rw [chg_last,if_pos hlt] at hS
  rw [chg_nil]
  omega
 ·rw [chg_cons _ _ _ _ hl,if_pos hlt] at hS
  omega
set_option maxHeartbeats 2000000 in
theorem c_l29Charge (band percent price ex:Int) (A:Option Addr) (n c:Nat) (ts:List Tier) (w:World) (hs:SliceOf w 2 Tier.cells A n c ts) (V:Valid band percent price ts) (h0:0≤ex) (h1:ex≤1000000000):
  Calls Tryz.prog 208 #[.agg #[.int .i64 band,.int .i64 percent,.int .i64 price,.slice A n c],.int .i64 ex] w (Ret (.int .i64 (chargeF price ts ex)) w):=by
 have hn:n≤6:=by rw [hs.len]; exact V.len1
 have hn1:1≤n:=by rw [hs.len]; exact V.len0
 have hp0:=V.pr0
 have hp1:=V.pr1
 have HR:=hide (show chargeF price ts ex=chg ex ts 0/100*price+(chg ex ts 0 % 100*price+99)/100 from (charge_spec _ _).symm)
 generalize chargeF price ts ex=R at HR ⊢
 have fin:∀s:Int,0≤s→s≤1000000000000→0≤s/100*price∧s/100*price≤10000000000*1000000∧0≤s % 100*price∧s % 100*price≤100*1000000:=by
  intro s s0 s1
  have a:=mul_bd (a:=s/100) (b:=price) 10000000000 1000000 (by omega) (by omega) hp0 hp1
  have b:=mul_bd (a:=s % 100) (b:=price) 100 1000000 (by omega) (by omega) hp0 hp1
  exact ⟨a.1,a.2,b.1,b.2⟩
 have FIN:=hide fin
 clear fin
 go_enter Tryz.func208,Tryz.ntmps208
 go_wp2_with fail
 go_loop [5,6,7] (fun s b i=>∃(k:Nat) (S B:Int),k≤n∧s= .int .i64 S∧b= .int .i64 B∧i= .int .i64 k∧0≤B∧B≤ex∧0≤S∧S≤B*1000∧Hid (S+chg ex (ts.drop k) B=chg ex ts 0)∧Hid (B<ex→∀x,ts[k]? =some x→B<x.upto)) (fun _ _ i=>n-(intOf i).toNat)
 case atStart=>exact ⟨0,0,0,Nat.zero_le _,rfl,rfl,rfl,by omega,by omega,by omega,by omega,hide (by simp),hide (fun _ x hx=>by have:=V.at_ 0 x hx; omega)⟩
 case round=>
  obtain ⟨k,S,B,hk,rfl,rfl,rfl,hB0,hB1,hS0,hS1,HS,HU⟩:=hrel
  by_cases hlt:k<n
  ·by_cases hBe:B<ex
   ·obtain ⟨b,off,x,rfl,hb,hxk,hc⟩:=hs.get hlt
    have hc0:=hc 0 _ rfl
    have hc1:=hc 1 _ rfl
    clear hc
    simp only [Nat.add_zero] at hc0
    obtain ⟨hu0,hu1,hf0,hf1⟩:=V.at_ k x hxk
    have hBx:=HU.out hBe x hxk
    have HS2:=hide (show S+chg ex (x::ts.drop (k+1)) B=chg ex ts 0 by rw [←drop_at hxk]; exact HS.out)
    have HD:=hide (show ts.drop (k+1)=[]↔k+1=n by rw [List.drop_eq_nil_iff, ←hs.len]; omega)
    have HX:=hide hxk
    clear HS HU hxk
    have key:∃U:Int,((k+1=n∧U=ex)∨(k+1<n∧U=min ex x.upto)):=by
     by_cases e:k+1=n
     ·exact ⟨ex,.inl ⟨e,rfl⟩⟩
     ·exact ⟨_,.inr ⟨by omega,rfl⟩⟩
    obtain ⟨U,hU⟩:=key
    have hBU:B<U:=by omega
    have hU1:U≤ex:=by omega
    have HN:=hide (step_sum1 HS2.out (show (ts.drop (k+1)=[]∧U=ex)∨(ts.drop (k+1)≠[]∧U=min ex x.upto) by
     rcases hU with ⟨e,h⟩ | ⟨e,h⟩
     ·exact .inl ⟨HD.out.2 e,h⟩
     ·exact .inr ⟨fun h'=>by have:=HD.out.1 h'; omega,h⟩) hBU)
    have HV:=hide (show U<ex→∀y,ts[k+1]? =some y→U<y.upto by
     intro hUe y hy
     have:=V.next k x y HX.out hy
     omega)
    have q1:0≤(U-B)*x.factor:=Int.mul_nonneg (by omega) hf0
    have q2:(U-B)*x.factor≤(U-B)*1000:=Int.mul_le_mul_of_nonneg_left hf1 (by omega)
    clear HS2 HD HX
    rcases hU with ⟨e1,e2⟩ | ⟨e1,e2⟩
    ·have hl:((k:Int)==(n:Int)-1)=true:=by simp; omega
     subst e2
     clear e1
     go_wp2_with fail
     all_goals
      go_round
      case rel=>exact ⟨k+1,_,_,by omega,rfl,rfl,by go_num,by omega,by omega,by omega,by omega,HN,HV⟩
      case measure=>simp [intOf]; omega
    ·have hl:((k:Int)==(n:Int)-1)=false:=by simp; omega
     by_cases hm:ex≤x.upto
     ·have e3:U=ex:=by omega
      clear e2
      subst e3
      go_wp2_with fail
      go_round
      case rel=>exact ⟨k+1,_,_,by omega,rfl,rfl,by go_num,by omega,by omega,by omega,by omega,HN,HV⟩
      case measure=>simp [intOf]; omega
     ·have e3:U=x.upto:=by omega
      clear e2
      subst e3
      go_wp2_with fail
      go_round
      case rel=>exact ⟨k+1,_,_,by omega,rfl,rfl,by go_num,by omega,by omega,by omega,by omega,HN,HV⟩
      case measure=>simp [intOf]; omega
   ·obtain ⟨r1,r2,r3,r4⟩:=FIN.out S hS0 (by omega)
    have hBe':decide (B<ex)=false:=by simpa using hBe
    go_wp2_with fail
    go_ret
    refine Ret.int ?_ (Ext.alloc _ _)
    have:=HS.out
    rw [chg_done _ _ _ (by omega),Int.add_zero] at this
    rw [HR.out, ←this]
  ·obtain ⟨r1,r2,r3,r4⟩:=FIN.out S hS0 (by omega)
   go_wp2_with fail
   go_ret
   refine Ret.int ?_ (Ext.alloc _ _)
   have:=HS.out
   rw [List.drop_of_length_le (by have:=hs.len; omega),chg_nil,Int.add_zero] at this
   rw [HR.out, ←this]
end Go.Proofs.YtfkpghdmljjegaaGreat
namespace Go.Proofs.YtfkpghdmljjegaaGreat
open Go.RowKit
structure Posting where
 debit:Int
 credit:Int
 gas:Int
 money:Int
def Posting.cells (p:Posting):List Value:=[.int .i64 p.debit,.int .i64 p.credit,.int .i64 p.gas,.int .i64 p.money]
theorem post_len (p:Posting):p.cells.length=4:=rfl
end Go.Proofs.YtfkpghdmljjegaaGreat
namespace Go.Proofs.YtfkpghdmljjegaaGreat
open Go.RowKit
end Go.Proofs.YtfkpghdmljjegaaGreat
namespace Go.Proofs.YtfkpghdmljjegaaGreat
open Go.RowKit
theorem posting_info:(Tryz.prog.info? 188).map (fun i=>(i.zero,i.size,i.bytes))=some (some (.agg #[.int .i64 0,.int .i64 0,.int .i64 0,.int .i64 0]),4,32):=by kernel_rfl
end Go.Proofs.YtfkpghdmljjegaaGreat
namespace Go.Proofs.YtfkpghdmljjegaaGreat
open Go.RowKit
theorem ordL_mem {xs:List Contract} {am:List Int} {o:Order} (h:o∈ordL xs am):∃c a,c∈xs∧a∈am∧(o=⟨c.shipper,c.entry,a,c.cls⟩∨o=⟨c.shipper,c.exit,-a,c.cls⟩):=by
 unfold ordL at h
 obtain ⟨l,hl,ho⟩:=List.mem_flatten.1 h
 obtain ⟨k,hk,rfl⟩:=List.mem_iff_getElem.1 hl
 rw [List.length_zipWith] at hk
 rw [List.getElem_zipWith] at ho
 refine ⟨xs[k]'(by omega),am[k]'(by omega),List.getElem_mem _,List.getElem_mem _,?_⟩
 simpa [ordC2] using ho
theorem hrOrd_ok {n1:Nat} {ps:List Pipe} {xs:List Contract} {L:List Nomination} (hb:bookB n1 xs=true) (hn:nomsB xs L=true) (h:Int):∀o∈hrOrd ps n1 xs L h,(0≤o.shipper∧o.shipper≤15)∧(0≤o.node∧o.node<n1)∧(-30000≤o.amount∧o.amount≤30000)∧(0≤o.cls∧o.cls≤3):=by
 intro o ho
 obtain ⟨c,a,hc,ha,he⟩:=ordL_mem ho
 have h1:=con_facts hb c hc
 obtain ⟨x,hx,rfl⟩:=List.mem_map.1 ha
 have h2:=(less_ok hb hn h x hx).2.2.1
 rcases he with rfl | rfl <;> simp only <;> omega
theorem own_blk {A:Option Addr} {n c b:Nat} (h:blkOf A n=some b):(Value.slice A n c).ownBlock=some b:=by
 unfold blkOf at h
 split at h
 ·cases h
 ·cases A with
  | none=>cases h
  | some a=>simpa [Value.ownBlock] using h
def accAt (l:List Int) (k:Nat) (v:Int):List Int:=l.set k (zAt l k+v)
def accL (f:Int→Int) (os:List Order) (g:List Int):Nat→List Int
 | 0=>List.replicate 16 0
 | j+1=>match os[j]?,g[j]? with
  | some o,some z=>accAt (accL f os g j) o.shipper.toNat (f z)
  | _,_=>accL f os g j
theorem accL_len (f:Int→Int) (os:List Order) (g:List Int):∀j:Nat,(accL f os g j).length=16
 | 0=>by simp [accL]
 | j+1=>by
  simp only [accL]
  split
  ·rw [accAt,List.length_set]; exact accL_len f os g j
  ·exact accL_len f os g j
theorem accL_step {f:Int→Int} {os:List Order} {g:List Int} {j:Nat} {o:Order} {z:Int} (ho:os[j]? =some o) (hg:g[j]? =some z):accL f os g (j+1)=accAt (accL f os g j) o.shipper.toNat (f z):=by
 simp only [accL,ho,hg]
theorem accL_bd {f:Int→Int} {os:List Order} {g:List Int} {B:Int} (hB:0≤B) (hf:∀z∈g,-B≤f z∧f z≤B):∀j:Nat,∀y∈accL f os g j,-(B*j)≤y∧y≤B*j
 | 0,y,hy=>by
  have:=List.eq_of_mem_replicate (show y∈List.replicate 16 0 from hy)
  simp; omega
 | j+1,y,hy=>by
  have ih:=accL_bd (os:=os) hB hf j
  have e:B*((j+1:Nat):Int)=B*j+B:=by rw [Int.natCast_succ,Int.mul_add,Int.mul_one]
  have h0:0≤B*(j:Int):=Int.mul_nonneg hB (by omega)
  rw [e]
  simp only [accL] at hy
  split at hy
  ·rename_i o z _ hz
   have hz':=hf z (List.mem_of_getElem? hz)
   rcases List.mem_or_eq_of_mem_set hy with hy | rfl
   ·have:=ih y hy; omega
   ·have:=zAt_in (by omega) h0 ih o.shipper.toNat; omega
  ·have:=ih y hy; omega
theorem accL_nn {os:List Order} {g:List Int}:∀j:Nat,∀y∈accL pos0 os g j,0≤y
 | 0,y,hy=>by have:=List.eq_of_mem_replicate (show y∈List.replicate 16 0 from hy); omega
 | j+1,y,hy=>by
  have ih:=accL_nn (os:=os) (g:=g) j
  simp only [accL] at hy
  split at hy
  ·rename_i o z _ hz
   rcases List.mem_or_eq_of_mem_set hy with hy | rfl
   ·exact ih y hy
   ·have h1:0≤pos0 z:=by unfold pos0; split <;> omega
    have h2:0≤zAt (accL pos0 os g j) o.shipper.toNat:=by
     unfold zAt
     cases hq:(accL pos0 os g j)[o.shipper.toNat]? with
     | none=>simp
     | some q=>exact ih q (List.mem_of_getElem? hq)
    omega
  ·exact ih y hy
theorem excS_bd {band percent bal thr m:Int} (h:0≤tolF band percent thr) (h4: -m≤bal) (h4':bal≤m): -m≤excF band percent bal thr∧excF band percent bal thr≤m:=by
 unfold excF; (repeat' split) <;> omega
def feeK (band percent price:Int) (ts:List Tier) (C T:List Int) (k:Nat):Int:=chargeF price ts (absI (excF band percent (zAt C k) (zAt T k)))
def postsK (band percent price:Int) (ts:List Tier) (C T:List Int) (k:Nat):List Posting:=
 (if zAt C k≠0 then [⟨k,16,zAt C k,0⟩] else [])++(if feeK band percent price ts C T k≠0 then [⟨17,k,0,feeK band percent price ts C T k⟩] else [])
def postsL (band percent price:Int) (ts:List Tier) (C T:List Int):Nat→List Posting
 | 0=>[]
 | k+1=>postsL band percent price ts C T k++postsK band percent price ts C T k
theorem postsK_len (band percent price:Int) (ts:List Tier) (C T:List Int) (k:Nat):(postsK band percent price ts C T k).length≤2:=by
 unfold postsK
 split <;> split <;> simp
theorem postsL_len (band percent price:Int) (ts:List Tier) (C T:List Int):∀k:Nat,(postsL band percent price ts C T k).length≤2*k
 | 0=>by simp [postsL]
 | k+1=>by
  simp only [postsL,List.length_append]
  have:=postsL_len band percent price ts C T k
  have:=postsK_len band percent price ts C T k
  omega
open Classical in
noncomputable def gotOf (os:List Order) (rs:List Reading):List Int:=if h:∃g,Alloc os (List.replicate os.length 0) rs g then Classical.choose h else []
theorem gotOf_eq {os:List Order} {rs:List Reading} {g:List Int} (h:Alloc os (List.replicate os.length 0) rs g):gotOf os rs=g:=by
 have hx:∃g,Alloc os (List.replicate os.length 0) rs g:=⟨g,h⟩
 unfold gotOf
 rw [dif_pos hx]
 exact Alloc.uniq (Classical.choose_spec hx) h
structure Stl where
 sc:List Int
 os:List Order
 got:List Int
 chg:List Int
 psn:List Posting
def stlOf (sc:List Int) (os:List Order) (g:List Int) (band percent price:Int) (ts:List Tier):Stl:=
 ⟨sc,os,g,accL id os g os.length,postsL band percent price ts (accL id os g os.length) (accL pos0 os g os.length) 16⟩
noncomputable def stlH (ps:List Pipe) (N:Nat) (xs:List Contract) (L:List Nomination) (h:Int) (rd:List Reading) (band percent price:Int) (ts:List Tier):Stl:=
 stlOf (hrSc ps N xs L h) (hrOrd ps N xs L h) (gotOf (hrOrd ps N xs L h) rd) band percent price ts
def zeroS:Stl:=⟨[],[],[],[],[]⟩
end Go.Proofs.YtfkpghdmljjegaaGreat
