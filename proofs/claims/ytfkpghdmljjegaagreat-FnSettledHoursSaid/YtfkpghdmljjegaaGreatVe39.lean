/-
  The charge: chargeFor of the program, l29Charge of the reference.
-/
import Derived.Test.YtfkpghdmljjegaaGreatVe38
import Derived.Test.YtfkpghdmljjegaaGreatVe29
import Derived.Test.YtfkpghdmljjegaaGreatVe17
namespace Go.Proofs.YtfkpghdmljjegaaGreat
open Go.RowKit
theorem pay_bd {d price f:Int} (h0:0≤d) (h1:d≤1000000000) (p0:0≤price) (p1:price≤1000000) (f0:0≤f) (f1:f≤1000):
  0≤d*price∧d*price≤1000000000000000∧0≤d*price*f∧d*price*f≤d*1000000000:=by
 have a:=mul_bd 1000000000 1000000 h0 h1 p0 p1
 have b:d*price≤d*1000000:=Int.mul_le_mul_of_nonneg_left p1 h0
 have c:0≤d*price*f:=Int.mul_nonneg a.1 f0
 have e:d*price*f≤d*price*1000:=Int.mul_le_mul_of_nonneg_left f1 a.1
 refine ⟨a.1,a.2,c,?_⟩
 omega
theorem step_sum {price ex B S T:Int} {x:Tier} {l:List Tier} {U:Int} (hS:S+price*chg ex (x::l) B=T) (hU:(l=[]∧U=ex)∨(l≠[]∧U=min ex x.upto)) (hlt:B<U):
  S+(U-B)*price*x.factor+price*chg ex l U=T:=by
 have e:(U-B)*price*x.factor=price*((U-B)*x.factor):=by
  rw [Int.mul_comm (U-B) price,Int.mul_assoc]
 rcases hU with ⟨rfl,rfl⟩ | ⟨hl,rfl⟩
 ·rw [chg_last,if_pos hlt] at hS
  rw [chg_nil,e,Int.mul_zero]
  omega
 ·rw [chg_cons _ _ _ _ hl,if_pos hlt,Int.mul_add] at hS
  rw [e]
  omega
theorem stay_sum {price ex B S T:Int} {x:Tier} {l:List Tier} {U:Int} (hS:S+price*chg ex (x::l) B=T) (hU:(l=[]∧U=ex)∨(l≠[]∧U=min ex x.upto)) (hlt:¬B<U):
  S+price*chg ex l B=T:=by
 rcases hU with ⟨rfl,rfl⟩ | ⟨hl,rfl⟩
 ·rw [chg_last,if_neg hlt] at hS
  rw [chg_nil]; exact hS
 ·rw [chg_cons _ _ _ _ hl,if_neg hlt] at hS
  exact hS
set_option maxHeartbeats 2000000 in
theorem c_chargeFor (band percent price ex:Int) (A:Option Addr) (n c:Nat) (ts:List Tier) (w:World) (hs:SliceOf w 2 Tier.cells A n c ts) (V:Valid band percent price ts) (h0:0≤ex) (h1:ex≤1000000000):
  Calls Tryz.prog 200 #[.agg #[.int .i64 band,.int .i64 percent,.int .i64 price,.slice A n c],.int .i64 ex] w (Ret (.int .i64 (chargeF price ts ex)) w):=by
 have hn:n≤6:=by rw [hs.len]; exact V.len1
 have hn1:1≤n:=by rw [hs.len]; exact V.len0
 have hp0:=V.pr0
 have hp1:=V.pr1
 have HR:=hide (show chargeF price ts ex=(price*chg ex ts 0+99)/100 from rfl)
 generalize chargeF price ts ex=R at HR ⊢
 go_enter Tryz.func200,Tryz.ntmps200
 go_wp2_with fail
 go_loopw [5,6,13] (fun s b i wr=>∃(k:Nat) (S B:Int),k≤n∧s= .int .i64 S∧b= .int .i64 B∧i= .int .i64 k∧0≤B∧B≤ex∧0≤S∧S≤B*1000000000∧Hid (S+price*chg ex (ts.drop k) B=price*chg ex ts 0)∧Ext (w.alloc (.cells #[.int .i64 band,.int .i64 percent,.int .i64 price,.slice A n c] 73)) wr) (fun _ _ i _=>n-(intOf i).toNat)
 case atStart=>exact ⟨0,0,0,Nat.zero_le _,rfl,rfl,rfl,by omega,by omega,by omega,by omega,hide (by simp),Ext.refl _⟩
 case round=>
  obtain ⟨k,S,B,hk,rfl,rfl,rfl,hB0,hB1,hS0,hS1,HS,hx⟩:=hrel
  have hxs:=hx.size
  have hz:w.heap.size<wr.heap.size:=by simp at hxs; omega
  clear hxs
  have hbx2:wr.cell? ⟨w.heap.size,2,none⟩=some (.int .i64 price):=by rw [hx.cell _ _ (by simp)]; simp
  have hbx3:wr.cell? ⟨w.heap.size,3,none⟩=some (.slice A n c):=by rw [hx.cell _ _ (by simp)]; simp
  by_cases hlt:k<n
  ·obtain ⟨b,off,x,rfl,hb,hxk,hc⟩:=(hs.ext hx.box).get hlt
   have hc0:=hc 0 _ rfl
   have hc1:=hc 1 _ rfl
   clear hc
   simp only [Nat.add_zero] at hc0
   obtain ⟨hu0,hu1,hf0,hf1⟩:=V.at_ k x hxk
   have HS2:=hide (show S+price*chg ex (x::ts.drop (k+1)) B=price*chg ex ts 0 by rw [←drop_at hxk]; exact HS.out)
   have HD:=hide (show ts.drop (k+1)=[]↔k+1=n by rw [List.drop_eq_nil_iff, ←hs.len]; omega)
   clear HS hxk
   have key:∃U:Int,((k+1=n∧U=ex)∨(k+1<n∧U=min ex x.upto)):=by
    by_cases e:k+1=n
    ·exact ⟨ex,.inl ⟨e,rfl⟩⟩
    ·exact ⟨_,.inr ⟨by omega,rfl⟩⟩
   obtain ⟨U,hU⟩:=key
   have HU:=hide (show (ts.drop (k+1)=[]∧U=ex)∨(ts.drop (k+1)≠[]∧U=min ex x.upto) by
    rcases hU with ⟨e,h⟩ | ⟨e,h⟩
    ·exact .inl ⟨HD.out.2 e,h⟩
    ·exact .inr ⟨fun h'=>by have:=HD.out.1 h'; omega,h⟩)
   have hU1:U≤ex:=by omega
   have hpay:=pay_bd (d:=U-B) (price:=price) (f:=x.factor)
   have HN:Hid (B<U→S+(U-B)*price*x.factor+price*chg ex (ts.drop (k+1)) U=price*chg ex ts 0):=hide (step_sum HS2.out HU.out)
   have HN':Hid (¬B<U→S+price*chg ex (ts.drop (k+1)) B=price*chg ex ts 0):=hide (stay_sum HS2.out HU.out)
   clear HS2 HD HU
   by_cases hBU:B<U
   ·obtain ⟨q1,q2,q3,q4⟩:=hpay (by omega) (by omega) hp0 hp1 hf0 hf1
    have HN2:=hide (HN.out hBU)
    clear HN HN' hpay
    rcases hU with ⟨e1,e2⟩ | ⟨e1,e2⟩
    ·have hl:((k:Int)==(n:Int)-1)=true:=by simp; omega
     subst e2
     clear e1
     go_wp2_with fail
     all_goals
      go_roundw
      case rel=>exact ⟨k+1,_,_,by omega,rfl,rfl,by go_num,by omega,by omega,by omega,by omega,HN2,hx.and_alloc _⟩
      case measure=>simp [intOf]; omega
    ·have hl:((k:Int)==(n:Int)-1)=false:=by simp; omega
     by_cases hm:ex≤x.upto
     ·have e3:U=ex:=by omega
      clear e2
      subst e3
      go_wp2_with fail
      go_roundw
      case rel=>exact ⟨k+1,_,_,by omega,rfl,rfl,by go_num,by omega,by omega,by omega,by omega,HN2,hx.and_alloc _⟩
      case measure=>simp [intOf]; omega
     ·have e3:U=x.upto:=by omega
      clear e2
      subst e3
      go_wp2_with fail
      go_roundw
      case rel=>exact ⟨k+1,_,_,by omega,rfl,rfl,by go_num,by omega,by omega,by omega,by omega,HN2,hx.and_alloc _⟩
      case measure=>simp [intOf]; omega
   ·have HN2:=hide (HN'.out hBU)
    clear HN HN' hpay
    rcases hU with ⟨e1,e2⟩ | ⟨e1,e2⟩
    ·have hl:((k:Int)==(n:Int)-1)=true:=by simp; omega
     subst e2
     clear e1
     go_wp2_with fail
     all_goals
      go_roundw
      case rel=>exact ⟨k+1,_,_,by omega,rfl,rfl,by go_num,by omega,by omega,by omega,by omega,HN2,hx.and_alloc _⟩
      case measure=>simp [intOf]; omega
    ·have hl:((k:Int)==(n:Int)-1)=false:=by simp; omega
     go_wp2_with fail
     all_goals
      go_roundw
      case rel=>exact ⟨k+1,_,_,by omega,rfl,rfl,by go_num,by omega,by omega,by omega,by omega,HN2,hx.and_alloc _⟩
      case measure=>simp [intOf]; omega
  ·go_wp2_with fail
   go_ret
   refine Ret.int ?_ hx.box
   have:=HS.out
   rw [List.drop_of_length_le (by have:=hs.len; omega),chg_nil] at this
   rw [HR.out, ←this,Int.mul_zero,Int.add_zero]
end Go.Proofs.YtfkpghdmljjegaaGreat
namespace Go.Proofs.YtfkpghdmljjegaaGreat
open Go.RowKit
theorem step_sum1 {ex B S T:Int} {x:Tier} {l:List Tier} {U:Int} (hS:S+chg ex (x::l) B=T) (hU:(l=[]∧U=ex)∨(l≠[]∧U=min ex x.upto)) (hlt:B<U):
  S+(U-B)*x.factor+chg ex l U=T:=by
 rcases hU with ⟨rfl,rfl⟩ | ⟨hl,rfl⟩
 ·rw [chg_last,if_pos hlt] at hS
  rw [chg_nil]
  omega
 ·rw [chg_cons _ _ _ _ hl,if_pos hlt] at hS
  omega
set_option maxHeartbeats 2000000 in
theorem c_l29Charge (band percent price ex:Int) (A:Option Addr) (n c:Nat) (ts:List Tier) (w:World) (hs:SliceOf w 2 Tier.cells A n c ts) (V:Valid band percent price ts) (h0:0≤ex) (h1:ex≤1000000000):
  Calls Tryz.prog 208 #[.agg #[.int .i64 band,.int .i64 percent,.int .i64 price,.slice A n c],.int .i64 ex] w (Ret (.int .i64 (chargeF price ts ex)) w):=by
 have hn:n≤6:=by rw [hs.len]; exact V.len1
 have hn1:1≤n:=by rw [hs.len]; exact V.len0
 have hp0:=V.pr0
 have hp1:=V.pr1
 have HR:=hide (show chargeF price ts ex=chg ex ts 0/100*price+(chg ex ts 0 % 100*price+99)/100 from (charge_spec _ _).symm)
 generalize chargeF price ts ex=R at HR ⊢
 have fin:∀s:Int,0≤s→s≤1000000000000→0≤s/100*price∧s/100*price≤10000000000*1000000∧0≤s % 100*price∧s % 100*price≤100*1000000:=by
  intro s s0 s1
  have a:=mul_bd (a:=s/100) (b:=price) 10000000000 1000000 (by omega) (by omega) hp0 hp1
  have b:=mul_bd (a:=s % 100) (b:=price) 100 1000000 (by omega) (by omega) hp0 hp1
  exact ⟨a.1,a.2,b.1,b.2⟩
 have FIN:=hide fin
 clear fin
 go_enter Tryz.func208,Tryz.ntmps208
 go_wp2_with fail
 go_loop [5,6,7] (fun s b i=>∃(k:Nat) (S B:Int),k≤n∧s= .int .i64 S∧b= .int .i64 B∧i= .int .i64 k∧0≤B∧B≤ex∧0≤S∧S≤B*1000∧Hid (S+chg ex (ts.drop k) B=chg ex ts 0)∧Hid (B<ex→∀x,ts[k]? =some x→B<x.upto)) (fun _ _ i=>n-(intOf i).toNat)
 case atStart=>exact ⟨0,0,0,Nat.zero_le _,rfl,rfl,rfl,by omega,by omega,by omega,by omega,hide (by simp),hide (fun _ x hx=>by have:=V.at_ 0 x hx; omega)⟩
 case round=>
  obtain ⟨k,S,B,hk,rfl,rfl,rfl,hB0,hB1,hS0,hS1,HS,HU⟩:=hrel
  by_cases hlt:k<n
  ·by_cases hBe:B<ex
   ·obtain ⟨b,off,x,rfl,hb,hxk,hc⟩:=hs.get hlt
    have hc0:=hc 0 _ rfl
    have hc1:=hc 1 _ rfl
    clear hc
    simp only [Nat.add_zero] at hc0
    obtain ⟨hu0,hu1,hf0,hf1⟩:=V.at_ k x hxk
    have hBx:=HU.out hBe x hxk
    have HS2:=hide (show S+chg ex (x::ts.drop (k+1)) B=chg ex ts 0 by rw [←drop_at hxk]; exact HS.out)
    have HD:=hide (show ts.drop (k+1)=[]↔k+1=n by rw [List.drop_eq_nil_iff, ←hs.len]; omega)
    have HX:=hide hxk
    clear HS HU hxk
    have key:∃U:Int,((k+1=n∧U=ex)∨(k+1<n∧U=min ex x.upto)):=by
     by_cases e:k+1=n
     ·exact ⟨ex,.inl ⟨e,rfl⟩⟩
     ·exact ⟨_,.inr ⟨by omega,rfl⟩⟩
    obtain ⟨U,hU⟩:=key
    have hBU:B<U:=by omega
    have hU1:U≤ex:=by omega
    have HN:=hide (step_sum1 HS2.out (show (ts.drop (k+1)=[]∧U=ex)∨(ts.drop (k+1)≠[]∧U=min ex x.upto) by
     rcases hU with ⟨e,h⟩ | ⟨e,h⟩
     ·exact .inl ⟨HD.out.2 e,h⟩
     ·exact .inr ⟨fun h'=>by have:=HD.out.1 h'; omega,h⟩) hBU)
    have HV:=hide (show U<ex→∀y,ts[k+1]? =some y→U<y.upto by
     intro hUe y hy
     have:=V.next k x y HX.out hy
     omega)
    have q1:0≤(U-B)*x.factor:=Int.mul_nonneg (by omega) hf0
    have q2:(U-B)*x.factor≤(U-B)*1000:=Int.mul_le_mul_of_nonneg_left hf1 (by omega)
    clear HS2 HD HX
    rcases hU with ⟨e1,e2⟩ | ⟨e1,e2⟩
    ·have hl:((k:Int)==(n:Int)-1)=true:=by simp; omega
     subst e2
     clear e1
     go_wp2_with fail
     all_goals
      go_round
      case rel=>exact ⟨k+1,_,_,by omega,rfl,rfl,by go_num,by omega,by omega,by omega,by omega,HN,HV⟩
      case measure=>simp [intOf]; omega
    ·have hl:((k:Int)==(n:Int)-1)=false:=by simp; omega
     by_cases hm:ex≤x.upto
     ·have e3:U=ex:=by omega
      clear e2
      subst e3
      go_wp2_with fail
      go_round
      case rel=>exact ⟨k+1,_,_,by omega,rfl,rfl,by go_num,by omega,by omega,by omega,by omega,HN,HV⟩
      case measure=>simp [intOf]; omega
     ·have e3:U=x.upto:=by omega
      clear e2
      subst e3
      go_wp2_with fail
      go_round
      case rel=>exact ⟨k+1,_,_,by omega,rfl,rfl,by go_num,by omega,by omega,by omega,by omega,HN,HV⟩
      case measure=>simp [intOf]; omega
   ·obtain ⟨r1,r2,r3,r4⟩:=FIN.out S hS0 (by omega)
    have hBe':decide (B<ex)=false:=by simpa using hBe
    go_wp2_with fail
    go_ret
    refine Ret.int ?_ (Ext.alloc _ _)
    have:=HS.out
    rw [chg_done _ _ _ (by omega),Int.add_zero] at this
    rw [HR.out, ←this]
  ·obtain ⟨r1,r2,r3,r4⟩:=FIN.out S hS0 (by omega)
   go_wp2_with fail
   go_ret
   refine Ret.int ?_ (Ext.alloc _ _)
   have:=HS.out
   rw [List.drop_of_length_le (by have:=hs.len; omega),chg_nil,Int.add_zero] at this
   rw [HR.out, ←this]
end Go.Proofs.YtfkpghdmljjegaaGreat
namespace Go.Proofs.YtfkpghdmljjegaaGreat
open Go.RowKit
theorem ordL_mem {xs:List Contract} {am:List Int} {o:Order} (h:o∈ordL xs am):∃c a,c∈xs∧a∈am∧(o=⟨c.shipper,c.entry,a,c.cls⟩∨o=⟨c.shipper,c.exit,-a,c.cls⟩):=by
 unfold ordL at h
 obtain ⟨l,hl,ho⟩:=List.mem_flatten.1 h
 obtain ⟨k,hk,rfl⟩:=List.mem_iff_getElem.1 hl
 rw [List.length_zipWith] at hk
 rw [List.getElem_zipWith] at ho
 refine ⟨xs[k]'(by omega),am[k]'(by omega),List.getElem_mem _,List.getElem_mem _,?_⟩
 simpa [ordC2] using ho
theorem hrOrd_ok {n1:Nat} {ps:List Pipe} {xs:List Contract} {L:List Nomination} (hb:bookB n1 xs=true) (hn:nomsB xs L=true) (h:Int):∀o∈hrOrd ps n1 xs L h,(0≤o.shipper∧o.shipper≤15)∧(0≤o.node∧o.node<n1)∧(-30000≤o.amount∧o.amount≤30000)∧(0≤o.cls∧o.cls≤3):=by
 intro o ho
 obtain ⟨c,a,hc,ha,he⟩:=ordL_mem ho
 have h1:=con_facts hb c hc
 obtain ⟨x,hx,rfl⟩:=List.mem_map.1 ha
 have h2:=(less_ok hb hn h x hx).2.2.1
 rcases he with rfl | rfl <;> simp only <;> omega
theorem own_blk {A:Option Addr} {n c b:Nat} (h:blkOf A n=some b):(Value.slice A n c).ownBlock=some b:=by
 unfold blkOf at h
 split at h
 ·cases h
 ·cases A with
  | none=>cases h
  | some a=>simpa [Value.ownBlock] using h
def accAt (l:List Int) (k:Nat) (v:Int):List Int:=l.set k (zAt l k+v)
def accL (f:Int→Int) (os:List Order) (g:List Int):Nat→List Int
 | 0=>List.replicate 16 0
 | j+1=>match os[j]?,g[j]? with
  | some o,some z=>accAt (accL f os g j) o.shipper.toNat (f z)
  | _,_=>accL f os g j
theorem accL_len (f:Int→Int) (os:List Order) (g:List Int):∀j:Nat,(accL f os g j).length=16
 | 0=>by simp [accL]
 | j+1=>by
  simp only [accL]
  split
  ·rw [accAt,List.length_set]; exact accL_len f os g j
  ·exact accL_len f os g j
theorem accL_step {f:Int→Int} {os:List Order} {g:List Int} {j:Nat} {o:Order} {z:Int} (ho:os[j]? =some o) (hg:g[j]? =some z):accL f os g (j+1)=accAt (accL f os g j) o.shipper.toNat (f z):=by
 simp only [accL,ho,hg]
theorem accL_bd {f:Int→Int} {os:List Order} {g:List Int} {B:Int} (hB:0≤B) (hf:∀z∈g,-B≤f z∧f z≤B):∀j:Nat,∀y∈accL f os g j,-(B*j)≤y∧y≤B*j
 | 0,y,hy=>by
  have:=List.eq_of_mem_replicate (show y∈List.replicate 16 0 from hy)
  simp; omega
 | j+1,y,hy=>by
  have ih:=accL_bd (os:=os) hB hf j
  have e:B*((j+1:Nat):Int)=B*j+B:=by rw [Int.natCast_succ,Int.mul_add,Int.mul_one]
  have h0:0≤B*(j:Int):=Int.mul_nonneg hB (by omega)
  rw [e]
  simp only [accL] at hy
  split at hy
  ·rename_i o z _ hz
   have hz':=hf z (List.mem_of_getElem? hz)
   rcases List.mem_or_eq_of_mem_set hy with hy | rfl
   ·have:=ih y hy; omega
   ·have:=zAt_in (by omega) h0 ih o.shipper.toNat; omega
  ·have:=ih y hy; omega
theorem accL_nn {os:List Order} {g:List Int}:∀j:Nat,∀y∈accL pos0 os g j,0≤y
 | 0,y,hy=>by have:=List.eq_of_mem_replicate (show y∈List.replicate 16 0 from hy); omega
 | j+1,y,hy=>by
  have ih:=accL_nn (os:=os) (g:=g) j
  simp only [accL] at hy
  split at hy
  ·rename_i o z _ hz
   rcases List.mem_or_eq_of_mem_set hy with hy | rfl
   ·exact ih y hy
   ·have h1:0≤pos0 z:=by unfold pos0; split <;> omega
    have h2:0≤zAt (accL pos0 os g j) o.shipper.toNat:=by
     unfold zAt
     cases hq:(accL pos0 os g j)[o.shipper.toNat]? with
     | none=>simp
     | some q=>exact ih q (List.mem_of_getElem? hq)
    omega
  ·exact ih y hy
theorem excS_bd {band percent bal thr m:Int} (h:0≤tolF band percent thr) (h4: -m≤bal) (h4':bal≤m): -m≤excF band percent bal thr∧excF band percent bal thr≤m:=by
 unfold excF; (repeat' split) <;> omega
def feeK (band percent price:Int) (ts:List Tier) (C T:List Int) (k:Nat):Int:=chargeF price ts (absI (excF band percent (zAt C k) (zAt T k)))
def postsK (band percent price:Int) (ts:List Tier) (C T:List Int) (k:Nat):List Posting:=
 (if zAt C k≠0 then [⟨k,16,zAt C k,0⟩] else [])++(if feeK band percent price ts C T k≠0 then [⟨17,k,0,feeK band percent price ts C T k⟩] else [])
def postsL (band percent price:Int) (ts:List Tier) (C T:List Int):Nat→List Posting
 | 0=>[]
 | k+1=>postsL band percent price ts C T k++postsK band percent price ts C T k
theorem postsK_len (band percent price:Int) (ts:List Tier) (C T:List Int) (k:Nat):(postsK band percent price ts C T k).length≤2:=by
 unfold postsK
 split <;> split <;> simp
theorem postsL_len (band percent price:Int) (ts:List Tier) (C T:List Int):∀k:Nat,(postsL band percent price ts C T k).length≤2*k
 | 0=>by simp [postsL]
 | k+1=>by
  simp only [postsL,List.length_append]
  have:=postsL_len band percent price ts C T k
  have:=postsK_len band percent price ts C T k
  omega
open Classical in
noncomputable def gotOf (os:List Order) (rs:List Reading):List Int:=if h:∃g,Alloc os (List.replicate os.length 0) rs g then Classical.choose h else []
theorem gotOf_eq {os:List Order} {rs:List Reading} {g:List Int} (h:Alloc os (List.replicate os.length 0) rs g):gotOf os rs=g:=by
 have hx:∃g,Alloc os (List.replicate os.length 0) rs g:=⟨g,h⟩
 unfold gotOf
 rw [dif_pos hx]
 exact Alloc.uniq (Classical.choose_spec hx) h
structure Stl where
 sc:List Int
 os:List Order
 got:List Int
 chg:List Int
 psn:List Posting
def stlOf (sc:List Int) (os:List Order) (g:List Int) (band percent price:Int) (ts:List Tier):Stl:=
 ⟨sc,os,g,accL id os g os.length,postsL band percent price ts (accL id os g os.length) (accL pos0 os g os.length) 16⟩
noncomputable def stlH (ps:List Pipe) (N:Nat) (xs:List Contract) (L:List Nomination) (h:Int) (rd:List Reading) (band percent price:Int) (ts:List Tier):Stl:=
 stlOf (hrSc ps N xs L h) (hrOrd ps N xs L h) (gotOf (hrOrd ps N xs L h) rd) band percent price ts
def zeroS:Stl:=⟨[],[],[],[],[]⟩
end Go.Proofs.YtfkpghdmljjegaaGreat
namespace Go.Proofs.YtfkpghdmljjegaaGreat
open Go.RowKit
def dlt (sel:Posting→Int) (p:Posting) (a:Nat):Int:=(if p.debit=a then sel p else 0)-(if p.credit=a then sel p else 0)
def balF (sel:Posting→Int):List Posting→Nat→Int
 | [],_=>0
 | p::ps,a=>dlt sel p a+balF sel ps a
theorem balF_snoc (sel:Posting→Int) (ps:List Posting) (p:Posting) (a:Nat):balF sel (ps++[p]) a=balF sel ps a+dlt sel p a:=by
 induction ps with
 | nil=>simp [balF]
 | cons q ps ih=>simp only [List.cons_append,balF,ih]; omega
def balL (F:Nat→Int):List Int:=(List.range 24).map F
theorem balL_len (F:Nat→Int):(balL F).length=24:=by simp [balL]
theorem balL_at (F:Nat→Int) (a:Nat) (h:a<24):(balL F)[a]? =some (F a):=by
 unfold balL; rw [List.getElem?_map,List.getElem?_range h]; rfl
theorem balL_set (F:Nat→Int) (d:Nat) (v:Int):(balL F).set d v=balL (fun a=>if a=d then v else F a):=by
 apply List.ext_getElem?
 intro j
 rw [List.getElem?_set]
 by_cases hj:j<24
 ·rw [balL_at (fun a=>if a=d then v else F a) j hj,balL_at F j hj,balL_len]
  by_cases e:d=j
  ·subst e; rw [if_pos rfl,if_pos hj,if_pos rfl]
  ·rw [if_neg e,if_neg (fun h=>e h.symm)]
 ·rw [List.getElem?_eq_none (l:=balL fun a=>if a=d then v else F a) (by rw [balL_len]; omega),List.getElem?_eq_none (l:=balL F) (by rw [balL_len]; omega),balL_len]
  by_cases e:d=j
  ·subst e; rw [if_pos rfl,if_neg hj]
  ·rw [if_neg e]
theorem bal_step {sel:Posting→Int} {F:Nat→Int} {d c:Nat} {g m v:Int} (hne:d≠c) (hv:v=sel ⟨d,c,g,m⟩):
  ((balL F).set d (F d+v)).set c (F c-v)=balL (fun a=>F a+dlt sel ⟨d,c,g,m⟩ a):=by
 rw [balL_set,balL_set]
 congr 1
 funext a
 unfold dlt
 rw [←hv]
 have e1:((d:Int)=(a:Int))↔a=d:=by omega
 have e2:((c:Int)=(a:Int))↔a=c:=by omega
 simp only [e1,e2]
 by_cases h1:a=c
 ·have h2:¬a=d:=by omega
  rw [if_pos h1,if_neg h2,if_pos h1,h1]; omega
 ·by_cases h2:a=d
  ·rw [if_neg h1,if_pos h2,if_pos h2,if_neg h1,h2]; omega
  ·rw [if_neg h1,if_neg h2,if_neg h2,if_neg h1]; omega
theorem dlt_bd {sel:Posting→Int} {p:Posting} {a:Nat} {M:Int} (h0: -M≤sel p) (h1:sel p≤M) (_hne:p.debit≠p.credit): -M≤dlt sel p a∧dlt sel p a≤M:=by
 unfold dlt
 by_cases e1:p.debit=a
 ·by_cases e2:p.credit=a
  ·omega
  ·rw [if_pos e1,if_neg e2]; omega
 ·by_cases e2:p.credit=a
  ·rw [if_neg e1,if_pos e2]; omega
  ·rw [if_neg e1,if_neg e2]; omega
theorem balF_bd {sel:Posting→Int} {M:Int} (ps:List Posting) (h:∀p∈ps,-M≤sel p∧sel p≤M∧p.debit≠p.credit) (a:Nat): -(M*(ps.length:Int))≤balF sel ps a∧balF sel ps a≤M*(ps.length:Int):=by
 induction ps with
 | nil=>simp [balF]
 | cons p ps ih=>
  have h1:=h p (by simp)
  have h2:=ih (fun q hq=>h q (by simp [hq]))
  have h3:=dlt_bd (a:=a) h1.1 h1.2.1 h1.2.2
  have h4:M*((p::ps).length:Int)=M*(ps.length:Int)+M:=by rw [List.length_cons,show ((ps.length+1:Nat):Int)=(ps.length:Int)+1 by omega,Int.mul_add,Int.mul_one]
  rw [h4]
  simp only [balF]
  omega
theorem postB_true {p:Posting} (h:postB p=true):0≤p.debit∧p.debit≤23∧0≤p.credit∧p.credit≤23∧p.debit≠p.credit∧ -1000000000≤p.gas∧p.gas≤1000000000∧ -1000000000000000≤p.money∧p.money≤1000000000000000:=by
 simp only [postB,Bool.and_eq_true,inB_true,bne_iff_ne] at h
 omega
theorem ledB_true {ps:List Posting} (h:ledB ps=true):ps.length≤300∧∀p∈ps,postB p=true:=by
 simp only [ledB,Bool.and_eq_true,decide_eq_true_eq,List.all_eq_true] at h
 exact h
theorem bal_gas_bd {ps:List Posting} (h:∀p∈ps,postB p=true) (a:Nat): -(1000000000*(ps.length:Int))≤balF Posting.gas ps a∧balF Posting.gas ps a≤1000000000*(ps.length:Int):=
 balF_bd ps (fun p hp=>by have:=postB_true (h p hp); omega) a
theorem bal_money_bd {ps:List Posting} (h:∀p∈ps,postB p=true) (a:Nat): -(1000000000000000*(ps.length:Int))≤balF Posting.money ps a∧balF Posting.money ps a≤1000000000000000*(ps.length:Int):=
 balF_bd ps (fun p hp=>by have:=postB_true (h p hp); omega) a
theorem take_snoc {ps:List Posting} {k:Nat} {p:Posting} (h:ps[k]? =some p):ps.take (k+1)=ps.take k++[p]:=by
 obtain ⟨hk,rfl⟩:=List.getElem?_eq_some_iff.1 h
 rw [List.take_succ_eq_append_getElem hk]
def NewBals (ps:List Posting) (w:World) (e:Ending) (w':World):Prop:=
 ∃g1 g2,e= .returned (.tuple #[.slice (some ⟨g1,0,none⟩) 24 24,.slice (some ⟨g2,0,none⟩) 24 24])∧w.heap.size≤g1∧w.heap.size≤g2∧g1≠g2∧
  RowOf w' g1 2 intC (balL (balF Posting.gas ps))∧RowOf w' g2 2 intC (balL (balF Posting.money ps))∧Ext w w'
def zeroCells:List Value:=(List.replicate 24 (0:Int)).flatMap intC
theorem run_make24 (W:World):(Instr.makeSlice 24 (.int .i64 24) (.int .i64 24)).run Tryz.prog W= .ok (.slice (some ⟨W.heap.size,0,none⟩) 24 24) (W.alloc (.cells zeroCells.toArray 2)):=
 run_make_flat (P:=Tryz.prog) 24 2 _ _ 1 8 Tryz.underlying24 int_info (f:=intC) 0 rfl rfl rfl (by omega) 24 (by omega) (by omega) W
theorem zero_row (W:World):RowOf (W.alloc (.cells zeroCells.toArray 2)) W.heap.size 2 intC (balL (balF Posting.gas [])):=Row.new W 2 zeroCells
theorem zero_row' (W:World):RowOf (W.alloc (.cells zeroCells.toArray 2)) W.heap.size 2 intC (balL (balF Posting.money [])):=Row.new W 2 zeroCells
theorem zero_row2 (W:World) (o:Obj):RowOf ((W.alloc o).alloc (.cells zeroCells.toArray 2)).drew (W.heap.size+1) 2 intC (balL (balF Posting.gas [])):=by
 have:=zero_row (W.alloc o)
 rw [show (W.alloc o).heap.size=W.heap.size+1 by simp] at this
 exact this
theorem zero_row2' (W:World) (o:Obj):RowOf ((W.alloc o).alloc (.cells zeroCells.toArray 2)).drew (W.heap.size+1) 2 intC (balL (balF Posting.money [])):=by
 have:=zero_row' (W.alloc o)
 rw [show (W.alloc o).heap.size=W.heap.size+1 by simp] at this
 exact this
set_option maxHeartbeats 4000000 in
theorem c_balancesOf (A:Option Addr) (n c:Nat) (ps:List Posting) (w:World) (hs:SliceOf w 4 Posting.cells A n c ps) (hled:ledB ps=true):
  Calls Tryz.prog 92 #[.slice A n c] w (NewBals ps w):=by
 obtain ⟨hlen,hall⟩:=ledB_true hled
 have hn:n≤300:=by rw [hs.len]; exact hlen
 have HA:=hide hall
 clear hall hlen hled
 have hmk:=run_make24
 go_enter Tryz.func92,Tryz.ntmps92
 go_wp2_with fail
 go_region
 ·clear hmk
  go_wp2_with fail
  go_loopw [12] (fun i wr=>∃(k:Nat),k≤n∧i= .int .i64 k∧RowOf wr w.heap.size 2 intC (balL (balF Posting.gas (ps.take k)))∧RowOf wr (w.heap.size+1) 2 intC (balL (balF Posting.money (ps.take k)))∧Ext w wr) (fun i _=>n-(intOf i).toNat)
  case atStart=>exact ⟨0,Nat.zero_le _,rfl,(zero_row w).ext ((Ext.alloc _ _).drew),zero_row2' _ _,((Ext.alloc _ _).and_alloc _).drew⟩
  case round=>
   obtain ⟨k,hk,rfl,hr1,hr2,hx⟩:=hrel
   have hl1:=hr1.lt
   have hl2:=hr2.lt
   have hne:w.heap.size≠(w.heap.size+1):=by omega
   by_cases hlt:k<n
   ·obtain ⟨b,off,p,rfl,hb,hxk,hc⟩:=(hs.ext hx).get hlt
    have hpB:=HA.out p (List.mem_of_getElem? hxk)
    have HTK:=hide (take_snoc hxk)
    have hPR:∀q∈ps.take k,postB q=true:=fun q hq=>HA.out q (List.mem_of_mem_take hq)
    have hLK:(ps.take k).length=k:=by rw [List.length_take, ←hs.len]; omega
    obtain ⟨d,cr,ga,mo⟩:=p
    obtain ⟨p1,p2,p3,p4,p5,p6,p7,p8,p9⟩:=postB_true hpB
    simp only at p1 p2 p3 p4 p5 p6 p7 p8 p9
    clear hpB hxk
    obtain ⟨d,rfl⟩:=Int.eq_ofNat_of_zero_le p1
    obtain ⟨cr,rfl⟩:=Int.eq_ofNat_of_zero_le p3
    have hc0:=hc 0 _ rfl
    have hc1:=hc 1 _ rfl
    have hc2:=hc 2 _ rfl
    have hc3:=hc 3 _ rfl
    clear hc
    simp only [Nat.add_zero] at hc0
    have hdc:d≠cr:=by omega
    have hd24:d<24:=by omega
    have hc24:cr<24:=by omega
    have HG:=hide (bal_step (sel:=Posting.gas) (F:=balF Posting.gas (ps.take k)) (d:=d) (c:=cr) (g:=ga) (m:=mo) hdc rfl)
    have HM:=hide (bal_step (sel:=Posting.money) (F:=balF Posting.money (ps.take k)) (d:=d) (c:=cr) (g:=ga) (m:=mo) hdc rfl)
    have b1:=bal_gas_bd hPR d
    have b2:=bal_gas_bd hPR cr
    have b3:=bal_money_bd hPR d
    have b4:=bal_money_bd hPR cr
    rw [hLK] at b1 b2 b3 b4
    have HTG:=hide (show balL (balF Posting.gas (ps.take (k+1)))=balL (fun a=>balF Posting.gas (ps.take k) a+dlt Posting.gas ⟨d,cr,ga,mo⟩ a) by rw [HTK.out]; congr 1; funext a; rw [balF_snoc])
    have HTM:=hide (show balL (balF Posting.money (ps.take (k+1)))=balL (fun a=>balF Posting.money (ps.take k) a+dlt Posting.money ⟨d,cr,ga,mo⟩ a) by rw [HTK.out]; congr 1; funext a; rw [balF_snoc])
    clear HTK hPR hLK
    generalize hF:balF Posting.gas (ps.take k)=F at *
    generalize hM:balF Posting.money (ps.take k)=M at *
    clear hF hM
    have v1:wr.cell? ⟨w.heap.size,d,none⟩=some (.int .i64 (F d)):=by simpa using hr1.get intC_len (balL_at F d hd24) (j:=0) rfl
    have v2:wr.cell? ⟨w.heap.size,cr,none⟩=some (.int .i64 (F cr)):=by simpa using hr1.get intC_len (balL_at F cr hc24) (j:=0) rfl
    have v3:wr.cell? ⟨(w.heap.size+1),d,none⟩=some (.int .i64 (M d)):=by simpa using hr2.get intC_len (balL_at M d hd24) (j:=0) rfl
    have v4:wr.cell? ⟨(w.heap.size+1),cr,none⟩=some (.int .i64 (M cr)):=by simpa using hr2.get intC_len (balL_at M cr hc24) (j:=0) rfl
    have f1:=hr1.frozen d
    have f2:=hr1.frozen cr
    have f3:=hr2.frozen d
    have f4:=hr2.frozen cr
    have hdc':cr≠d:=by omega
    go_wp2_with fail
    refine wp_region_tail 9 (by kernel_rfl) (by kernel_rfl) ?_
    simp only [List.take_succ_cons,List.take_zero,List.drop_succ_cons,List.drop_zero]
    repeat (go_big_quiet_step (fail))
    refine wpQuiet_nil ?_
    go_wp2_with fail
    refine wp_region_tail 9 (by kernel_rfl) (by kernel_rfl) ?_
    simp only [List.take_succ_cons,List.take_zero,List.drop_succ_cons,List.drop_zero]
    repeat (go_big_quiet_step (fail))
    refine wpQuiet_nil ?_
    go_wp2_with fail
    refine wp_region_tail 9 (by kernel_rfl) (by kernel_rfl) ?_
    simp only [List.take_succ_cons,List.take_zero,List.drop_succ_cons,List.drop_zero]
    repeat (go_big_quiet_step (fail))
    refine wpQuiet_nil ?_
    go_wp2_with fail
    refine wp_region_tail 9 (by kernel_rfl) (by kernel_rfl) ?_
    simp only [List.take_succ_cons,List.take_zero,List.drop_succ_cons,List.drop_zero]
    repeat (go_big_quiet_step (fail))
    refine wpQuiet_nil ?_
    go_wp2_with fail
    go_roundw
    case rel=>
     refine ⟨k+1,by omega,by go_num,?_,?_,?_⟩
     ·rw [HTG.out, ←HG.out]
      exact ((((hr1.set1 (by rw [balL_len]; exact hd24) _).set1 (by rw [List.length_set,balL_len]; exact hc24) _).far (p:=⟨(w.heap.size+1),d,none⟩) hne _).far (p:=⟨(w.heap.size+1),cr,none⟩) hne _).ext ((((Ext.alloc _ _).drew).drew).drew).drew
     ·rw [HTM.out, ←HM.out]
      exact ((((hr2.far (p:=⟨w.heap.size,d,none⟩) hne.symm _).far (p:=⟨w.heap.size,cr,none⟩) hne.symm _).set1 (by rw [balL_len]; exact hd24) _).set1 (by rw [List.length_set,balL_len]; exact hc24) _).ext ((((Ext.alloc _ _).drew).drew).drew).drew
     ·refine ((((Ext.and_alloc ?_ _).drew).drew).drew).drew
      repeat (refine Ext.setCell ?_ (by first | (simp; done) | (simp; omega) | omega) _)
      exact hx
    case measure=>simp [intOf]; omega
   ·go_wp2_with fail
    go_ret2
    have hkn:ps.take k=ps:=List.take_of_length_le (by have:=hs.len; omega)
    rw [hkn] at hr1 hr2
    exact ⟨_,_,rfl,by omega,by omega,by omega,hr1,hr2,hx⟩
 ·clear hmk
  go_wp2_with fail
  go_loopw [12] (fun i wr=>∃(k:Nat),k≤n∧i= .int .i64 k∧RowOf wr (w.heap.size+1) 2 intC (balL (balF Posting.gas (ps.take k)))∧RowOf wr w.heap.size 2 intC (balL (balF Posting.money (ps.take k)))∧Ext w wr) (fun i _=>n-(intOf i).toNat)
  case atStart=>exact ⟨0,Nat.zero_le _,rfl,zero_row2 _ _,(zero_row' w).ext ((Ext.alloc _ _).drew),((Ext.alloc _ _).and_alloc _).drew⟩
  case round=>
   obtain ⟨k,hk,rfl,hr1,hr2,hx⟩:=hrel
   have hl1:=hr1.lt
   have hl2:=hr2.lt
   have hne:(w.heap.size+1)≠w.heap.size:=by omega
   by_cases hlt:k<n
   ·obtain ⟨b,off,p,rfl,hb,hxk,hc⟩:=(hs.ext hx).get hlt
    have hpB:=HA.out p (List.mem_of_getElem? hxk)
    have HTK:=hide (take_snoc hxk)
    have hPR:∀q∈ps.take k,postB q=true:=fun q hq=>HA.out q (List.mem_of_mem_take hq)
    have hLK:(ps.take k).length=k:=by rw [List.length_take, ←hs.len]; omega
    obtain ⟨d,cr,ga,mo⟩:=p
    obtain ⟨p1,p2,p3,p4,p5,p6,p7,p8,p9⟩:=postB_true hpB
    simp only at p1 p2 p3 p4 p5 p6 p7 p8 p9
    clear hpB hxk
    obtain ⟨d,rfl⟩:=Int.eq_ofNat_of_zero_le p1
    obtain ⟨cr,rfl⟩:=Int.eq_ofNat_of_zero_le p3
    have hc0:=hc 0 _ rfl
    have hc1:=hc 1 _ rfl
    have hc2:=hc 2 _ rfl
    have hc3:=hc 3 _ rfl
    clear hc
    simp only [Nat.add_zero] at hc0
    have hdc:d≠cr:=by omega
    have hd24:d<24:=by omega
    have hc24:cr<24:=by omega
    have HG:=hide (bal_step (sel:=Posting.gas) (F:=balF Posting.gas (ps.take k)) (d:=d) (c:=cr) (g:=ga) (m:=mo) hdc rfl)
    have HM:=hide (bal_step (sel:=Posting.money) (F:=balF Posting.money (ps.take k)) (d:=d) (c:=cr) (g:=ga) (m:=mo) hdc rfl)
    have b1:=bal_gas_bd hPR d
    have b2:=bal_gas_bd hPR cr
    have b3:=bal_money_bd hPR d
    have b4:=bal_money_bd hPR cr
    rw [hLK] at b1 b2 b3 b4
    have HTG:=hide (show balL (balF Posting.gas (ps.take (k+1)))=balL (fun a=>balF Posting.gas (ps.take k) a+dlt Posting.gas ⟨d,cr,ga,mo⟩ a) by rw [HTK.out]; congr 1; funext a; rw [balF_snoc])
    have HTM:=hide (show balL (balF Posting.money (ps.take (k+1)))=balL (fun a=>balF Posting.money (ps.take k) a+dlt Posting.money ⟨d,cr,ga,mo⟩ a) by rw [HTK.out]; congr 1; funext a; rw [balF_snoc])
    clear HTK hPR hLK
    generalize hF:balF Posting.gas (ps.take k)=F at *
    generalize hM:balF Posting.money (ps.take k)=M at *
    clear hF hM
    have v1:wr.cell? ⟨(w.heap.size+1),d,none⟩=some (.int .i64 (F d)):=by simpa using hr1.get intC_len (balL_at F d hd24) (j:=0) rfl
    have v2:wr.cell? ⟨(w.heap.size+1),cr,none⟩=some (.int .i64 (F cr)):=by simpa using hr1.get intC_len (balL_at F cr hc24) (j:=0) rfl
    have v3:wr.cell? ⟨w.heap.size,d,none⟩=some (.int .i64 (M d)):=by simpa using hr2.get intC_len (balL_at M d hd24) (j:=0) rfl
    have v4:wr.cell? ⟨w.heap.size,cr,none⟩=some (.int .i64 (M cr)):=by simpa using hr2.get intC_len (balL_at M cr hc24) (j:=0) rfl
    have f1:=hr1.frozen d
    have f2:=hr1.frozen cr
    have f3:=hr2.frozen d
    have f4:=hr2.frozen cr
    have hdc':cr≠d:=by omega
    go_wp2_with fail
    refine wp_region_tail 9 (by kernel_rfl) (by kernel_rfl) ?_
    simp only [List.take_succ_cons,List.take_zero,List.drop_succ_cons,List.drop_zero]
    repeat (go_big_quiet_step (fail))
    refine wpQuiet_nil ?_
    go_wp2_with fail
    refine wp_region_tail 9 (by kernel_rfl) (by kernel_rfl) ?_
    simp only [List.take_succ_cons,List.take_zero,List.drop_succ_cons,List.drop_zero]
    repeat (go_big_quiet_step (fail))
    refine wpQuiet_nil ?_
    go_wp2_with fail
    refine wp_region_tail 9 (by kernel_rfl) (by kernel_rfl) ?_
    simp only [List.take_succ_cons,List.take_zero,List.drop_succ_cons,List.drop_zero]
    repeat (go_big_quiet_step (fail))
    refine wpQuiet_nil ?_
    go_wp2_with fail
    refine wp_region_tail 9 (by kernel_rfl) (by kernel_rfl) ?_
    simp only [List.take_succ_cons,List.take_zero,List.drop_succ_cons,List.drop_zero]
    repeat (go_big_quiet_step (fail))
    refine wpQuiet_nil ?_
    go_wp2_with fail
    go_roundw
    case rel=>
     refine ⟨k+1,by omega,by go_num,?_,?_,?_⟩
     ·rw [HTG.out, ←HG.out]
      exact ((((hr1.set1 (by rw [balL_len]; exact hd24) _).set1 (by rw [List.length_set,balL_len]; exact hc24) _).far (p:=⟨w.heap.size,d,none⟩) hne _).far (p:=⟨w.heap.size,cr,none⟩) hne _).ext ((((Ext.alloc _ _).drew).drew).drew).drew
     ·rw [HTM.out, ←HM.out]
      exact ((((hr2.far (p:=⟨(w.heap.size+1),d,none⟩) hne.symm _).far (p:=⟨(w.heap.size+1),cr,none⟩) hne.symm _).set1 (by rw [balL_len]; exact hd24) _).set1 (by rw [List.length_set,balL_len]; exact hc24) _).ext ((((Ext.alloc _ _).drew).drew).drew).drew
     ·refine ((((Ext.and_alloc ?_ _).drew).drew).drew).drew
      repeat (refine Ext.setCell ?_ (by first | (simp; done) | (simp; omega) | omega) _)
      exact hx
    case measure=>simp [intOf]; omega
   ·go_wp2_with fail
    go_ret2
    have hkn:ps.take k=ps:=List.take_of_length_le (by have:=hs.len; omega)
    rw [hkn] at hr1 hr2
    exact ⟨_,_,rfl,by omega,by omega,by omega,hr1,hr2,hx⟩
end Go.Proofs.YtfkpghdmljjegaaGreat
namespace Go.Proofs.YtfkpghdmljjegaaGreat
open Go.RowKit
def NewBal (sel:Posting→Int) (ps:List Posting) (w:World) (e:Ending) (w':World):Prop:=
 ∃g,e= .returned (.slice (some ⟨g,0,none⟩) 24 24)∧w.heap.size≤g∧RowOf w' g 2 intC (balL (balF sel ps))∧Ext w w'
set_option maxHeartbeats 4000000 in
theorem c_l30Gas (A:Option Addr) (n c:Nat) (ps:List Posting) (w:World) (hs:SliceOf w 4 Posting.cells A n c ps) (hled:ledB ps=true):
  Calls Tryz.prog 97 #[.slice A n c,.bool false] w (NewBal Posting.gas ps w):=by
 obtain ⟨hlen,hall⟩:=ledB_true hled
 have hn:n≤300:=by rw [hs.len]; exact hlen
 have HA:=hide hall
 clear hall hlen hled
 have hmk:=run_make24
 go_enter Tryz.func97,Tryz.ntmps97
 go_wp2_with fail
 clear hmk
 go_loopw [6] (fun i wr=>∃(k:Nat),k≤n∧i= .int .i64 k∧RowOf wr w.heap.size 2 intC (balL (balF Posting.gas (ps.take k)))∧Ext w wr) (fun i _=>n-(intOf i).toNat)
 case atStart=>exact ⟨0,Nat.zero_le _,rfl,zero_row w,Ext.alloc _ _⟩
 case round=>
  obtain ⟨k,hk,rfl,hr1,hx⟩:=hrel
  have hl1:=hr1.lt
  by_cases hlt:k<n
  ·obtain ⟨b,off,p,rfl,hb,hxk,hc⟩:=(hs.ext hx).get hlt
   have hbl:b<w.heap.size:=by obtain ⟨b',off',_,hA,hb',_⟩:=hs.get hlt; injection hA with hA; injection hA with hA; omega
   have hbne:b≠w.heap.size:=by omega
   have hpB:=HA.out p (List.mem_of_getElem? hxk)
   have HTK:=hide (take_snoc hxk)
   have hPR:∀q∈ps.take k,postB q=true:=fun q hq=>HA.out q (List.mem_of_mem_take hq)
   have hLK:(ps.take k).length=k:=by rw [List.length_take, ←hs.len]; omega
   obtain ⟨d,cr,ga,mo⟩:=p
   obtain ⟨p1,p2,p3,p4,p5,p6,p7,p8,p9⟩:=postB_true hpB
   simp only at p1 p2 p3 p4 p5 p6 p7 p8 p9
   clear hpB hxk
   obtain ⟨d,rfl⟩:=Int.eq_ofNat_of_zero_le p1
   obtain ⟨cr,rfl⟩:=Int.eq_ofNat_of_zero_le p3
   have hc0:=hc 0 _ rfl
   have hc1:=hc 1 _ rfl
   have hc2:=hc 2 _ rfl
   have hc3:=hc 3 _ rfl
   clear hc
   simp only [Nat.add_zero] at hc0
   have hdc:d≠cr:=by omega
   have hd24:d<24:=by omega
   have hc24:cr<24:=by omega
   have HG:=hide (bal_step (sel:=Posting.gas) (F:=balF Posting.gas (ps.take k)) (d:=d) (c:=cr) (g:=ga) (m:=mo) hdc rfl)
   have b1:=bal_gas_bd hPR d
   have b2:=bal_gas_bd hPR cr
   rw [hLK] at b1 b2
   have HTG:=hide (show balL (balF Posting.gas (ps.take (k+1)))=balL (fun a=>balF Posting.gas (ps.take k) a+dlt Posting.gas ⟨d,cr,ga,mo⟩ a) by rw [HTK.out]; congr 1; funext a; rw [balF_snoc])
   clear HTK hPR hLK
   generalize hF:balF Posting.gas (ps.take k)=F at *
   clear hF
   have v1:wr.cell? ⟨w.heap.size,d,none⟩=some (.int .i64 (F d)):=by simpa using hr1.get intC_len (balL_at F d hd24) (j:=0) rfl
   have v2:wr.cell? ⟨w.heap.size,cr,none⟩=some (.int .i64 (F cr)):=by simpa using hr1.get intC_len (balL_at F cr hc24) (j:=0) rfl
   have f1:=hr1.frozen d
   have f2:=hr1.frozen cr
   have hdc':cr≠d:=by omega
   go_wp2_with fail
   refine wp_region_tail 17 (by kernel_rfl) (by kernel_rfl) ?_
   simp only [List.take_succ_cons,List.take_zero,List.drop_succ_cons,List.drop_zero]
   repeat (go_big_quiet_step (fail))
   refine wpQuiet_nil ?_
   go_wp2_with fail
   refine wp_region_tail 17 (by kernel_rfl) (by kernel_rfl) ?_
   simp only [List.take_succ_cons,List.take_zero,List.drop_succ_cons,List.drop_zero]
   repeat (go_big_quiet_step (fail))
   refine wpQuiet_nil ?_
   go_wp2_with fail
   go_roundw
   case rel=>
    refine ⟨k+1,by omega,by go_num,?_,?_⟩
    ·rw [HTG.out, ←HG.out]
     exact ((hr1.set1 (by rw [balL_len]; exact hd24) _).set1 (by rw [List.length_set,balL_len]; exact hc24) _).ext (((Ext.refl _).drew).drew)
    ·refine (Ext.drew (Ext.drew ?_))
     repeat (refine Ext.setCell ?_ (by first | (simp; done) | (simp; omega) | omega) _)
     exact hx
   case measure=>simp [intOf]; omega
  ·go_wp2_with fail
   go_ret
   have hkn:ps.take k=ps:=List.take_of_length_le (by have:=hs.len; omega)
   rw [hkn] at hr1
   exact ⟨_,rfl,Nat.le_refl _,hr1,hx⟩
end Go.Proofs.YtfkpghdmljjegaaGreat
