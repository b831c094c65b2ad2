/-
  IsConserved of the program and of the reference.
-/
import Derived.Test.YtfkpghdmljjegaaGreatVe39
import Derived.Test.YtfkpghdmljjegaaGreatVe24
import Derived.Test.YtfkpghdmljjegaaGreatVe26
import Derived.Test.YtfkpghdmljjegaaGreatVe38
import Derived.Test.YtfkpghdmljjegaaGreatVe17
import Derived.Test.YtfkpghdmljjegaaGreatVe06
import Derived.Test.YtfkpghdmljjegaaGreatVe00
import Derived.Test.YtfkpghdmljjegaaGreatVe08
import Derived.OpenShut
import Derived.ProofKit
import Derived.ShutString
import Derived.ChangeOld
import Derived.Lib.SmallJoins
namespace Go.Proofs.YtfkpghdmljjegaaGreat
open Go.RowKit
theorem c_l31Small (A:Option Addr) (n c:Nat) (zs:List Int) (w:World) (hs:SliceOf w 1 intC A n c zs):
  Calls Tryz.prog 95 #[.slice A n c] w fun e w'=>e= .returned (.bool (allB zs (-1000000000) 1000000000))∧w=w':=by
 have hm:=hs.max
 have hcap:=hs.cap
 go_enter Tryz.func95,Tryz.ntmps95
 go_wp2_with fail
 go_loop [2,3] (fun r i=>∃k:Nat,k≤n∧r= .bool false∧i= .int .i64 k∧Hid (∀(j:Nat) (z:Int),j<k→zs[j]? =some z→inB z (-1000000000) 1000000000=true)) (fun _ i=>n-(intOf i).toNat)
 case atStart=>exact ⟨0,Nat.zero_le _,rfl,rfl,hide (fun j z hj=>absurd hj (by omega))⟩
 case round=>
  obtain ⟨k,hk,rfl,rfl,HK⟩:=hrel
  by_cases hlt:k<n
  ·obtain ⟨b,off,x,rfl,hb,hxk,hc0⟩:=hs.get1 hlt
   have HX:=hide hxk
   clear hxk
   cases hi0:inB x (-1000000000) 1000000000
   ·go_wp2_with (go_at_call 174; refine (c_l29BalanceL _ _).mono ?_; rintro e w' ⟨rfl,rfl⟩)
    go_ret
    exact ⟨by rw [all_take_false HX.out hi0]; rfl,rfl⟩
   ·go_wp2_with (go_at_call 174; refine (c_l29BalanceL _ _).mono ?_; rintro e w' ⟨rfl,rfl⟩)
    go_round
    case rel=>
     refine ⟨k+1,by omega,rfl,by go_num,hide fun j z hj hz=> ?_⟩
     by_cases e:j=k
     ·subst e; rw [HX.out] at hz; injection hz with hz; subst hz; exact hi0
     ·exact HK.out j z (by omega) hz
    case measure=>simp [intOf]; omega
  ·go_wp2_with fail
   go_ret
   refine ⟨?_,rfl⟩
   rw [all_take_true (fun j z hz=>HK.out j z (by have:=(List.getElem?_eq_some_iff.1 hz).1; have:=hs.len; omega) hz)]; rfl
def consB (got chg:List Int) (ps:List Posting):Bool:=
 allB got (-1000000000) 1000000000&&allB chg (-1000000000) 1000000000&&ledB ps&&(balF Posting.gas ps 16== -sumI got)&&(sumI chg==sumI got)
theorem cons_ways (got chg:List Int) (ps:List Posting):
  (allB got (-1000000000) 1000000000=false∧consB got chg ps=false)∨
  (allB got (-1000000000) 1000000000=true∧allB chg (-1000000000) 1000000000=false∧consB got chg ps=false)∨
  (allB got (-1000000000) 1000000000=true∧allB chg (-1000000000) 1000000000=true∧ledB ps=false∧consB got chg ps=false)∨
  (allB got (-1000000000) 1000000000=true∧allB chg (-1000000000) 1000000000=true∧ledB ps=true∧(balF Posting.gas ps 16== -sumI got)=false∧consB got chg ps=false)∨
  (allB got (-1000000000) 1000000000=true∧allB chg (-1000000000) 1000000000=true∧ledB ps=true∧(balF Posting.gas ps 16== -sumI got)=true∧consB got chg ps=(sumI chg==sumI got)):=by
 unfold consB
 cases allB got (-1000000000) 1000000000 <;> cases allB chg (-1000000000) 1000000000 <;> cases ledB ps <;> cases (balF Posting.gas ps 16== -sumI got) <;> simp
theorem cons_ways' (got chg:List Int) (ps:List Posting):
  (ledB ps=false∧consB got chg ps=false)∨(ledB ps=true∧allB got (-1000000000) 1000000000=false∧consB got chg ps=false)∨
  (ledB ps=true∧allB got (-1000000000) 1000000000=true∧allB chg (-1000000000) 1000000000=false∧consB got chg ps=false)∨
  (allB got (-1000000000) 1000000000=true∧allB chg (-1000000000) 1000000000=true∧ledB ps=true∧(balF Posting.gas ps 16== -sumI got)=false∧consB got chg ps=false)∨
  (allB got (-1000000000) 1000000000=true∧allB chg (-1000000000) 1000000000=true∧ledB ps=true∧(balF Posting.gas ps 16== -sumI got)=true∧consB got chg ps=(sumI chg==sumI got)):=by
 unfold consB
 cases allB got (-1000000000) 1000000000 <;> cases allB chg (-1000000000) 1000000000 <;> cases ledB ps <;> cases (balF Posting.gas ps 16== -sumI got) <;> simp
set_option maxHeartbeats 2000000 in
theorem c_IsConserved (A0 A1 A2 A3 A4:Option Addr) (n0 c0 n1 c1 n2 c2 n3 c3 n4 c4:Nat) (got chg:List Int) (ps:List Posting) (w:World) (h2:SliceOf w 1 intC A2 n2 c2 got) (h3:SliceOf w 1 intC A3 n3 c3 chg) (h4:SliceOf w 4 Posting.cells A4 n4 c4 ps) (hn2:n2≤1048576) (hn3:n3≤1048576):
  Calls Tryz.prog 16 #[.agg #[.slice A0 n0 c0,.slice A1 n1 c1,.slice A2 n2 c2,.slice A3 n3 c3,.slice A4 n4 c4]] w (Ret (.bool (consB got chg ps)) w):=by
 rcases cons_ways got chg ps with ⟨k1,hr⟩ | ⟨k1,k2,hr⟩ | ⟨k1,k2,k3,hr⟩ | ⟨k1,k2,k3,k4,hr⟩ | ⟨k1,k2,k3,k4,hr⟩
 ·have HR:=hide hr
  clear hr
  go_enter Tryz.func16,Tryz.ntmps16
  go_wp2_with fail
  refine (c_allWithin A2 n2 c2 got _ _ _ (h2.ext (Ext.alloc _ _))).mono ?_
  rintro e w' ⟨rfl,rfl⟩
  rw [k1]
  go_wp2_with fail
  go_ret
  exact Ret.bool HR.out (Ext.alloc _ _)
 ·have HR:=hide hr
  clear hr
  go_enter Tryz.func16,Tryz.ntmps16
  go_wp2_with fail
  refine (c_allWithin A2 n2 c2 got _ _ _ (h2.ext (Ext.alloc _ _))).mono ?_
  rintro e w' ⟨rfl,rfl⟩
  rw [k1]
  go_wp2_with fail
  refine (c_allWithin A3 n3 c3 chg _ _ _ (h3.ext (Ext.alloc _ _))).mono ?_
  rintro e w' ⟨rfl,rfl⟩
  rw [k2]
  go_wp2_with fail
  go_ret
  exact Ret.bool HR.out (Ext.alloc _ _)
 ·have HR:=hide hr
  clear hr
  go_enter Tryz.func16,Tryz.ntmps16
  go_wp2_with fail
  refine (c_allWithin A2 n2 c2 got _ _ _ (h2.ext (Ext.alloc _ _))).mono ?_
  rintro e w' ⟨rfl,rfl⟩
  rw [k1]
  go_wp2_with fail
  refine (c_allWithin A3 n3 c3 chg _ _ _ (h3.ext (Ext.alloc _ _))).mono ?_
  rintro e w' ⟨rfl,rfl⟩
  rw [k2]
  go_wp2_with fail
  refine (c_isLedger A4 n4 c4 ps _ (h4.ext (Ext.alloc _ _))).mono ?_
  rw [k3]
  rintro e w1 ⟨rfl,hx1⟩
  go_wp2_with fail
  go_ret
  exact Ret.bool HR.out hx1.box
 all_goals
  have HR:=hide hr
  clear hr
  have hb2:=sumI_bd got (allB_mem k1)
  have hb3:=sumI_bd chg (allB_mem k2)
  rw [←h2.len] at hb2
  rw [←h3.len] at hb3
  go_enter Tryz.func16,Tryz.ntmps16
  go_wp2_with fail
  refine (c_allWithin A2 n2 c2 got _ _ _ (h2.ext (Ext.alloc _ _))).mono ?_
  rintro e w' ⟨rfl,rfl⟩
  rw [k1]
  go_wp2_with fail
  refine (c_allWithin A3 n3 c3 chg _ _ _ (h3.ext (Ext.alloc _ _))).mono ?_
  rintro e w' ⟨rfl,rfl⟩
  rw [k2]
  go_wp2_with fail
  refine (c_isLedger A4 n4 c4 ps _ (h4.ext (Ext.alloc _ _))).mono ?_
  rw [k3]
  rintro e w1 ⟨rfl,hx1⟩
  have hcl1:=hx1.cell
  go_wp2_with fail
  refine (c_balancesOf A4 n4 c4 ps _ (h4.ext hx1.box) k3).mono ?_
  rintro e w2 ⟨g1,g2,rfl,hg1,hg2,hne,hr1,hr2,hx2⟩
  have hx12:=hx1.trans hx2
  have v1:w2.cell? ⟨g1,16,none⟩=some (.int .i64 (balF Posting.gas ps 16)):=by simpa using hr1.get intC_len (balL_at (balF Posting.gas ps) 16 (by omega)) (j:=0) rfl
  have hl1:=hr1.lt
  have hb0:∀j,w2.cell? ⟨w.heap.size,j,none⟩=(w.alloc (Obj.cells #[.slice A0 n0 c0,.slice A1 n1 c1,.slice A2 n2 c2,.slice A3 n3 c3,.slice A4 n4 c4] 28)).cell? ⟨w.heap.size,j,none⟩:=fun j=>hx12.cell _ _ (by simp)
  have hz:=hx12.size
  have hz2:w.heap.size<w2.heap.size:=by simp at hz; omega
  clear hcl1 hz
  have e1:IntKind.i64.wrap (-sumI got)= -sumI got:=IntWalk.i64_in _ (by omega)
  go_wp2_with fail
  refine wp_region_later (by kernel_rfl) (by kernel_rfl) ?_
  repeat (go_big_quiet_step ((first | (go_at_call 93; with_reducible exact quiet_later_same (c_sumOf A2 n2 c2 got _ (h2.ext (hx12.box.trans (ext_later _ _))) k1 hn2)) | (go_at_call 93; with_reducible exact quiet_later_same (c_sumOf A3 n3 c3 chg _ (h3.ext (hx12.box.trans (ext_later _ _))) k2 hn3)))))
  refine wpQuiet_nil ?_
  intro w3 hx3
  go_wp2_with fail
  go_ret
  exact Ret.bool HR.out (hx12.trans hx3).box
set_option maxHeartbeats 2000000 in
theorem c_specIsConserved (A0 A1 A2 A3 A4:Option Addr) (n0 c0 n1 c1 n2 c2 n3 c3 n4 c4:Nat) (got chg:List Int) (ps:List Posting) (w:World) (h2:SliceOf w 1 intC A2 n2 c2 got) (h3:SliceOf w 1 intC A3 n3 c3 chg) (h4:SliceOf w 4 Posting.cells A4 n4 c4 ps) (hn2:n2≤1048576) (hn3:n3≤1048576):
  Calls Tryz.prog 17 #[.agg #[.slice A0 n0 c0,.slice A1 n1 c1,.slice A2 n2 c2,.slice A3 n3 c3,.slice A4 n4 c4]] w (Ret (.bool (consB got chg ps)) w):=by
 rcases cons_ways' got chg ps with ⟨k1,hr⟩ | ⟨k1,k2,hr⟩ | ⟨k1,k2,k3,hr⟩ | ⟨k1,k2,k3,k4,hr⟩ | ⟨k1,k2,k3,k4,hr⟩
 ·have HR:=hide hr
  clear hr
  go_enter Tryz.func17,Tryz.ntmps17
  go_wp2_with fail
  refine (c_l30List A4 n4 c4 ps _ (h4.ext (Ext.alloc _ _))).mono ?_
  rw [k1]
  rintro e w1 ⟨rfl,hx1⟩
  have hcl1:=hx1.cell
  go_wp2_with fail
  go_ret
  exact Ret.bool HR.out hx1.box
 ·have HR:=hide hr
  clear hr
  go_enter Tryz.func17,Tryz.ntmps17
  go_wp2_with fail
  refine (c_l30List A4 n4 c4 ps _ (h4.ext (Ext.alloc _ _))).mono ?_
  rw [k1]
  rintro e w1 ⟨rfl,hx1⟩
  have hcl1:=hx1.cell
  go_wp2_with fail
  refine (c_l31Small A2 n2 c2 got _ (h2.ext hx1.box)).mono ?_
  rintro e w' ⟨rfl,rfl⟩
  rw [k2]
  go_wp2_with fail
  go_ret
  exact Ret.bool HR.out hx1.box
 ·have HR:=hide hr
  clear hr
  go_enter Tryz.func17,Tryz.ntmps17
  go_wp2_with fail
  refine (c_l30List A4 n4 c4 ps _ (h4.ext (Ext.alloc _ _))).mono ?_
  rw [k1]
  rintro e w1 ⟨rfl,hx1⟩
  have hcl1:=hx1.cell
  go_wp2_with fail
  refine (c_l31Small A2 n2 c2 got _ (h2.ext hx1.box)).mono ?_
  rintro e w' ⟨rfl,rfl⟩
  rw [k2]
  go_wp2_with fail
  refine (c_l31Small A3 n3 c3 chg _ (h3.ext hx1.box)).mono ?_
  rintro e w' ⟨rfl,rfl⟩
  rw [k3]
  go_wp2_with fail
  go_ret
  exact Ret.bool HR.out hx1.box
 all_goals
  have HR:=hide hr
  clear hr
  have hb2:=sumI_bd got (allB_mem k1)
  have hb3:=sumI_bd chg (allB_mem k2)
  rw [←h2.len] at hb2
  rw [←h3.len] at hb3
  go_enter Tryz.func17,Tryz.ntmps17
  go_wp2_with fail
  refine (c_l30List A4 n4 c4 ps _ (h4.ext (Ext.alloc _ _))).mono ?_
  rw [k3]
  rintro e w1 ⟨rfl,hx1⟩
  have hcl1:=hx1.cell
  go_wp2_with fail
  refine (c_l31Small A2 n2 c2 got _ (h2.ext hx1.box)).mono ?_
  rintro e w' ⟨rfl,rfl⟩
  rw [k1]
  go_wp2_with fail
  refine (c_l31Small A3 n3 c3 chg _ (h3.ext hx1.box)).mono ?_
  rintro e w' ⟨rfl,rfl⟩
  rw [k2]
  go_wp2_with fail
  refine (c_l01Sum A2 n2 c2 got _ (h2.ext hx1.box) k1 hn2).mono ?_
  rintro e w' ⟨rfl,rfl⟩
  go_wp2_with fail
  refine (c_l30Gas A4 n4 c4 ps _ (h4.ext hx1.box) k3).mono ?_
  rintro e w2 ⟨g1,rfl,hg1,hr1,hx2⟩
  have hx12:=hx1.trans hx2
  have v1:w2.cell? ⟨g1,16,none⟩=some (.int .i64 (balF Posting.gas ps 16)):=by simpa using hr1.get intC_len (balL_at (balF Posting.gas ps) 16 (by omega)) (j:=0) rfl
  have hl1:=hr1.lt
  have hb0:∀j,w2.cell? ⟨w.heap.size,j,none⟩=(w.alloc (Obj.cells #[.slice A0 n0 c0,.slice A1 n1 c1,.slice A2 n2 c2,.slice A3 n3 c3,.slice A4 n4 c4] 28)).cell? ⟨w.heap.size,j,none⟩:=fun j=>hx12.cell _ _ (by simp)
  clear hcl1
 ·go_wp2_with fail
  go_ret
  exact Ret.bool HR.out hx12.box
 ·go_wp2_with fail
  refine (c_l01Sum A3 n3 c3 chg _ (h3.ext hx12.box) k2 hn3).mono ?_
  rintro e w' ⟨rfl,rfl⟩
  go_wp2_with fail
  go_ret
  exact Ret.bool HR.out hx12.box
end Go.Proofs.YtfkpghdmljjegaaGreat
namespace Go.Proofs.YtfkpghdmljjegaaGreat
open Go.RowKit
theorem sumI_Z:∀l:List Int,sumI l=sumZ l
 | []=>rfl
 | x::l=>by simp only [sumI,sumZ,sumI_Z l]
theorem Dist.low {k:Nat} {o r o':List Int} (h:Dist k o r o') {lo:Int} (ho:∀z∈o,lo≤z):∀z∈o',lo≤z:=by
 induction h with
 | zero=>exact ho
 | step hb hy h ih=>
  refine ih (fun z hz=> ?_)
  rcases List.mem_or_eq_of_mem_set hz with hz | rfl
  ·exact ho z hz
  ·have:=ho _ (List.mem_of_getElem? hy); omega
theorem Shares.nn {t:Int} {ws o:List Int} (h:Shares t ws o) (ht:0≤t) (hw:∀z∈ws,0≤z) (hs:0<sumZ ws):∀z∈o,0≤z:=by
 refine Dist.low h (fun z hz=> ?_)
 obtain ⟨w,hwm,rfl⟩:=List.mem_map.1 hz
 exact Int.ediv_nonneg (Int.mul_nonneg ht (hw w hwm)) (by omega)
theorem le_sumZ:∀ {l:List Int},(∀z∈l,0≤z)→∀z∈l,z≤sumZ l
 | [],_,z,hz=>by cases hz
 | x::l,h,z,hz=>by
  have h1:=h x (by simp)
  have h2:=sumZ_nonneg (l:=l) (fun y hy=>h y (by simp [hy]))
  simp only [sumZ]
  rcases List.mem_cons.1 hz with rfl | hz
  ·omega
  ·have:=le_sumZ (l:=l) (fun y hy=>h y (by simp [hy])) z hz; omega
theorem Shares.bd {t:Int} {ws o:List Int} (h:Shares t ws o) (ht:0≤t) (hw:∀z∈ws,0≤z) (hs:0<sumZ ws):∀z∈o,0≤z∧z≤t:=fun z hz=>by
 have h1:=h.nn ht hw hs
 have h2:=le_sumZ h1 z hz
 rw [h.sum hs] at h2
 exact ⟨h1 z hz,h2⟩
theorem Alloc.ex (os:List Order):∀(rs:List Reading) (g:List Int),∃g',Alloc os g rs g'
 | [],g=>⟨g,.nil g⟩
 | x::rs,g=>by
  by_cases hz:sumZ (wts os x)=0
  ·obtain ⟨g',h⟩:=Alloc.ex os rs g
   exact ⟨g',.skip hz h⟩
  ·have hs:0<sumZ (wts os x):=by have:=sumZ_nonneg (wts_nonneg os x); omega
   obtain ⟨sh,hsh⟩:=Shares.ex (absZ x.amount) hs
   obtain ⟨g',h⟩:=Alloc.ex os rs (addS (sgn x) g sh)
   exact ⟨g',.add hs hsh h⟩
theorem gotOf_alloc (os:List Order) (rd:List Reading):Alloc os (List.replicate os.length 0) rd (gotOf os rd):=by
 obtain ⟨g,h⟩:=Alloc.ex os rd (List.replicate os.length 0)
 rw [gotOf_eq h]; exact h
theorem addS_bdC {B t s:Int} (hs:s=1∨s= -1):∀ {g sh:List Int},(∀z∈g,-B≤z∧z≤B)→(∀z∈sh,0≤z∧z≤t)→∀z∈addS s g sh,-(B+t)≤z∧z≤B+t
 | [],sh,_,_,z,hz=>by simp [addS] at hz
 | a::g,[],_,_,z,hz=>by simp [addS] at hz
 | a::g,b::sh,hg,hb,z,hz=>by
  simp only [addS,List.zipWith_cons_cons,List.mem_cons] at hz
  rcases hz with rfl | hz
  ·have h1:=hg a (by simp)
   have h2:=hb b (by simp)
   rcases hs with rfl | rfl <;> omega
  ·exact addS_bdC hs (g:=g) (sh:=sh) (fun y hy=>hg y (by simp [hy])) (fun y hy=>hb y (by simp [hy])) z hz
theorem sgn_ways (x:Reading):sgn x=1∨sgn x= -1:=by unfold sgn; split <;> omega
theorem absZ_le {z m:Int} (h: -m≤z∧z≤m):0≤absZ z∧absZ z≤m:=by unfold absZ; split <;> omega
theorem Alloc.bd {os:List Order} {g g':List Int} {rs:List Reading} (h:Alloc os g rs g'):∀ {B:Int},(∀x∈rs,-30000≤x.amount∧x.amount≤30000)→(∀z∈g,-B≤z∧z≤B)→∀z∈g',-(B+30000*(rs.length:Int))≤z∧z≤B+30000*(rs.length:Int):=by
 induction h with
 | nil=>intro B _ hg z hz; have:=hg z hz; simp; omega
 | skip _ _ ih=>
  intro B hr hg z hz
  have:=ih (B:=B) (fun y hy=>hr y (by simp [hy])) hg z hz
  simp only [List.length_cons]; omega
 | @add g g' sh x rs hs hd h ih=>
  intro B hr hg z hz
  have h1:=absZ_le (hr x (by simp))
  have h2:=addS_bdC (B:=B) (t:=30000) (sgn_ways x) hg (fun y hy=>by have:=hd.bd h1.1 (wts_nonneg os x) hs y hy; omega)
  have:=ih (B:=B+30000) (fun y hy=>hr y (by simp [hy])) h2 z hz
  simp only [List.length_cons]; omega
theorem reads_amt {nn:Int} {rd:List Reading} (h:readsB nn rd=true):rd.length≤48∧∀x∈rd,-30000≤x.amount∧x.amount≤30000:=by
 unfold readsB at h
 rw [Bool.and_eq_true,decide_eq_true_eq,List.all_eq_true] at h
 refine ⟨h.1,fun x hx=> ?_⟩
 obtain ⟨k,hk,rfl⟩:=List.mem_iff_getElem.1 hx
 have h1:=h.2 k (by simpa using hk)
 rw [readOk_at (List.getElem?_eq_getElem hk),Bool.and_eq_true] at h1
 have h2:=h1.1
 simp only [readB,Bool.and_eq_true,inB_true] at h2
 omega
theorem gotOf_bd {nn:Int} {os:List Order} {rd:List Reading} (h:readsB nn rd=true):∀z∈gotOf os rd,-1440000≤z∧z≤1440000:=fun z hz=>by
 obtain ⟨h1,h2⟩:=reads_amt h
 have:=(gotOf_alloc os rd).bd (B:=0) h2 (fun y hy=>by have:=List.eq_of_mem_replicate hy; omega) z hz
 omega
theorem gotOf_len (os:List Order) (rd:List Reading):(gotOf os rd).length=os.length:=((gotOf_alloc os rd).law (by simp)).1
theorem accAt_sum {l:List Int} {k:Nat} (hk:k<l.length) (v:Int):sumZ (accAt l k v)=sumZ l+v:=by
 unfold accAt
 have h:=List.getElem?_eq_getElem hk
 rw [sumZ_set _ _ _ _ h,zAt_some h]
 omega
theorem sumZ_rep0 (n:Nat):sumZ (List.replicate n (0:Int))=0:=by
 induction n with
 | zero=>rfl
 | succ n ih=>rw [List.replicate_succ]; simp only [sumZ,ih]; rfl
theorem accL_sum {os:List Order} {g:List Int} (ho:∀o∈os,0≤o.shipper∧o.shipper≤15) (hl:g.length=os.length):∀j:Nat,j≤os.length→sumZ (accL id os g j)=sumZ (g.take j)
 | 0,_=>by simp only [accL,List.take_zero]; rw [sumZ_rep0]; rfl
 | j+1,hj=>by
  have ih:=accL_sum ho hl j (by omega)
  have h1:=List.getElem?_eq_getElem (l:=os) (i:=j) (by omega)
  have h2:=List.getElem?_eq_getElem (l:=g) (i:=j) (by omega)
  have h3:=ho _ (List.mem_of_getElem? h1)
  rw [accL_step h1 h2,accAt_sum (by rw [accL_len]; omega),ih,sumZ_take h2]; rfl
theorem balF_app (sel:Posting→Int) (a b:List Posting) (x:Nat):balF sel (a++b) x=balF sel a x+balF sel b x:=by
 induction a with
 | nil=>simp [balF]
 | cons p a ih=>simp only [List.cons_append,balF,ih]; omega
theorem postsK_gas (band percent price:Int) (ts:List Tier) (C T:List Int) {k:Nat} (hk:k<16):balF Posting.gas (postsK band percent price ts C T k) 16= -zAt C k:=by
 have h1:dlt Posting.gas ⟨k,16,zAt C k,0⟩ 16= -zAt C k:=by
  unfold dlt
  rw [if_neg (by simp; omega)]; simp
 have h2:dlt Posting.gas ⟨17,k,0,feeK band percent price ts C T k⟩ 16=0:=by
  unfold dlt
  rw [if_neg (by simp)]
  simp
 unfold postsK
 rw [balF_app]
 by_cases h:zAt C k≠0
 ·rw [if_pos h]
  split
  ·simp only [balF,h1,h2]; omega
  ·simp only [balF,h1]; omega
 ·rw [if_neg h]
  have h0:zAt C k=0:=by omega
  split
  ·simp only [balF,h2,h0]; rfl
  ·simp only [balF,h0]; rfl
theorem postsL_gas (band percent price:Int) (ts:List Tier) {C:List Int} (T:List Int) (hC:C.length=16):∀k:Nat,k≤16→balF Posting.gas (postsL band percent price ts C T k) 16= -sumZ (C.take k)
 | 0,_=>by simp [postsL,balF,sumZ]
 | k+1,hk=>by
  have h:=List.getElem?_eq_getElem (l:=C) (i:=k) (by omega)
  simp only [postsL]
  rw [balF_app,postsL_gas band percent price ts T hC k (by omega),postsK_gas _ _ _ _ _ _ (by omega),sumZ_take h,zAt_some h]; omega
theorem postsL_ok {band percent price:Int} {ts:List Tier} {C T:List Int} {P:Posting→Prop} (h:∀k,k<16→∀p∈postsK band percent price ts C T k,P p):∀k:Nat,k≤16→∀p∈postsL band percent price ts C T k,P p
 | 0,_,p,hp=>by cases hp
 | k+1,hk,p,hp=>by
  simp only [postsL] at hp
  rcases List.mem_append.1 hp with hp | hp
  ·exact postsL_ok h k (by omega) p hp
  ·exact h k (by omega) p hp
theorem chg_bdC {ex:Int} (l:List Tier) (hl:∀x∈l,0≤x.factor∧x.factor≤1000) (b:Int) (hb:b≤ex):0≤chg ex l b∧chg ex l b≤(ex-b)*1000:=by
 induction l generalizing b with
 | nil=>rw [chg_nil]; omega
 | cons x l ih=>
  obtain ⟨f0,f1⟩:=hl x (by simp)
  have ih':=fun b hb=>ih (fun y hy=>hl y (by simp [hy])) b hb
  by_cases e:l=[]
  ·subst e
   rw [chg_last]
   split
   ·exact ⟨Int.mul_nonneg (by omega) f0,Int.mul_le_mul_of_nonneg_left f1 (by omega)⟩
   ·omega
  ·rw [chg_cons _ _ _ _ e]
   split
   ·have h1:=ih' (min ex x.upto) (by omega)
    have h2:0≤(min ex x.upto-b)*x.factor:=Int.mul_nonneg (by omega) f0
    have h3:(min ex x.upto-b)*x.factor≤(min ex x.upto-b)*1000:=Int.mul_le_mul_of_nonneg_left f1 (by omega)
    omega
   ·exact ih' b hb
theorem fee_bd {band percent price:Int} {ts:List Tier} (V:Valid band percent price ts) {C T:List Int} {k:Nat} {m:Int} (h0:0≤m) (hm:m≤100000000) (_:0≤zAt T k) (hC: -m≤zAt C k∧zAt C k≤m):0≤feeK band percent price ts C T k∧feeK band percent price ts C T k≤1000000000000000:=by
 unfold feeK
 have ht:0≤tolF band percent (zAt T k):=by
  unfold tolF; have:=V.band0; omega
 have he:=excS_bd ht hC.1 hC.2
 have ha:=absI_le he.1 he.2
 have h1:=chg_bdC (ex:=absI (excF band percent (zAt C k) (zAt T k))) ts (fun x hx=>by
  obtain ⟨j,hj,rfl⟩:=List.mem_iff_getElem.1 hx
  have:=V.at_ j _ (List.getElem?_eq_getElem hj)
  exact ⟨this.2.2.1,this.2.2.2⟩) 0 ha.1
 unfold chargeF
 have h2:0≤chg (absI (excF band percent (zAt C k) (zAt T k))) ts 0∧chg (absI (excF band percent (zAt C k) (zAt T k))) ts 0≤100000000000:=⟨h1.1,by have:=h1.2; omega⟩
 have h3:0≤price*chg (absI (excF band percent (zAt C k) (zAt T k))) ts 0:=Int.mul_nonneg V.pr0 h2.1
 have h4:price*chg (absI (excF band percent (zAt C k) (zAt T k))) ts 0≤1000000*100000000000:=Int.mul_le_mul V.pr1 h2.2 h2.1 (by omega)
 generalize price*chg (absI (excF band percent (zAt C k) (zAt T k))) ts 0=q at h3 h4
 omega
theorem stl_cons {n1:Nat} {ns:List Node} {ps:List Pipe} {xs:List Contract} {L:List Nomination} {h:Int} {rd:List Reading} {band percent price:Int} {ts:List Tier} (hk:HrOk n1 ns ps xs L h) (hrd:readsB n1 rd=true) (V:Valid band percent price ts):
  consB (stlH ps n1 xs L h rd band percent price ts).got (stlH ps n1 xs L h rd band percent price ts).chg (stlH ps n1 xs L h rd band percent price ts).psn=true:=by
 have hos:=hrOrd_ok (ps:=ps) hk.bk hk.nm h
 have hol:=hrOrd_len ps n1 xs L h
 have h20:=hk.le
 obtain ⟨os,hO⟩:∃os,hrOrd ps n1 xs L h=os:=⟨_,rfl⟩
 unfold stlH
 rw [hO] at hos hol ⊢
 obtain ⟨g,hG⟩:∃g,gotOf os rd=g:=⟨_,rfl⟩
 have hg1:=gotOf_bd (os:=os) hrd
 have hg2:=gotOf_len os rd
 rw [hG] at hg1 hg2 ⊢
 show consB g (accL id os g os.length) (postsL band percent price ts (accL id os g os.length) (accL pos0 os g os.length) 16)=true
 have hC1:=accL_bd (f:=id) (os:=os) (g:=g) (B:=1440000) (by omega) (fun z hz=>hg1 z hz) os.length
 have hC2:=accL_len id os g os.length
 have hT:=accL_nn (os:=os) (g:=g) os.length
 have hsum:=accL_sum (fun o ho=>(hos o ho).1) hg2 os.length (Nat.le_refl _)
 rw [List.take_of_length_le (by omega)] at hsum
 generalize accL id os g os.length=C at hC1 hC2 hsum
 generalize accL pos0 os g os.length=T at hT
 have hCb:∀y∈C,-57600000≤y∧y≤57600000:=fun y hy=>by
  have:=hC1 y hy
  have hb:(1440000:Int)*(os.length:Int)≤57600000:=by omega
  omega
 have hps:∀p∈postsL band percent price ts C T 16,postB p=true:=by
  refine postsL_ok (fun k hk p hp=> ?_) 16 (Nat.le_refl _)
  have hz:=zAt_in (by omega) (by omega) hCb k
  have hzT:0≤zAt T k:=by
   unfold zAt
   cases hq:T[k]? with
   | none=>simp
   | some q=>exact hT q (List.mem_of_getElem? hq)
  have hf:=fee_bd V (C:=C) (T:=T) (k:=k) (m:=57600000) (by omega) (by omega) hzT hz
  unfold postsK at hp
  rcases List.mem_append.1 hp with hp | hp
  ·split at hp
   ·obtain rfl:=List.mem_singleton.1 hp
    simp only [postB,Bool.and_eq_true,inB_true,bne_iff_ne,ne_eq]
    omega
   ·cases hp
  ·split at hp
   ·obtain rfl:=List.mem_singleton.1 hp
    simp only [postB,Bool.and_eq_true,inB_true,bne_iff_ne,ne_eq]
    omega
   ·cases hp
 have hled:ledB (postsL band percent price ts C T 16)=true:=by
  have:=postsL_len band percent price ts C T 16
  unfold ledB
  rw [Bool.and_eq_true,decide_eq_true_eq,List.all_eq_true]
  exact ⟨by omega,hps⟩
 have hgas:=postsL_gas band percent price ts T hC2 16 (Nat.le_refl _)
 rw [List.take_of_length_le (by omega),hsum] at hgas
 have a1:allB g (-1000000000) 1000000000=true:=List.all_eq_true.2 (fun z hz=>inB_true.2 (by have:=hg1 z hz; omega))
 have a2:allB C (-1000000000) 1000000000=true:=List.all_eq_true.2 (fun z hz=>inB_true.2 (by have:=hCb z hz; omega))
 unfold consB
 rw [a1,a2,hled,hgas,sumI_Z,sumI_Z,hsum]
 simp
end Go.Proofs.YtfkpghdmljjegaaGreat
namespace Go.Proofs.YtfkpghdmljjegaaGreat
open Go.RowKit
theorem cons_one {g:List Int} {x:Int} {chg:List Int} {ps:List Posting} (h:consB (x::g) chg ps=true):consB ((x+1)::g) chg ps=false:=by
 unfold consB at h ⊢
 simp only [Bool.and_eq_true] at h
 obtain ⟨⟨⟨⟨_,_⟩,_⟩,h4⟩,_⟩:=h
 have h5:(balF Posting.gas ps 16== -sumI ((x+1)::g))=false:=by
  rw [beq_iff_eq] at h4
  rw [beq_eq_false_iff_ne]
  simp only [sumI] at h4 ⊢
  omega
 rw [h5]
 simp
theorem cons_bd {g:List Int} {x:Int} {chg:List Int} {ps:List Posting} (h:consB (x::g) chg ps=true): -1000000000≤x∧x≤1000000000:=by
 unfold consB at h
 simp only [Bool.and_eq_true] at h
 obtain ⟨⟨⟨⟨h1,_⟩,_⟩,_⟩,_⟩:=h
 exact inB_true.1 (List.all_eq_true.1 h1 x (by simp))
theorem stl_chg (ps:List Pipe) (n1:Nat) (xs:List Contract) (L:List Nomination) (h:Int) (rd:List Reading) (band percent price:Int) (ts:List Tier):(stlH ps n1 xs L h rd band percent price ts).chg.length=16:=by
 show (accL id (hrOrd ps n1 xs L h) (gotOf (hrOrd ps n1 xs L h) rd) (hrOrd ps n1 xs L h).length).length=16
 rw [accL_len]
theorem stl_lens {n1:Nat} {ns:List Node} {ps:List Pipe} {xs:List Contract} {L:List Nomination} {h:Int} (hk:HrOk n1 ns ps xs L h) {rd:List Reading} {band percent price:Int} {ts:List Tier}:
  (stlH ps n1 xs L h rd band percent price ts).got.length≤1000∧(stlH ps n1 xs L h rd band percent price ts).chg.length≤1000:=by
 have hol:=hrOrd_len ps n1 xs L h
 have:=hk.le
 refine ⟨?_,by rw [stl_chg]; omega⟩
 show (gotOf (hrOrd ps n1 xs L h) rd).length≤1000
 rw [gotOf_len]
 omega
end Go.Proofs.YtfkpghdmljjegaaGreat
namespace Go.Proofs.YtfkpghdmljjegaaGreat
open Go.RowKit
theorem abs_eq (z:Int):absI z=absZ z:=rfl
theorem match_ways (x:Reading) (o:Order):((o.node==x.node)=false∧Hid (matchB x o=false))∨((o.node==x.node)=true∧decide (0<o.amount)=true∧decide (0<x.amount)=true∧Hid (matchB x o=true))∨
  ((o.node==x.node)=true∧decide (0<o.amount)=true∧decide (0<x.amount)=false∧decide (o.amount<0)=false∧Hid (matchB x o=false))∨
  ((o.node==x.node)=true∧decide (0<o.amount)=false∧decide (o.amount<0)=true∧decide (x.amount<0)=true∧Hid (matchB x o=true))∨
  ((o.node==x.node)=true∧decide (0<o.amount)=false∧decide (o.amount<0)=true∧decide (x.amount<0)=false∧Hid (matchB x o=false))∨
  ((o.node==x.node)=true∧decide (0<o.amount)=false∧decide (o.amount<0)=false∧Hid (matchB x o=false)):=by
 unfold matchB Hid
 have h:decide (0<o.amount)=true→decide (o.amount<0)=false:=by intro h; rw [decide_eq_true_eq] at h; rw [decide_eq_false_iff_not]; omega
 cases ho:decide (0<o.amount)
 ·cases (o.node==x.node) <;> cases decide (0<x.amount) <;> cases decide (o.amount<0) <;> cases decide (x.amount<0) <;> simp
 ·rw [h ho]
  cases (o.node==x.node) <;> cases decide (0<x.amount) <;> cases decide (x.amount<0) <;> simp
set_option maxHeartbeats 1000000 in
theorem c_matches (o:Order) (x:Reading) (w:World):
  Calls Tryz.prog 252 #[.agg #[.int .i64 o.shipper,.int .i64 o.node,.int .i64 o.amount,.int .i64 o.cls],.agg #[.int .i64 x.node,.int .i64 x.amount]] w (Ret (.bool (matchB x o)) w):=by
 have hx:Ext w ((w.alloc (.cells o.cells.toArray 199)).alloc (.cells x.cells.toArray 176)):=(Ext.alloc _ _).and_alloc _
 rcases match_ways x o with ⟨h1,H⟩ | ⟨h1,h2,h3,H⟩ | ⟨h1,h2,h3,h4,H⟩ | ⟨h1,h2,h3,h4,H⟩ | ⟨h1,h2,h3,h4,H⟩ | ⟨h1,h2,h3,H⟩ <;>
 ·rw [H.out]
  go_enter Tryz.func252,Tryz.ntmps252
  go_wp2_with fail
  go_ret
  exact Ret.bool rfl hx
def posM:Nat→List Bool→List Int
 | _,[]=>[]
 | k,true::m=>(k:Int)::posM (k+1) m
 | k,false::m=>posM (k+1) m
theorem pos_snoc (b:Bool):∀(k:Nat) (m:List Bool),posM k (m++[b])=posM k m++if b=true then [((k+m.length:Nat):Int)] else []
 | k,[]=>by cases b <;> simp [posM]
 | k,true::m=>by
  have ih:=pos_snoc b (k+1) m
  simp only [List.cons_append,posM,ih,List.length_cons]
  rw [show k+1+m.length=k+(m.length+1) by omega]
 | k,false::m=>by
  have ih:=pos_snoc b (k+1) m
  simp only [List.cons_append,posM,ih,List.length_cons]
  rw [show k+1+m.length=k+(m.length+1) by omega]
theorem pick_snoc (b:Bool) (z:Int):∀ {m:List Bool} {l:List Int},m.length=l.length→pickM (m++[b]) (l++[z])=pickM m l++if b=true then [z] else []
 | [],[],_=>by cases b <;> simp [pickM]
 | [],_::_,h=>by simp at h
 | _::_,[],h=>by simp at h
 | true::m,x::l,h=>by
  have ih:=pick_snoc b z (m:=m) (l:=l) (by simpa using h)
  simp only [List.cons_append,pickM,ih]
 | false::m,x::l,h=>by
  have ih:=pick_snoc b z (m:=m) (l:=l) (by simpa using h)
  simp only [List.cons_append,pickM,ih]
theorem pos_at:∀ {m:List Bool} {k j:Nat} {p:Int},(posM k m)[j]? =some p→∃i:Nat,p=((k+i:Nat):Int)∧m[i]? =some true∧rankM m i=j
 | [],k,j,p,h=>by simp [posM] at h
 | true::m,k,0,p,h=>by
  simp [posM] at h
  exact ⟨0,by rw [←h]; simp,rfl,rfl⟩
 | true::m,k,j+1,p,h=>by
  obtain ⟨i,h1,h2,h3⟩:=pos_at (m:=m) (k:=k+1) (j:=j) (p:=p) (by simpa [posM] using h)
  exact ⟨i+1,by rw [h1]; congr 1; omega,by simpa using h2,by simp [rankM,h3]⟩
 | false::m,k,j,p,h=>by
  obtain ⟨i,h1,h2,h3⟩:=pos_at (m:=m) (k:=k+1) (j:=j) (p:=p) (by simpa [posM] using h)
  exact ⟨i+1,by rw [h1]; congr 1; omega,by simpa using h2,by simp [rankM,h3]⟩
theorem pos_len:∀ {m:List Bool} {l:List Int} {k:Nat},m.length=l.length→(posM k m).length=(pickM m l).length
 | [],[],_,_=>rfl
 | [],_::_,_,h=>by simp at h
 | _::_,[],_,h=>by simp at h
 | true::m,x::l,k,h=>by simp only [posM,pickM,List.length_cons]; rw [pos_len (k:=k+1) (m:=m) (l:=l) (by simpa using h)]
 | false::m,x::l,k,h=>by simp only [posM,pickM]; rw [pos_len (k:=k+1) (m:=m) (l:=l) (by simpa using h)]
theorem rank_inj {m:List Bool} {i j:Nat} (hi:m[i]? =some true) (hj:m[j]? =some true) (h:rankM m i=rankM m j):i=j:=by
 induction m generalizing i j with
 | nil=>simp at hi
 | cons b m ih=>
  cases i with
  | zero=>
   cases j with
   | zero=>rfl
   | succ j=>cases b <;> simp [rankM] at hi h
  | succ i=>
   cases j with
   | zero=>cases b <;> simp [rankM] at hj h
   | succ j=>
    have:i=j:=ih (by simpa using hi) (by simpa using hj) (by cases b <;> simpa [rankM] using h)
    omega
def marks (os:List Order) (x:Reading):List Bool:=os.map (matchB x)
theorem marks_len (os:List Order) (x:Reading):(marks os x).length=os.length:=by simp [marks]
theorem marks_at {os:List Order} {x:Reading} {i:Nat} {o:Order} (h:os[i]? =some o):(marks os x)[i]? =some (matchB x o):=by simp [marks,h]
theorem marks_take {os:List Order} {x:Reading} {k:Nat} {o:Order} (h:os[k]? =some o):marks (os.take (k+1)) x=marks (os.take k) x++[matchB x o]:=by
 unfold marks; rw [List.take_add_one,h,List.map_append]; rfl
theorem places_take {os:List Order} {x:Reading} {k:Nat} {o:Order} (h:os[k]? =some o):posM 0 (marks (os.take (k+1)) x)=posM 0 (marks (os.take k) x)++if matchB x o=true then [(k:Int)] else []:=by
 have hk:=(List.getElem?_eq_some_iff.1 h).1
 rw [marks_take h,pos_snoc,marks_len,List.length_take,Nat.min_eq_left (by omega),Nat.zero_add]
theorem weights_take {os:List Order} {x:Reading} {k:Nat} {o:Order} (h:os[k]? =some o):pickM (marks (os.take (k+1)) x) (wts (os.take (k+1)) x)=pickM (marks (os.take k) x) (wts (os.take k) x)++if matchB x o=true then [absI o.amount] else []:=by
 rw [marks_take h,show wts (os.take (k+1)) x=wts (os.take k) x++[wt x o] by unfold wts; rw [List.take_add_one,h,List.map_append]; rfl,pick_snoc _ _ (by simp [marks,wts])]
 cases hm:matchB x o
 ·rfl
 ·rw [if_pos rfl,if_pos rfl,(wt_yes hm).1]; rfl
def Sep (rs:List Reading):Prop:=∀(j k:Nat) (y x:Reading),j<k→rs[j]? =some y→rs[k]? =some x→clash y x=false
theorem sep_of {nn:Int} {rs:List Reading} (h:readsB nn rs=true):Sep rs:=by
 intro j k y x hjk hj hk
 unfold readsB at h
 rw [Bool.and_eq_true,List.all_eq_true] at h
 have h1:=h.2 k (List.mem_range.2 (List.getElem?_eq_some_iff.1 hk).1)
 rw [readOk_at hk,Bool.and_eq_true] at h1
 have h2:=h1.2
 simp only [Bool.not_eq_true',hasR,List.any_eq_false] at h2
 have h3:=h2 y (List.mem_of_getElem? (i:=j) (by rw [List.getElem?_take,if_pos hjk]; exact hj))
 simpa using h3
theorem reads_mem {nn:Int} {rs:List Reading} (h:readsB nn rs=true):∀x∈rs,(-30000≤x.amount∧x.amount≤30000)∧x.amount≠0:=by
 intro x hx
 obtain ⟨k,hk⟩:=List.getElem?_of_mem hx
 unfold readsB at h
 rw [Bool.and_eq_true,List.all_eq_true] at h
 have h1:=h.2 k (List.mem_range.2 (List.getElem?_eq_some_iff.1 hk).1)
 rw [readOk_at hk,Bool.and_eq_true] at h1
 have h2:=h1.1
 simp only [readB,Bool.and_eq_true,inB_true,Bool.not_eq_true',beq_eq_false_iff_ne] at h2
 exact ⟨h2.1.2,h2.2⟩
theorem match_clash {x y:Reading} {o:Order} (h1:matchB x o=true) (h2:matchB y o=true):clash y x=true:=by
 simp only [matchB,clash,Bool.and_eq_true,Bool.or_eq_true,beq_iff_eq,decide_eq_true_eq] at *
 obtain ⟨a,b⟩:=h1
 obtain ⟨c,d⟩:=h2
 refine ⟨by omega,?_⟩
 rcases b with b | b <;> rcases d with d | d
 ·rw [decide_eq_true d.2,decide_eq_true b.2]
 ·omega
 ·omega
 ·rw [decide_eq_false (by omega),decide_eq_false (by omega)]
def Free (os:List Order) (rs:List Reading) (k:Nat) (g:List Int):Prop:=∀(i:Nat) (o:Order),os[i]? =some o→(∀(j:Nat) (y:Reading),j<k→rs[j]? =some y→matchB y o=false)→g[i]? =some 0
theorem Free.hf {os:List Order} {rs:List Reading} {k:Nat} {g:List Int} {x:Reading} (h:Free os rs k g) (hs:Sep rs) (hx:rs[k]? =some x):∀i:Nat,(marks os x)[i]? =some true→g[i]? =some 0:=by
 intro i hi
 unfold marks at hi
 rw [List.getElem?_map] at hi
 cases ho:os[i]? with
 | none=>rw [ho] at hi; cases hi
 | some o=>
  rw [ho] at hi
  have hm:matchB x o=true:=by simpa using hi
  refine h i o ho fun j y hj hy=> ?_
  cases hc:matchB y o with
  | false=>rfl
  | true=>have:=match_clash hm hc; rw [hs j k y x hj hy hx] at this; cases this
structure Laid (m:List Bool) (s:Int) (shf g:List Int) (j:Nat) (g2:List Int):Prop where
 len:g2.length=g.length
 no:∀i:Nat,m[i]? =some false→g2[i]? =g[i]?
 yes:∀i:Nat,m[i]? =some true→rankM m i<j→∃v,shf[rankM m i]? =some v∧g2[i]? =some (s*v)
theorem Laid.start (m:List Bool) (s:Int) (shf g:List Int):Laid m s shf g 0 g:=⟨rfl,fun _ _=>rfl,fun i _ h=>absurd h (by omega)⟩
theorem Laid.next {m:List Bool} {s:Int} {shf g g2:List Int} {j i:Nat} {v:Int} (h:Laid m s shf g j g2) (hm:m[i]? =some true) (hr:rankM m i=j) (hv:shf[j]? =some v) (hl:i<g.length):Laid m s shf g (j+1) (g2.set i (s*v)):=by
 refine ⟨by rw [List.length_set]; exact h.len,fun p hp=> ?_,fun p hp hpj=> ?_⟩
 ·rw [List.getElem?_set,if_neg (fun e=>by subst e; rw [hm] at hp; cases hp)]
  exact h.no p hp
 ·rw [List.getElem?_set]
  by_cases e:i=p
  ·subst e
   rw [if_pos rfl,if_pos (by rw [h.len]; exact hl)]
   exact ⟨v,by rw [hr]; exact hv,rfl⟩
  ·rw [if_neg e]
   refine h.yes p hp ?_
   have:rankM m p≠j:=fun e2=>e (rank_inj hm hp (by rw [hr,e2]))
   omega
theorem rank_count:∀ {m:List Bool} {l:List Int} {i:Nat},m.length=l.length→m[i]? =some true→rankM m i<(pickM m l).length
 | [],_,i,_,h=>by simp at h
 | _::_,[],_,h,_=>by simp at h
 | true::m,x::l,0,_,_=>by simp [rankM,pickM]
 | false::m,x::l,0,_,h=>by simp at h
 | true::m,x::l,i+1,hl,h=>by
  have:=rank_count (m:=m) (l:=l) (i:=i) (by simpa using hl) (by simpa using h)
  simpa [rankM,pickM] using this
 | false::m,x::l,i+1,hl,h=>by
  have:=rank_count (m:=m) (l:=l) (i:=i) (by simpa using hl) (by simpa using h)
  simpa [rankM,pickM] using this
theorem Laid.step {os:List Order} {rs:List Reading} {k:Nat} {x:Reading} {g g2 shf:List Int} (h:Laid (marks os x) (sgn x) shf g shf.length g2) (hF:Free os rs k g) (hSep:Sep rs) (hx:rs[k]? =some x) (hx0:x.amount≠0) (hg:g.length=os.length)
  (hs:0<sumZ (wts os x)) (hsh:Shares (absZ x.amount) (pickM (marks os x) (wts os x)) shf):
  (∃sh,Shares (absZ x.amount) (wts os x) sh∧g2=addS (sgn x) g sh)∧Free os rs (k+1) g2:=by
 have hml:(marks os x).length=(wts os x).length:=by simp [marks,wts]
 refine ⟨alloc_step hx0 hg (by rw [h.len,hg]) hs (hF.hf hSep hx) hsh h.no (fun i hi=>h.yes i hi (by rw [hsh.len]; exact rank_count hml hi)),?_⟩
 intro i o ho hno
 rw [h.no i (by rw [marks_at ho,hno k x (by omega) hx])]
 exact hF i o ho fun j y hj hy=>hno j y (by omega) hy
theorem Free.skip {os:List Order} {rs:List Reading} {k:Nat} {g:List Int} (h:Free os rs k g):Free os rs (k+1) g:=fun i o ho hno=>h i o ho fun j y hj hy=>hno j y (by omega) hy
theorem Free.start (os:List Order) (rs:List Reading):Free os rs 0 (List.replicate os.length 0):=fun i o ho _=>by
 rw [List.getElem?_replicate,if_pos (List.getElem?_eq_some_iff.1 ho).1]
theorem pos_nil {os:List Order} {x:Reading} (hx:x.amount≠0) (h:posM 0 (marks os x)=[]):sumZ (wts os x)=0:=by
 refine wts_zero hx fun o ho=> ?_
 cases hm:matchB x o with
 | false=>rfl
 | true=>
  exfalso
  obtain ⟨i,hi⟩:=List.getElem?_of_mem ho
  have h1:=rank_count (m:=marks os x) (l:=wts os x) (i:=i) (by simp [marks,wts]) (by rw [marks_at hi,hm])
  rw [←pos_len (k:=0) (by simp [marks,wts]),h] at h1
  cases h1
theorem pos_some {os:List Order} {x:Reading} (h:posM 0 (marks os x)≠[]):0<sumZ (wts os x)∧0<sumZ (pickM (marks os x) (wts os x)):=by
 obtain ⟨p,hp⟩:∃p,(posM 0 (marks os x))[0]? =some p:=by
  cases hc:posM 0 (marks os x) with
  | nil=>exact absurd hc h
  | cons a l=>exact ⟨a,rfl⟩
 obtain ⟨i,_,hi,_⟩:=pos_at hp
 unfold marks at hi
 rw [List.getElem?_map] at hi
 cases ho:os[i]? with
 | none=>rw [ho] at hi; cases hi
 | some o=>
  rw [ho] at hi
  have h1:=wts_pos (List.mem_of_getElem? ho) (by simpa using hi:matchB x o=true)
  refine ⟨h1,?_⟩
  by_cases hx:x.amount=0
  ·exfalso
   have hm:matchB x o=true:=by simpa using hi
   simp only [matchB,Bool.and_eq_true,Bool.or_eq_true,decide_eq_true_eq] at hm
   omega
  rw [pick_sum (by simp [marks,wts]) (fun j y hm hy=> ?_)]
  ·exact h1
  ·unfold marks at hm
   rw [List.getElem?_map] at hm
   rw [wts,List.getElem?_map] at hy
   cases ho:os[j]? with
   | none=>rw [ho] at hm; cases hm
   | some o=>
    rw [ho] at hm hy
    simp at hm hy
    rw [←hy]; exact wt_no hm hx
end Go.Proofs.YtfkpghdmljjegaaGreat
namespace Go.Proofs.YtfkpghdmljjegaaGreat
open Go.RowKit
theorem post_one (y:Posting):∀u∈y.cells,u.oneCell'=true:=by intro u hu; simp [Posting.cells] at hu; rcases hu with rfl | rfl | rfl | rfl <;> rfl
end Go.Proofs.YtfkpghdmljjegaaGreat
namespace Go.Proofs.YtfkpghdmljjegaaGreat
open Go.RowKit Go.ChangeShapes Go.WideShapes Go.ChangeAt Go.Deep Go.Joins
theorem own:ownKnob Tryz.prog.godebug=none:=by kernel_rfl
theorem laidOut:laidOutB Tryz.prog=true:=by kernel_rfl
end Go.Proofs.YtfkpghdmljjegaaGreat
namespace Go.Proofs.YtfkpghdmljjegaaGreat
open Go.RowKit
def Named (ns:List Node):Prop:=∀x∈ns,x.name.size≤1048576
end Go.Proofs.YtfkpghdmljjegaaGreat
