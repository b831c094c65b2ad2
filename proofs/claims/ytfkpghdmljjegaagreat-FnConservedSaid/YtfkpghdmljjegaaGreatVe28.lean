/-
  The shares of a total, of the program.
-/
import Derived.Test.YtfkpghdmljjegaaGreatVe27
namespace Go.Proofs.YtfkpghdmljjegaaGreat
open Go.RowKit
theorem c_Max64 (A:Option Addr) (n c:Nat) (L:List Int) (w:World) (hL:SliceOf w 1 intC A n c L) (hn1:1≤n) (hn:n≤1048576):
  Calls Tryz.prog 289 #[.slice A n c] w (fun e w'=>(∃z:Int,e= .returned (.int .i64 z)∧Hid ((∃j:Nat,L[j]? =some z)∧∀(j:Nat) (y:Int),L[j]? =some y→y≤z))∧w=w'):=by
 have HL:=hide hL.len
 obtain ⟨b0,f0,z0,rfl,hb0,hz0,hc0⟩:=hL.get (k:=0) (by omega)
 have t0:=hc0 0 _ rfl
 simp only [Nat.zero_mul,Nat.add_zero] at t0
 have HZ0:=hide hz0
 clear hc0 hz0
 have hn0:¬n<1:=by omega
 go_enter Tryz.func289,Tryz.ntmps289
 go_wp2_with fail
 go_loop [3,4] (fun m i=>∃(k:Nat) (z:Int),1≤k∧k≤n∧m= .int .i64 z∧i= .int .i64 k∧Hid ((∃j:Nat,L[j]? =some z)∧∀(j:Nat) (y:Int),j<k→L[j]? =some y→y≤z)) (fun _ i=>n-(intOf i).toNat)
 case atStart=>
  refine ⟨1,z0,Nat.le_refl _,hn1,rfl,rfl,hide ⟨⟨0,HZ0.out⟩,fun j y hj hy=> ?_⟩⟩
  obtain rfl:j=0:=by omega
  rw [HZ0.out] at hy
  have:=Option.some.inj hy
  omega
 case round=>
  obtain ⟨k,z,hk1,hk,rfl,rfl,HM⟩:=hrel
  by_cases hlt:k<n
  ·obtain ⟨b,off,y,he,_,hy,hc⟩:=hL.get hlt
   simp only [Option.some.injEq,Addr.mk.injEq,and_true] at he
   obtain ⟨rfl,rfl⟩:=he
   have t1:=hc 0 _ rfl
   simp only [Nat.add_zero,Nat.mul_one] at t1
   have HY:=hide hy
   clear hc hy
   by_cases hgt:z<y
   ·have HN:=hide (show (∃j:Nat,L[j]? =some y)∧∀(j:Nat) (v:Int),j<k+1→L[j]? =some v→v≤y from ⟨⟨k,HY.out⟩,fun j v hj hv=>by
     rcases Nat.lt_or_ge j k with h | h
     ·have:=HM.out.2 j v h hv; omega
     ·obtain rfl:j=k:=by omega
      have:=HY.out; rw [hv] at this; have:=Option.some.inj this; omega⟩)
    go_wp2_with fail
    go_round
    case rel=>exact ⟨k+1,y,by omega,by omega,rfl,by go_num,HN⟩
    case measure=>simp [intOf]; omega
   ·have HN:=hide (show (∃j:Nat,L[j]? =some z)∧∀(j:Nat) (v:Int),j<k+1→L[j]? =some v→v≤z from ⟨HM.out.1,fun j v hj hv=>by
     rcases Nat.lt_or_ge j k with h | h
     ·exact HM.out.2 j v h hv
     ·obtain rfl:j=k:=by omega
      have:=HY.out; rw [hv] at this; have:=Option.some.inj this; omega⟩)
    go_wp2_with fail
    go_round
    case rel=>exact ⟨k+1,z,by omega,by omega,rfl,by go_num,HN⟩
    case measure=>simp [intOf]; omega
  ·obtain rfl:n=k:=by omega
   go_wp2_with fail
   go_ret
   exact ⟨⟨z,rfl,hide ⟨HM.out.1,fun j y hy=>HM.out.2 j y (by rw [HL.out]; exact (List.getElem?_eq_some_iff.1 hy).1) hy⟩⟩,rfl⟩
theorem c_Index64 (A:Option Addr) (n c:Nat) (L:List Int) (z:Int) (w:World) (hL:SliceOf w 1 intC A n c L) (hn:n≤1048576) (hz:∃j:Nat,L[j]? =some z):
  Calls Tryz.prog 288 #[.slice A n c,.int .i64 z] w (fun e w'=>(∃b:Nat,e= .returned (.int .i64 (b:Int))∧Hid (L[b]? =some z∧∀(j:Nat) (y:Int),j<b→L[j]? =some y→y≠z))∧w=w'):=by
 have HL:=hide hL.len
 have HZ:=hide hz
 clear hz
 go_enter Tryz.func288,Tryz.ntmps288
 go_wp2_with fail
 go_loop [8] (fun i=>∃k:Nat,k≤n∧i= .int .i64 k∧Hid (∀(j:Nat) (y:Int),j<k→L[j]? =some y→y≠z)) (fun i=>n-(intOf i).toNat)
 case atStart=>exact ⟨0,Nat.zero_le _,rfl,hide (fun j y hj=>absurd hj (by omega))⟩
 case round=>
  obtain ⟨k,hk,rfl,HK⟩:=hrel
  by_cases hlt:k<n
  ·obtain ⟨b,off,y,rfl,hb,hy,hc⟩:=hL.get hlt
   have t1:=hc 0 _ rfl
   simp only [Nat.add_zero,Nat.mul_one] at t1
   have HY:=hide hy
   clear hc hy
   cases hzy:(z==y)
   ·have HN:=hide (show ∀(j:Nat) (v:Int),j<k+1→L[j]? =some v→v≠z from fun j v hj hv=>by
     rcases Nat.lt_or_ge j k with h | h
     ·exact HK.out j v h hv
     ·obtain rfl:j=k:=by omega
      have:=HY.out; rw [hv] at this; have h1:=Option.some.inj this
      intro e; rw [beq_eq_false_iff_ne] at hzy; omega)
    go_wp2_with fail
    go_round
    case rel=>exact ⟨k+1,by omega,by go_num,HN⟩
    case measure=>simp [intOf]; omega
   ·have hzy':z=y:=by simpa using hzy
    have HR:=hide (show L[k]? =some z by rw [hzy']; exact HY.out)
    clear hzy'
    go_wp2_with fail
    go_ret
    exact ⟨⟨k,rfl,hide ⟨HR.out,HK.out⟩⟩,rfl⟩
  ·exfalso
   obtain ⟨j,hj⟩:=HZ.out
   exact HK.out j z (by have:=(List.getElem?_eq_some_iff.1 hj).1; have:=HL.out; omega) hj rfl
theorem rep_at {A:List Int} {k n:Nat} (hA:A.length=k) (hk:k<n):(A++List.replicate (n-k) 0)[k]? =some 0:=by
 rw [List.getElem?_append_right (by omega),hA,Nat.sub_self,List.getElem?_replicate,if_pos (by omega)]
theorem own_rep (W:World) (base g n:Nat) (hg:g=W.heap.size) (hb:base≤g) (hn:n≤100):OwnL (W.alloc (.cells ((List.replicate n (0:Int)).flatMap intC).toArray 2)) base 2 1 intC (.slice (some ⟨g,0,none⟩) n n) (List.replicate n 0):=by
 have h:=OwnL.of_row (xs:=List.replicate n (0:Int)) (Row.newG (W:=W) (g:=g) 2 ((List.replicate n (0:Int)).flatMap intC) hg) intC_len hb (by simp; omega)
 rwa [List.length_replicate] at h
theorem set_rep {A:List Int} {k n:Nat} {v:Int} (hA:A.length=k) (hk:k<n):(A++List.replicate (n-k) 0).set k v=(A++[v])++List.replicate (n-(k+1)) 0:=by
 rw [List.set_append_right _ _ (by omega),hA,Nat.sub_self,show n-k=(n-(k+1))+1 by omega,List.replicate_succ,List.set_cons_zero,List.append_assoc,List.singleton_append]
set_option maxHeartbeats 4000000 in
theorem c_sharesOf (A:Option Addr) (n c:Nat) (ws:List Int) (t:Int) (w:World) (hs:SliceOf w 1 intC A n c ws) (hW:Wts t ws):
  Calls Tryz.prog 253 #[.int .i64 t,.slice A n c] w (RetI (fun o=>Shares t ws o∧∀y∈o,0≤y∧y≤60000) w):=by
 have hn:=hs.len
 have HW:=hide hW
 obtain ⟨ht,hb,hl,hsp⟩:=hW
 have hn100:n≤100:=by omega
 have hsM:=sumZ_le (M:=30000) (fun z hz=>(hb z hz).2)
 have hsb:sumZ ws≤3000000:=by omega
 have HLen:=hide hn
 have HB:=hide hb
 have HLF:=hide (left_facts (t:=t) hsp)
 have hn1:1≤n:=by
  cases ws with
  | nil=>simp [sumZ] at hsp
  | cons a l=>simp at hn; omega
 clear hb hl hsM hn
 obtain ⟨s,hse⟩:∃s,sumZ ws=s:=⟨_,rfl⟩
 have HS:=hide hse
 rw [hse] at hsp hsb HLF
 clear hse
 have hallB:allB ws (-1000000000) 1000000000=true:=List.all_eq_true.2 (fun z hz=>inB_true.2 (by have:=HB.out z hz; omega))
 have hmk:=fun W=>run_make_flat (P:=Tryz.prog) 24 2 _ _ 1 8 Tryz.underlying24 int_info (f:=intC) 0 rfl rfl rfl (by omega) n (by omega) (by omega) W
 go_enter Tryz.func253,Tryz.ntmps253
 go_wp2_with fail
 refine (c_sumOf A n c ws _ hs hallB (by omega)).mono ?_
 rw [sumI_eq,HS.out]
 rintro e w1 ⟨rfl,rfl⟩
 clear hallB
 go_wp2_with fail
 refine wp_region_phT [] (.two [0,1,3,4] 2 (.one [6] 5 (.last [7])) 5 (.one [] 2 (.last [6,7]))) (by kernel_rfl) (by kernel_rfl) (by intro c a w d v h; cases d <;> exact h) ?_
 simp only [wpPhT,pickL,nthO]
 repeat (go_big_quiet_step (fail))
 refine wpQuiet_nil ?_
 refine ⟨?_,?_⟩
 ·go_wp2_with fail
  refine ⟨fun _ h=>(by cases h),?_⟩
  repeat (go_big_quiet_step (fail))
  refine wpQuiet_nil ?_
  go_wp2_with fail
  refine ⟨fun _ h=>(by cases h),?_⟩
  repeat (go_big_quiet_step (fail))
  refine wpQuiet_nil ?_
  have hS0:ShSt w (((w.alloc (.cells ((List.replicate n (0:Int)).flatMap intC).toArray 2)).alloc (.cells ((List.replicate n (0:Int)).flatMap intC).toArray 2))).drew (.slice (some ⟨w.heap.size,0,none⟩) n n) (.slice (some ⟨w.heap.size+1,0,none⟩) n n) (quoL t s (ws.take 0)++List.replicate (n-0) 0) (remL t s (ws.take 0)++List.replicate (n-0) 0):=
   ShSt.mk (((own_rep w w.heap.size _ n rfl (Nat.le_refl _) hn100).ext (Ext.alloc _ _)).ext (Ext.refl _).drew) ((own_rep _ w.heap.size _ n (by simp) (by omega) hn100).ext (Ext.refl _).drew) (fun k hk h2=>by simp [Value.ownBlock] at hk h2; omega) ((Ext.alloc _ _).and_alloc _).drew
  clear hmk
  go_wp2_with fail
  go_loopw [8,23] (fun l i wr=>∃(k:Nat) (S:Int),k≤n∧i= .int .i64 k∧l= .int .i64 (t-S)∧0≤S∧S≤900000000*(k:Int)∧Hid (S=sumZ (quoL t s (ws.take k)))∧ShSt w wr (.slice (some ⟨w.heap.size,0,none⟩) n n) (.slice (some ⟨w.heap.size+1,0,none⟩) n n) (quoL t s (ws.take k)++List.replicate (n-k) 0) (remL t s (ws.take k)++List.replicate (n-k) 0)) (fun _ i _=>n-(intOf i).toNat)
  case atStart=>exact ⟨0,0,Nat.zero_le _,rfl,by simp,by omega,by omega,hide rfl,hS0⟩
  case round=>
   clear hS0
   obtain ⟨k,S,hk,rfl,rfl,hS0,hS1,HSS,hD⟩:=hrel
   have hwz:=hD.ext.size
   by_cases hlt:k<n
   ·obtain ⟨b,off,z,rfl,hbb,hzk,hc⟩:=hs.get hlt
    have hc0:=hc 0 _ rfl
    simp only [Nat.add_zero,Nat.mul_one] at hc0
    have hr0:=(hD.ext.cell _ _ hbb).trans hc0
    have hb0:b<wr.heap.size:=by omega
    have hzb:=HB.out z (List.mem_of_getElem? hzk)
    have hmb:=mulA_bd ht hzb
    have HQ:=hide (quo_take (t:=t) (s:=s) hzk)
    have HR:=hide (rem_take (t:=t) (s:=s) hzk)
    clear hc hzk
    have hq0:0≤t*z/s:=Int.ediv_nonneg hmb.1 (by omega)
    have hq1:t*z/s≤t*z:=Int.ediv_le_self _ hmb.1
    have e1:IntKind.i64.wrap (t*z)=t*z:=IntWalk.i64_in _ (by omega)
    have e2:(t*z).tdiv s=t*z/s:=Int.tdiv_eq_ediv_of_nonneg hmb.1
    have e3:(t*z).tmod s=t*z % s:=Int.tmod_eq_emod_of_nonneg hmb.1
    have e4:IntKind.i64.wrap (t*z/s)=t*z/s:=IntWalk.i64_in _ (by omega)
    have e5:IntKind.i64.wrap (t-S-t*z/s)=t-S-t*z/s:=IntWalk.i64_in _ (by omega)
    have e6:IntKind.i64.wrap (t*z % s)=t*z % s:=IntWalk.i64_in _ (by have:=Int.emod_nonneg (t*z) (b:=s) (by omega); have:=Int.emod_lt_of_pos (t*z) hsp; omega)
    have hql:(quoL t s (ws.take k)).length=k:=by unfold quoL; rw [List.length_map,List.length_take, ←HLen.out]; omega
    have hrl:(remL t s (ws.take k)).length=k:=by unfold remL; rw [List.length_map,List.length_take, ←HLen.out]; omega
    generalize hQ:t*z/s=q at *
    generalize hRm:t*z % s=rm at *
    generalize hTZ:t*z=tz at *
    clear hQ hRm
    have hs0:¬s=0:=by omega
    obtain ⟨g6',hA6,hl6,hf6,hc6,hap,hD6⟩:=hD.put6 (rep_at hql hlt) q
    obtain rfl:w.heap.size=g6':=by simpa using hA6
    obtain ⟨g7',hA7,hl7,hf7,hc7,-⟩:=hD.put7 (rep_at hrl hlt) rm
    obtain rfl:w.heap.size+1=g7':=by simpa using hA7
    obtain ⟨g7',hA7',-,-,-,hD7⟩:=hD6.put7 (rep_at hrl hlt) rm
    obtain rfl:w.heap.size+1=g7':=by simpa using hA7'
    have hne:w.heap.size≠w.heap.size+1:=by omega
    rw [set_rep hql hlt,set_rep hrl hlt, ←HQ.out, ←HR.out] at hD7
    have HS3:=hide (show S+q=sumZ (quoL t s (ws.take (k+1))) by rw [HQ.out,sumZ_append, ←HSS.out]; simp [sumZ])
    clear hA6 hA7 hA7' hap hD6 hD hql hrl
    go_wp2_with fail
    refine wp_region_phC [] [([0,1,2,3,4,5,6,7,8,9,10,11,12,13,14],15),([16],17)] [] (by kernel_rfl) (by kernel_rfl) (by intro c a w d v h; cases d <;> exact h) ?_
    simp only [wpPhC,pickL,nthO]
    repeat (go_big_quiet_step (fail))
    refine wpQuiet_nil ?_
    go_wp2_with fail
    refine ⟨fun _ h=>(by cases h),?_⟩
    repeat (go_big_quiet_step (fail))
    refine wpQuiet_nil ?_
    go_wp2_with fail
    refine ⟨fun _ h=>(by cases h),?_⟩
    repeat (go_big_quiet_step (fail))
    refine wpQuiet_nil ?_
    go_wp2_with fail
    go_roundw
    case rel=>exact ⟨k+1,S+q,by omega,by go_num,by rw [show t-(S+q)=t-S-q by omega],by omega,by omega,HS3,hD7.more (Ext.refl _).drew⟩
    case measure=>simp [intOf]; omega
   ·obtain rfl:n=k:=by omega
    have HT:=hide (show ws.take n=ws by rw [HLen.out,List.take_length])
    rw [HT.out,Nat.sub_self,List.replicate_zero,List.append_nil,List.append_nil] at hD
    rw [HT.out] at HSS
    have hL:=HLF.out
    rw [←HSS.out] at hL
    have HDist:=hide (show ∀o',Dist (t-S).toNat (quoL t s ws) (remL t s ws) o'→Shares t ws o' from fun o' h=>by unfold Shares; rw [HS.out, ←HSS.out]; exact h)
    have HQB:=hide (show ∀y∈quoL t s ws,0≤y∧y≤30000 from by have:=quo_bd HW.out; rw [HS.out] at this; exact this)
    obtain ⟨j0,hj0⟩:=Int.eq_ofNat_of_zero_le hL.1
    have hql:(quoL t s ws).length=n:=by simp [quoL,HLen.out]
    have hrl:(remL t s ws).length=n:=by simp [remL,HLen.out]
    rw [hj0] at HDist ⊢
    generalize quoL t s ws=o0 at *
    generalize remL t s ws=r0 at *
    clear HT HLF hL HSS
    have hj30:j0≤30000:=by omega
    clear hj0 hS0 hS1
    go_wp2_with fail
    go_loopw [8] (fun l wr=>∃(j:Nat) (o r:List Int),l= .int .i64 j∧j≤30000∧o.length=n∧r.length=n∧ShSt w wr (.slice (some ⟨w.heap.size,0,none⟩) n n) (.slice (some ⟨w.heap.size+1,0,none⟩) n n) o r∧Hid (∀o',Dist j o r o'→Shares t ws o')∧Hid (∀y∈o,0≤y∧y+j≤60000)) (fun l _=>(intOf l).toNat)
    case atStart=>exact ⟨j0,o0,r0,rfl,hj30,hql,hrl,hD,by simpa using HDist,hide (fun y hy=>by have:=HQB.out y hy; omega)⟩
    case round=>
     clear hD HDist HQB
     obtain ⟨j,o,r,rfl,hj,hol,hrl',hD,HDist,HOB⟩:=hrel
     by_cases hj0:0<j
     ·have hsr:=hD.o7.slE intC_len (by omega)
      go_wp2_with fail
      refine (c_Max64 _ n n r _ hsr hn1 (by omega)).mono ?_
      rintro e w' ⟨⟨z,rfl,HMx⟩,rfl⟩
      go_wp2_with fail
      refine (c_Index64 _ n n r z _ hsr (by omega) HMx.out.1).mono ?_
      rintro e w' ⟨⟨b,rfl,HIx⟩,rfl⟩
      have HBr:=hide (show Best r b z from ⟨HIx.out.1,HMx.out.2,fun i y hi hy=>by have h1:=HMx.out.2 i y hy; have h2:=HIx.out.2 i y hi hy; omega⟩)
      have hrb:=HBr.out.at_
      have hbn:b<n:=by rw [←hrl']; exact (List.getElem?_eq_some_iff.1 hrb).1
      obtain ⟨y,hy⟩:∃y,o[b]? =some y:=⟨_,List.getElem?_eq_getElem (by omega)⟩
      have hyb:=HOB.out y (List.mem_of_getElem? hy)
      obtain ⟨g7',hA7,hl7,hf7,hc7,-⟩:=hD.put7 hrb (-1)
      obtain rfl:w.heap.size+1=g7':=by simpa using hA7
      obtain ⟨g6',hA6,hl6,hf6,hc6,hap,hD6⟩:=hD.put6 hy (y+1)
      obtain rfl:w.heap.size=g6':=by simpa using hA6
      have hne:w.heap.size≠w.heap.size+1:=by omega
      obtain ⟨g7',hA7',-,-,-,hD7⟩:=hD6.put7 hrb (-1)
      obtain rfl:w.heap.size+1=g7':=by simpa using hA7'
      have HDn:=hide (show ∀o',Dist (j-1) (o.set b (y+1)) (r.set b (-1)) o'→Shares t ws o' from fun o' h=>HDist.out o' (by have:=Dist.step HBr.out hy h; rwa [show j-1+1=j by omega] at this))
      have HOn:=hide (show ∀v∈o.set b (y+1),0≤v∧v+((j-1:Nat):Int)≤60000 from fun v hv=>by
       rcases List.mem_or_eq_of_mem_set hv with h | h
       ·have:=HOB.out v h; omega
       ·omega)
      have e1:IntKind.i64.wrap (y+1)=y+1:=IntWalk.i64_in _ (by omega)
      clear hA6 hA7 hA7' hap hD6 hD hy hrb hsr
      go_wp2_with fail
      go_roundw
      case rel=>exact ⟨j-1,_,_,by go_num,by omega,by rw [List.length_set]; exact hol,by rw [List.length_set]; exact hrl',hD7,HDn,HOn⟩
      case measure=>simp [intOf]; omega
     ·obtain rfl:j=0:=by omega
      go_wp2_with fail
      go_ret
      exact ⟨_,o,rfl,hD.o6,hide ⟨HDist.out o (.zero _ _),fun y hy=>by have:=HOB.out y hy; omega⟩,hD.ext⟩
 ·go_wp2_with fail
  refine ⟨fun _ h=>(by cases h),wpQuiet_nil ?_⟩
  go_wp2_with fail
  refine ⟨fun _ h=>(by cases h),?_⟩
  repeat (go_big_quiet_step (fail))
  refine wpQuiet_nil ?_
  have hS0:ShSt w (((w.alloc (.cells ((List.replicate n (0:Int)).flatMap intC).toArray 2)).alloc (.cells ((List.replicate n (0:Int)).flatMap intC).toArray 2))).drew (.slice (some ⟨w.heap.size+1,0,none⟩) n n) (.slice (some ⟨w.heap.size,0,none⟩) n n) (quoL t s (ws.take 0)++List.replicate (n-0) 0) (remL t s (ws.take 0)++List.replicate (n-0) 0):=
   ShSt.mk ((own_rep _ w.heap.size _ n (by simp) (by omega) hn100).ext (Ext.refl _).drew) (((own_rep w w.heap.size _ n rfl (Nat.le_refl _) hn100).ext (Ext.alloc _ _)).ext (Ext.refl _).drew) (fun k hk h2=>by simp [Value.ownBlock] at hk h2; omega) ((Ext.alloc _ _).and_alloc _).drew
  clear hmk
  go_wp2_with fail
  go_loopw [8,23] (fun l i wr=>∃(k:Nat) (S:Int),k≤n∧i= .int .i64 k∧l= .int .i64 (t-S)∧0≤S∧S≤900000000*(k:Int)∧Hid (S=sumZ (quoL t s (ws.take k)))∧ShSt w wr (.slice (some ⟨w.heap.size+1,0,none⟩) n n) (.slice (some ⟨w.heap.size,0,none⟩) n n) (quoL t s (ws.take k)++List.replicate (n-k) 0) (remL t s (ws.take k)++List.replicate (n-k) 0)) (fun _ i _=>n-(intOf i).toNat)
  case atStart=>exact ⟨0,0,Nat.zero_le _,rfl,by simp,by omega,by omega,hide rfl,hS0⟩
  case round=>
   clear hS0
   obtain ⟨k,S,hk,rfl,rfl,hS0,hS1,HSS,hD⟩:=hrel
   have hwz:=hD.ext.size
   by_cases hlt:k<n
   ·obtain ⟨b,off,z,rfl,hbb,hzk,hc⟩:=hs.get hlt
    have hc0:=hc 0 _ rfl
    simp only [Nat.add_zero,Nat.mul_one] at hc0
    have hr0:=(hD.ext.cell _ _ hbb).trans hc0
    have hb0:b<wr.heap.size:=by omega
    have hzb:=HB.out z (List.mem_of_getElem? hzk)
    have hmb:=mulA_bd ht hzb
    have HQ:=hide (quo_take (t:=t) (s:=s) hzk)
    have HR:=hide (rem_take (t:=t) (s:=s) hzk)
    clear hc hzk
    have hq0:0≤t*z/s:=Int.ediv_nonneg hmb.1 (by omega)
    have hq1:t*z/s≤t*z:=Int.ediv_le_self _ hmb.1
    have e1:IntKind.i64.wrap (t*z)=t*z:=IntWalk.i64_in _ (by omega)
    have e2:(t*z).tdiv s=t*z/s:=Int.tdiv_eq_ediv_of_nonneg hmb.1
    have e3:(t*z).tmod s=t*z % s:=Int.tmod_eq_emod_of_nonneg hmb.1
    have e4:IntKind.i64.wrap (t*z/s)=t*z/s:=IntWalk.i64_in _ (by omega)
    have e5:IntKind.i64.wrap (t-S-t*z/s)=t-S-t*z/s:=IntWalk.i64_in _ (by omega)
    have e6:IntKind.i64.wrap (t*z % s)=t*z % s:=IntWalk.i64_in _ (by have:=Int.emod_nonneg (t*z) (b:=s) (by omega); have:=Int.emod_lt_of_pos (t*z) hsp; omega)
    have hql:(quoL t s (ws.take k)).length=k:=by unfold quoL; rw [List.length_map,List.length_take, ←HLen.out]; omega
    have hrl:(remL t s (ws.take k)).length=k:=by unfold remL; rw [List.length_map,List.length_take, ←HLen.out]; omega
    generalize hQ:t*z/s=q at *
    generalize hRm:t*z % s=rm at *
    generalize hTZ:t*z=tz at *
    clear hQ hRm
    have hs0:¬s=0:=by omega
    obtain ⟨g6',hA6,hl6,hf6,hc6,hap,hD6⟩:=hD.put6 (rep_at hql hlt) q
    obtain rfl:w.heap.size+1=g6':=by simpa using hA6
    obtain ⟨g7',hA7,hl7,hf7,hc7,-⟩:=hD.put7 (rep_at hrl hlt) rm
    obtain rfl:w.heap.size=g7':=by simpa using hA7
    obtain ⟨g7',hA7',-,-,-,hD7⟩:=hD6.put7 (rep_at hrl hlt) rm
    obtain rfl:w.heap.size=g7':=by simpa using hA7'
    have hne:w.heap.size+1≠w.heap.size:=by omega
    rw [set_rep hql hlt,set_rep hrl hlt, ←HQ.out, ←HR.out] at hD7
    have HS3:=hide (show S+q=sumZ (quoL t s (ws.take (k+1))) by rw [HQ.out,sumZ_append, ←HSS.out]; simp [sumZ])
    clear hA6 hA7 hA7' hap hD6 hD hql hrl
    go_wp2_with fail
    refine wp_region_phC [] [([0,1,2,3,4,5,6,7,8,9,10,11,12,13,14],15),([16],17)] [] (by kernel_rfl) (by kernel_rfl) (by intro c a w d v h; cases d <;> exact h) ?_
    simp only [wpPhC,pickL,nthO]
    repeat (go_big_quiet_step (fail))
    refine wpQuiet_nil ?_
    go_wp2_with fail
    refine ⟨fun _ h=>(by cases h),?_⟩
    repeat (go_big_quiet_step (fail))
    refine wpQuiet_nil ?_
    go_wp2_with fail
    refine ⟨fun _ h=>(by cases h),?_⟩
    repeat (go_big_quiet_step (fail))
    refine wpQuiet_nil ?_
    go_wp2_with fail
    go_roundw
    case rel=>exact ⟨k+1,S+q,by omega,by go_num,by rw [show t-(S+q)=t-S-q by omega],by omega,by omega,HS3,hD7.more (Ext.refl _).drew⟩
    case measure=>simp [intOf]; omega
   ·obtain rfl:n=k:=by omega
    have HT:=hide (show ws.take n=ws by rw [HLen.out,List.take_length])
    rw [HT.out,Nat.sub_self,List.replicate_zero,List.append_nil,List.append_nil] at hD
    rw [HT.out] at HSS
    have hL:=HLF.out
    rw [←HSS.out] at hL
    have HDist:=hide (show ∀o',Dist (t-S).toNat (quoL t s ws) (remL t s ws) o'→Shares t ws o' from fun o' h=>by unfold Shares; rw [HS.out, ←HSS.out]; exact h)
    have HQB:=hide (show ∀y∈quoL t s ws,0≤y∧y≤30000 from by have:=quo_bd HW.out; rw [HS.out] at this; exact this)
    obtain ⟨j0,hj0⟩:=Int.eq_ofNat_of_zero_le hL.1
    have hql:(quoL t s ws).length=n:=by simp [quoL,HLen.out]
    have hrl:(remL t s ws).length=n:=by simp [remL,HLen.out]
    rw [hj0] at HDist ⊢
    generalize quoL t s ws=o0 at *
    generalize remL t s ws=r0 at *
    clear HT HLF hL HSS
    have hj30:j0≤30000:=by omega
    clear hj0 hS0 hS1
    go_wp2_with fail
    go_loopw [8] (fun l wr=>∃(j:Nat) (o r:List Int),l= .int .i64 j∧j≤30000∧o.length=n∧r.length=n∧ShSt w wr (.slice (some ⟨w.heap.size+1,0,none⟩) n n) (.slice (some ⟨w.heap.size,0,none⟩) n n) o r∧Hid (∀o',Dist j o r o'→Shares t ws o')∧Hid (∀y∈o,0≤y∧y+j≤60000)) (fun l _=>(intOf l).toNat)
    case atStart=>exact ⟨j0,o0,r0,rfl,hj30,hql,hrl,hD,by simpa using HDist,hide (fun y hy=>by have:=HQB.out y hy; omega)⟩
    case round=>
     clear hD HDist HQB
     obtain ⟨j,o,r,rfl,hj,hol,hrl',hD,HDist,HOB⟩:=hrel
     by_cases hj0:0<j
     ·have hsr:=hD.o7.slE intC_len (by omega)
      go_wp2_with fail
      refine (c_Max64 _ n n r _ hsr hn1 (by omega)).mono ?_
      rintro e w' ⟨⟨z,rfl,HMx⟩,rfl⟩
      go_wp2_with fail
      refine (c_Index64 _ n n r z _ hsr (by omega) HMx.out.1).mono ?_
      rintro e w' ⟨⟨b,rfl,HIx⟩,rfl⟩
      have HBr:=hide (show Best r b z from ⟨HIx.out.1,HMx.out.2,fun i y hi hy=>by have h1:=HMx.out.2 i y hy; have h2:=HIx.out.2 i y hi hy; omega⟩)
      have hrb:=HBr.out.at_
      have hbn:b<n:=by rw [←hrl']; exact (List.getElem?_eq_some_iff.1 hrb).1
      obtain ⟨y,hy⟩:∃y,o[b]? =some y:=⟨_,List.getElem?_eq_getElem (by omega)⟩
      have hyb:=HOB.out y (List.mem_of_getElem? hy)
      obtain ⟨g7',hA7,hl7,hf7,hc7,-⟩:=hD.put7 hrb (-1)
      obtain rfl:w.heap.size=g7':=by simpa using hA7
      obtain ⟨g6',hA6,hl6,hf6,hc6,hap,hD6⟩:=hD.put6 hy (y+1)
      obtain rfl:w.heap.size+1=g6':=by simpa using hA6
      have hne:w.heap.size+1≠w.heap.size:=by omega
      obtain ⟨g7',hA7',-,-,-,hD7⟩:=hD6.put7 hrb (-1)
      obtain rfl:w.heap.size=g7':=by simpa using hA7'
      have HDn:=hide (show ∀o',Dist (j-1) (o.set b (y+1)) (r.set b (-1)) o'→Shares t ws o' from fun o' h=>HDist.out o' (by have:=Dist.step HBr.out hy h; rwa [show j-1+1=j by omega] at this))
      have HOn:=hide (show ∀v∈o.set b (y+1),0≤v∧v+((j-1:Nat):Int)≤60000 from fun v hv=>by
       rcases List.mem_or_eq_of_mem_set hv with h | h
       ·have:=HOB.out v h; omega
       ·omega)
      have e1:IntKind.i64.wrap (y+1)=y+1:=IntWalk.i64_in _ (by omega)
      clear hA6 hA7 hA7' hap hD6 hD hy hrb hsr
      go_wp2_with fail
      go_roundw
      case rel=>exact ⟨j-1,_,_,by go_num,by omega,by rw [List.length_set]; exact hol,by rw [List.length_set]; exact hrl',hD7,HDn,HOn⟩
      case measure=>simp [intOf]; omega
     ·obtain rfl:j=0:=by omega
      go_wp2_with fail
      go_ret
      exact ⟨_,o,rfl,hD.o6,hide ⟨HDist.out o (.zero _ _),fun y hy=>by have:=HOB.out y hy; omega⟩,hD.ext⟩
end Go.Proofs.YtfkpghdmljjegaaGreat
namespace Go.Proofs.YtfkpghdmljjegaaGreat
open Go.RowKit
def Bd (M:Int) (l:List Int):Prop:=∀y∈l,-M≤y∧y≤M
theorem Bd.mono {M M':Int} {l:List Int} (h:Bd M l) (hm:M≤M'):Bd M' l:=fun y hy=>by have:=h y hy; omega
theorem addS_take {s:Int} {g sh:List Int} {k:Nat} {a b:Int} (ha:g[k]? =some a) (hb:sh[k]? =some b):addS s (g.take (k+1)) (sh.take (k+1))=addS s (g.take k) (sh.take k)++[a+s*b]:=by
 have h1:=(List.getElem?_eq_some_iff.1 ha).1
 have h2:=(List.getElem?_eq_some_iff.1 hb).1
 unfold addS
 rw [List.take_add_one,List.take_add_one,ha,hb,List.zipWith_append (by rw [List.length_take,List.length_take]; omega)]
 rfl
theorem addS_bd {s M K:Int} (hs:s=1∨s= -1):∀ {g sh:List Int},Bd M g→Bd K sh→Bd (M+K) (addS s g sh)
 | [],_,_,_=>fun y hy=>by simp [addS] at hy
 | _::_,[],_,_=>fun y hy=>by simp [addS] at hy
 | a::g,b::sh,h1,h2=>fun y hy=>by
  simp only [addS,List.zipWith_cons_cons,List.mem_cons] at hy
  rcases hy with rfl | hy
  ·have:=h1 a (by simp)
   have:=h2 b (by simp)
   rcases hs with rfl | rfl <;> omega
  ·exact addS_bd hs (fun y hy=>h1 y (by simp [hy])) (fun y hy=>h2 y (by simp [hy])) y hy
set_option maxHeartbeats 2000000 in
theorem c_l05Add (A:Option Addr) (n c:Nat) (g:List Int) (B:Option Addr) (m d:Nat) (sh:List Int) (s:Int) (w:World) (hg:SliceOf w 1 intC A n c g) (hsh:SliceOf w 1 intC B m d sh) (hnm:n=m) (hn:n≤100) (hs:s=1∨s= -1) (hgb:Bd 100000000 g) (hsb:Bd 60000 sh):
  Calls Tryz.prog 256 #[.slice A n c,.slice B m d,.int .i64 s] w (RetI (fun o=>o=addS s g sh) w):=by
 subst hnm
 have HL1:=hide hg.len
 have HL2:=hide hsh.len
 have HG:=hide hgb
 have HSB:=hide hsb
 clear hgb hsb
 go_enter Tryz.func256,Tryz.ntmps256
 go_wp2_with fail
 go_loopw [7,8] (fun u i wr=>∃k:Nat,k≤n∧i= .int .i64 k∧OwnL wr w.heap.size 2 1 intC u (addS s (g.take k) (sh.take k))∧Ext w wr) (fun _ i _=>n-(intOf i).toNat)
 case atStart=>exact ⟨0,Nat.zero_le _,rfl,own_new _ _ _ _ _ _ rfl (Nat.le_refl _),Ext.alloc _ _⟩
 case round=>
  obtain ⟨k,hk,rfl,hown,hx⟩:=hrel
  have hwz:=hx.size
  by_cases hlt:k<n
  ·obtain ⟨b1,f1,a,rfl,hb1,ha,hc1⟩:=hg.get hlt
   obtain ⟨b2,f2,b,rfl,hb2,hb,hc2⟩:=hsh.get hlt
   have t1w:=hc1 0 _ rfl
   have t2w:=hc2 0 _ rfl
   simp only [Nat.add_zero,Nat.mul_one] at t1w t2w
   have t1:=(hx.cell _ _ hb1).trans t1w
   have t2:=(hx.cell _ _ hb2).trans t2w
   have hb1':b1<wr.heap.size:=by omega
   have hb2':b2<wr.heap.size:=by omega
   clear t1w t2w
   have hab:=HG.out a (List.mem_of_getElem? ha)
   have hbb:=HSB.out b (List.mem_of_getElem? hb)
   have HT:=hide (addS_take (s:=s) ha hb)
   have hal:(addS s (g.take k) (sh.take k)).length=k:=by unfold addS; rw [List.length_zipWith,List.length_take,List.length_take, ←HL1.out, ←HL2.out]; omega
   clear hc1 hc2 ha hb
   have hmb: -60000≤s*b∧s*b≤60000:=by rcases hs with h | h <;> rw [h] <;> omega
   have e1:IntKind.i64.wrap (s*b)=s*b:=IntWalk.i64_in _ (by omega)
   have e2:IntKind.i64.wrap (a+s*b)=a+s*b:=IntWalk.i64_in _ (by omega)
   clear hmb hs
   go_wp2_with fail
   refine wp_region_phC [(b1,f1+k),(b2,f2+k)] [([0,1,2,3,4,5,6,7,8,9,10,11],12),([],13)] [14] (by kernel_rfl) (by kernel_rfl) (by intro c a w d v h; cases d <;> exact h) ?_
   simp only [wpPhC,pickL,nthO]
   repeat (go_big_quiet_step (fail))
   refine wpQuiet_nil ?_
   go_wp2_with fail
   generalize hsb:s*b=sb at *
   clear hsb
   obtain ⟨W,HW⟩:∃W,Hid ((wr.alloc (.cells #[.int .i64 (a+sb)] 2)).drew=W):=⟨_,hide rfl⟩
   rw [HW.out]
   have hxa:Ext wr W:=by rw [←HW.out]; exact ((Ext.refl wr).and_alloc _).drew
   have hWz:w.heap.size≤W.heap.size:=by have:=hxa.size; omega
   have hWn:SliceOf W 1 intC (some ⟨wr.heap.size,0,none⟩) 1 1 [a+sb]:=by rw [←HW.out]; exact (new_int wr _ _ rfl).ext (Ext.refl _).drew
   refine ⟨SameC.of_ext hxa (by simp; omega),wpQuiet_nil ?_⟩
   go_wp2_with (at_builtin; go_must (refine wpList_append_where rfl _ _ 24 rfl w.heap.size 2 _ 1 8 Tryz.underlying24 int_info rfl (by decide) intC intC_len int_one' _ (addS s (g.take k) (sh.take k)) rfl (hown.ext hxa) wr.heap.size 0 1 1 [a+sb] rfl hWn (by omega) (by omega) hWz ?_))
   intro v2 w2 ho2 hg2 _
   have hx2:=(hx.trans hxa).grown hg2 (fun k hk=>hown.block_le hk)
   have hsm:SameC [(b1,f1+k),(b2,f2+k)] wr w2:=by
    intro q hq
    simp only [List.mem_cons,List.not_mem_nil,or_false] at hq
    rcases hq with rfl | rfl
    ·exact (hx2.cell _ _ hb1).trans (hx.cell _ _ hb1).symm
    ·exact (hx2.cell _ _ hb2).trans (hx.cell _ _ hb2).symm
   rw [←HT.out] at ho2
   clear hown hg2 hxa
   go_wp2_with fail
   refine ⟨hsm,?_⟩
   repeat (go_big_quiet_step (fail))
   refine wpQuiet_nil ?_
   go_wp2_with fail
   go_roundw
   case rel=>exact ⟨k+1,by omega,by go_num,ho2,hx2⟩
   case measure=>simp [intOf]; omega
  ·obtain rfl:n=k:=by omega
   have HT1:=hide (show g.take n=g by rw [HL1.out,List.take_length])
   have HT2:=hide (show sh.take n=sh by rw [HL2.out,List.take_length])
   rw [HT1.out,HT2.out] at hown
   go_wp2_with fail
   go_ret
   exact ⟨_,_,rfl,hown,hide rfl,hx⟩
end Go.Proofs.YtfkpghdmljjegaaGreat
namespace Go.Proofs.YtfkpghdmljjegaaGreat
open Go.RowKit
theorem drop_atA {α:Type} {l:List α} {k:Nat} {x:α} (h:l[k]? =some x):l.drop k=x::l.drop (k+1):=by
 obtain ⟨hk,rfl⟩:=List.getElem?_eq_some_iff.1 h
 exact List.drop_eq_getElem_cons hk
theorem ShSt.new6 {w wr wr':World} {v6 v7 v':Value} {o o' r:List Int} (h:ShSt w wr v6 v7 o r) (hx:Ext wr wr') (ho:OwnL wr' wr.heap.size 2 1 intC v' o'):ShSt w wr' v' v7 o' r:=
 ⟨ho.lowG h.ext.size,h.o7.ext hx,fun k hk h2=>by have h3:=ho.block_le hk; have h4:=(h.o7.ltG h2).2; omega,h.ext.trans hx⟩
def Rdg (rs:List Reading):Prop:=∀x∈rs,(-30000≤x.amount∧x.amount≤30000)∧x.amount≠0
def RetAl (os:List Order) (rs:List Reading) (w:World) (e:Ending) (w':World):Prop:=
 ∃v1 v2 g,e= .returned (.tuple #[v1,v2])∧ShSt w w' v1 v2 g (unalL os 0 rs)∧Hid (Alloc os (List.replicate os.length 0) rs g∧Bd 10000000 g∧g.length=os.length)
set_option maxHeartbeats 1000000 in
theorem c_l28Allocate (A:Option Addr) (n c:Nat) (os:List Order) (B:Option Addr) (m d:Nat) (rs:List Reading) (w:World) (hs:SliceOf w 4 Order.cells A n c os) (hr:SliceOf w 2 Reading.cells B m d rs) (hn:n≤40) (hm:m≤48) (ha:Amt os) (hrd:Rdg rs):
  Calls Tryz.prog 207 #[.slice A n c,.slice B m d] w (RetAl os rs w):=by
 have HL:=hide hs.len
 have HM:=hide hr.len
 have HA:=hide ha
 have HR:=hide hrd
 clear ha hrd
 have hmk:=fun W=>run_make_flat (P:=Tryz.prog) 24 2 _ _ 1 8 Tryz.underlying24 int_info (f:=intC) 0 rfl rfl rfl (by omega) n (by omega) (by omega) W
 have hS0:ShSt w ((w.alloc (.cells ((List.replicate n (0:Int)).flatMap intC).toArray 2)).alloc (.cells #[] 2)) (.slice (some ⟨w.heap.size,0,none⟩) n n) (.slice (some ⟨w.heap.size+1,0,none⟩) 0 0) (List.replicate n 0) (unalL os 0 (rs.take 0)):=
  ⟨(own_rep w w.heap.size _ n rfl (Nat.le_refl _) (by omega)).ext (Ext.alloc _ _),own_new _ w.heap.size _ _ _ _ (by simp) (by omega),fun k hk h2=>by simp [Value.ownBlock] at hk h2; omega,(Ext.alloc _ _).and_alloc _⟩
 have hb0:Bd 0 (List.replicate n 0):=fun y hy=>by have:=List.eq_of_mem_replicate hy; omega
 go_enter Tryz.func207,Tryz.ntmps207
 go_wp2_with fail
 clear hmk
 go_loopw [6,7,8] (fun u v i wr=>∃(k:Nat) (g:List Int),k≤m∧i= .int .i64 k∧g.length=n∧ShSt w wr u v g (unalL os 0 (rs.take k))∧Hid (∀g',Alloc os g (rs.drop k) g'→Alloc os (List.replicate os.length 0) rs g')∧Hid (Bd (60000*(k:Int)) g)) (fun _ _ i _=>m-(intOf i).toNat)
 case atStart=>exact ⟨0,List.replicate n 0,Nat.zero_le _,rfl,by simp,hS0,hide (fun g' h=>by rw [←HL.out]; exact h),hide (by simpa using hb0)⟩
 case round=>
  clear hS0 hb0
  obtain ⟨k,g,hk,rfl,hgl,hD,HAl,HBd⟩:=hrel
  have hx:=hD.ext
  have hwz:=hx.size
  by_cases hlt:k<m
  ·obtain ⟨b,off,x,rfl,hbb,hxk,hc⟩:=hr.get hlt
   have j0w:=hc 0 _ rfl
   have j1w:=hc 1 _ rfl
   simp only [Nat.add_zero] at j0w
   have HX:=hide hxk
   have hxb:=HR.out x (List.mem_of_getElem? hxk)
   clear hc hxk
   have j0:=(hx.cell _ _ hbb).trans j0w
   have j1:=(hx.cell _ _ hbb).trans j1w
   have hbw:b<wr.heap.size:=by omega
   go_wp2_with fail
   refine (c_l28Weights A n c os x _ (hs.ext hx) (by omega) HA.out).mono ?_
   rintro e w2 ⟨v9,ws,rfl,ho9,hwse,hx2⟩
   obtain rfl:=hwse.out
   obtain ⟨A9,c9,rfl,hs9⟩:=ho9.sl intC_len (by omega)
   have hw9l:(wts os x).length=n:=by rw [wts,List.length_map, ←HL.out]
   have hwb:∀z∈wts os x,0≤z∧z≤30000:=fun z hz=>by
    obtain ⟨o,ho,rfl⟩:=List.mem_map.1 hz
    exact wt_bd (HA.out o ho)
   have hallB:allB (wts os x) (-1000000000) 1000000000=true:=List.all_eq_true.2 (fun z hz=>inB_true.2 (by have:=hwb z hz; omega))
   have HS0:=hide (sumZ_nonneg (fun z hz=>(hwb z hz).1))
   have HU:=hide (unal_take (os:=os) HX.out)
   have HDr:=hide (drop_atA HX.out)
   have HSk:=hide (fun (g':List Int) (hz:sumZ (wts os x)=0) (h:Alloc os g (rs.drop (k+1)) g')=>Alloc.skip hz h)
   have HAd:=hide (fun (g' sh:List Int) (hz:0<sumZ (wts os x)) (hd:Shares (absZ x.amount) (wts os x) sh) (h:Alloc os (addS (sgn x) g sh) (rs.drop (k+1)) g')=>Alloc.add hz hd h)
   generalize wts os x=ws at *
   rw [hw9l] at hs9
   have HWB:=hide hwb
   have hD2:=hD.more hx2
   have j2:=(hx2.cell _ _ hbw).trans j1
   clear hwb ho9 hD j0 j1
   go_wp2_with fail
   refine (c_l01Sum A9 n c9 ws _ hs9 hallB (by omega)).mono ?_
   rw [sumI_eq]
   obtain ⟨sm,hsm⟩:∃sm,sumZ ws=sm:=⟨_,rfl⟩
   have HSM:=hide hsm
   rw [hsm]
   rw [hsm] at HS0 HU
   rintro e w' ⟨rfl,rfl⟩
   clear hsm hallB
   by_cases h0:sm=0
   ·have hb0:(sm==0)=true:=by rw [beq_iff_eq]; exact h0
    rw [h0] at HU HSM
    have hul:=unal_len os 0 (rs.take k)
    rw [List.length_take] at hul
    have HUL:=hide (show (unalL os 0 (rs.take k)).length≤k by omega)
    rw [if_pos rfl] at HU
    clear hul h0
    go_wp2_with (at_builtin; go_must (refine wpList_append_where rfl _ _ 24 rfl w.heap.size 2 _ 1 8 Tryz.underlying24 int_info rfl (by decide) intC intC_len int_one' _ (unalL os 0 (rs.take k)) rfl (hD2.o7.ext (Ext.alloc _ _)) w2.heap.size 0 1 1 [(k:Int)] rfl (new_int w2 _ _ rfl) (by have:=HUL.out; omega) (by omega) (by have:=hD2.ext.size; simp; omega) ?_))
    intro v' w4 ho4 hg4 hb4
    have hD4:=hD2.app7 (Ext.alloc _ _) ho4 hg4 (by simpa using hb4)
    rw [←HU.out] at hD4
    clear hD2 ho4 hg4 hb4
    go_wp2_with fail
    go_roundw
    case rel=>exact ⟨k+1,g,by omega,by go_num,hgl,hD4,hide (fun g' h=>HAl.out g' (by rw [HDr.out]; exact HSk.out g' HSM.out h)),hide (HBd.out.mono (by omega))⟩
    case measure=>simp [intOf]; omega
   ·have hb0:(sm==0)=false:=by rw [beq_eq_false_iff_ne]; exact h0
    have h0p:0<sm:=by have:=HS0.out; omega
    rw [if_neg h0,List.append_nil] at HU
    by_cases hneg:x.amount<0
    ·have e1:IntKind.i64.wrap ((-1)*x.amount)= -x.amount:=by rw [show (-1)*x.amount= -x.amount by omega]; exact IntWalk.i64_in _ (by omega)
     have hsg:sgn x= -1:=by unfold sgn; rw [if_pos hneg]
     have hab:absZ x.amount= -x.amount:=by unfold absZ; rw [if_pos hneg]
     have HSG:=hide hsg
     have HAB:=hide hab
     clear hsg hab
     obtain ⟨A6,c6,rfl,hs6⟩:=hD2.o6.sl intC_len (by omega)
     rw [hgl] at hs6
     go_wp2_with fail
     refine (c_l01Shares A9 n c9 ws (-x.amount) w2 hs9 ⟨by omega,HWB.out,by omega,by rw [HSM.out]; exact h0p⟩).mono ?_
     rintro e w3 ⟨v3,sh,rfl,ho3,HSH,hx3⟩
     obtain ⟨A3,c3,rfl,hs3⟩:=ho3.sl intC_len (by omega)
     have hshl:sh.length=n:=by rw [HSH.out.1.len,hw9l]
     rw [hshl] at hs3
     go_wp2_with fail
     refine (c_l05Add _ n _ g A3 n c3 sh (-1) w3 (hs6.ext hx3) hs3 rfl (by omega) (by decide) (HBd.out.mono (by omega)) (fun y hy=>by have:=HSH.out.2 y hy; omega)).mono ?_
     rintro e w4 ⟨v4,g4,rfl,ho4,HG4,hx4⟩
     have hD4:=(hD2.more hx3).new6 hx4 ho4
     have h4l:g4.length=n:=by rw [HG4.out]; rw [addS_len (by omega)]; exact hgl
     have HB4:=hide (show Bd (60000*((k+1:Nat):Int)) g4 by rw [HG4.out]; exact (addS_bd (by decide) HBd.out (K:=60000) (fun y hy=>by have:=HSH.out.2 y hy; omega)).mono (by omega))
     have HA4:=hide (fun (g':List Int) (h:Alloc os g4 (rs.drop (k+1)) g')=>HAl.out g' (by rw [HDr.out]; exact HAd.out g' sh (by rw [HSM.out]; exact h0p) (by rw [HAB.out]; exact HSH.out.1) (by rw [HSG.out, ←HG4.out]; exact h)))
     rw [←HU.out] at hD4
     clear hD2 ho4 ho3 hs3 hs6
     go_wp2_with fail
     go_roundw
     case rel=>exact ⟨k+1,g4,by omega,by go_num,h4l,hD4,HA4,HB4⟩
     case measure=>simp [intOf]; omega
    ·have e1:IntKind.i64.wrap ((1)*x.amount)=x.amount:=by rw [show (1)*x.amount=x.amount by omega]; exact IntWalk.i64_in _ (by omega)
     have hsg:sgn x=1:=by unfold sgn; rw [if_neg hneg]
     have hab:absZ x.amount=x.amount:=by unfold absZ; rw [if_neg hneg]
     have HSG:=hide hsg
     have HAB:=hide hab
     clear hsg hab
     obtain ⟨A6,c6,rfl,hs6⟩:=hD2.o6.sl intC_len (by omega)
     rw [hgl] at hs6
     go_wp2_with fail
     refine (c_l01Shares A9 n c9 ws (x.amount) w2 hs9 ⟨by omega,HWB.out,by omega,by rw [HSM.out]; exact h0p⟩).mono ?_
     rintro e w3 ⟨v3,sh,rfl,ho3,HSH,hx3⟩
     obtain ⟨A3,c3,rfl,hs3⟩:=ho3.sl intC_len (by omega)
     have hshl:sh.length=n:=by rw [HSH.out.1.len,hw9l]
     rw [hshl] at hs3
     go_wp2_with fail
     refine (c_l05Add _ n _ g A3 n c3 sh (1) w3 (hs6.ext hx3) hs3 rfl (by omega) (by decide) (HBd.out.mono (by omega)) (fun y hy=>by have:=HSH.out.2 y hy; omega)).mono ?_
     rintro e w4 ⟨v4,g4,rfl,ho4,HG4,hx4⟩
     have hD4:=(hD2.more hx3).new6 hx4 ho4
     have h4l:g4.length=n:=by rw [HG4.out]; rw [addS_len (by omega)]; exact hgl
     have HB4:=hide (show Bd (60000*((k+1:Nat):Int)) g4 by rw [HG4.out]; exact (addS_bd (by decide) HBd.out (K:=60000) (fun y hy=>by have:=HSH.out.2 y hy; omega)).mono (by omega))
     have HA4:=hide (fun (g':List Int) (h:Alloc os g4 (rs.drop (k+1)) g')=>HAl.out g' (by rw [HDr.out]; exact HAd.out g' sh (by rw [HSM.out]; exact h0p) (by rw [HAB.out]; exact HSH.out.1) (by rw [HSG.out, ←HG4.out]; exact h)))
     rw [←HU.out] at hD4
     clear hD2 ho4 ho3 hs3 hs6
     go_wp2_with fail
     go_roundw
     case rel=>exact ⟨k+1,g4,by omega,by go_num,h4l,hD4,HA4,HB4⟩
     case measure=>simp [intOf]; omega
  ·obtain rfl:m=k:=by omega
   have HT:=hide (show rs.take m=rs by rw [HM.out,List.take_length])
   have HDr:=hide (show rs.drop m=[] by rw [HM.out,List.drop_length])
   rw [HT.out] at hD
   have HF:=hide (⟨HAl.out g (by rw [HDr.out]; exact Alloc.nil g),HBd.out.mono (by omega),by rw [←HL.out]; exact hgl⟩:Alloc os (List.replicate os.length 0) rs g∧Bd 10000000 g∧g.length=os.length)
   go_wp2_with fail
   go_ret2
   exact ⟨_,_,g,rfl,hD,HF⟩
end Go.Proofs.YtfkpghdmljjegaaGreat
