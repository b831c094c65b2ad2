/-
  The shares of a total, of the reference.
-/
import Derived.Test.YtfkpghdmljjegaaGreatVe17
import Derived.Test.YtfkpghdmljjegaaGreatVe08
import Derived.Test.YtfkpghdmljjegaaGreatVe26
namespace Go.Proofs.YtfkpghdmljjegaaGreat
open Go.RowKit
theorem sumI_eq:∀l:List Int,sumI l=sumZ l
 | []=>rfl
 | x::l=>by simp only [sumI,sumZ]; rw [sumI_eq l]
theorem Apt.symm {v v':Value} (h:Apt v v'):Apt v' v:=fun k hk h2=>h k h2 hk
structure ShSt (w wr:World) (v6 v7:Value) (o r:List Int):Prop where
 o6:OwnL wr w.heap.size 2 1 intC v6 o
 o7:OwnL wr w.heap.size 2 1 intC v7 r
 apt:Apt v6 v7
 ext:Ext w wr
section
variable {w wr wr' W:World} {v6 v7 v':Value} {o r:List Int}
theorem ShSt.more (h:ShSt w wr v6 v7 o r) (hx:Ext wr wr'):ShSt w wr' v6 v7 o r:=⟨h.o6.ext hx,h.o7.ext hx,h.apt,h.ext.trans hx⟩
theorem ShSt.app6 (h:ShSt w wr v6 v7 o r) (hx:Ext wr W) {o':List Int} (ho:OwnL wr' w.heap.size 2 1 intC v' o') (hg:W.grownBy wr' v6.ownBlock) (hb:∀k,v'.ownBlock=some k→v6.ownBlock=some k∨W.heap.size≤k):ShSt w wr' v' v7 o' r:=by
 refine ⟨ho,(h.o7.ext hx).grown hg (fun k hk=>h.apt.symm k hk),fun k hk h2=> ?_,(h.ext.trans hx).grown hg (fun k hk=>h.o6.block_le hk)⟩
 rcases hb k hk with h3 | h3
 ·exact h.apt k h3 h2
 ·have:=(h.o7.ltG h2).2; have:=hx.size; omega
theorem ShSt.app7 (h:ShSt w wr v6 v7 o r) (hx:Ext wr W) {r':List Int} (ho:OwnL wr' w.heap.size 2 1 intC v' r') (hg:W.grownBy wr' v7.ownBlock) (hb:∀k,v'.ownBlock=some k→v7.ownBlock=some k∨W.heap.size≤k):ShSt w wr' v6 v' o r':=by
 refine ⟨(h.o6.ext hx).grown hg (fun k hk=>h.apt k hk),ho,fun k hk h2=> ?_,(h.ext.trans hx).grown hg (fun k hk=>h.o7.block_le hk)⟩
 rcases hb k h2 with h3 | h3
 ·exact h.apt k hk h3
 ·have:=(h.o6.ltG hk).2; have:=hx.size; omega
theorem ShSt.put6 {A6:Option Addr} {n6 c6:Nat} (h:ShSt w wr (.slice A6 n6 c6) v7 o r) {b:Nat} {y:Int} (hb:o[b]? =some y) (v:Int):
  ∃g,A6=some ⟨g,0,none⟩∧g<wr.heap.size∧(∀i,wr.frozen? ⟨g,i,none⟩=false)∧wr.cell? ⟨g,b,none⟩=some (.int .i64 y)∧Apt (.slice (some ⟨g,0,none⟩) n6 c6) v7∧ShSt w (wr.setCell ⟨g,b,none⟩ (.int .i64 v)) (.slice A6 n6 c6) v7 (o.set b v) r:=by
 obtain ⟨g,hA,_,hg0,hg1,hf,hc,ho⟩:=h.o6.setOne intC_len (k:=b) (j:=0) (y:=v) (u:= .int .i64 v) hb (by omega) rfl
 have hc0:=hc 0 _ rfl
 simp only [Nat.mul_one,Nat.add_zero] at hc0 ho
 have ha:=h.apt
 rw [hA] at ha
 refine ⟨g,hA,hg1,hf,hc0,ha,ho,?_,h.apt,h.ext.setCell (p:=⟨g,b,none⟩) hg0 _⟩
 exact h.o7.grown ((Only.refl g wr).setCell rfl _) (fun k hk e=>ha k (by simpa [Value.ownBlock] using e) hk)
theorem ShSt.put7 {A7:Option Addr} {n7 c7:Nat} (h:ShSt w wr v6 (.slice A7 n7 c7) o r) {b:Nat} {y:Int} (hb:r[b]? =some y) (v:Int):
  ∃g,A7=some ⟨g,0,none⟩∧g<wr.heap.size∧(∀i,wr.frozen? ⟨g,i,none⟩=false)∧wr.cell? ⟨g,b,none⟩=some (.int .i64 y)∧ShSt w (wr.setCell ⟨g,b,none⟩ (.int .i64 v)) v6 (.slice A7 n7 c7) o (r.set b v):=by
 obtain ⟨g,hA,_,hg0,hg1,hf,hc,ho⟩:=h.o7.setOne intC_len (k:=b) (j:=0) (y:=v) (u:= .int .i64 v) hb (by omega) rfl
 have hc0:=hc 0 _ rfl
 simp only [Nat.mul_one,Nat.add_zero] at hc0 ho
 have ha:=h.apt
 rw [hA] at ha
 refine ⟨g,hA,hg1,hf,hc0,?_,ho,h.apt,h.ext.setCell (p:=⟨g,b,none⟩) hg0 _⟩
 exact h.o6.grown ((Only.refl g wr).setCell rfl _) (fun k hk e=>ha k hk (by simpa [Value.ownBlock] using e))
end
theorem quo_take {t s:Int} {ws:List Int} {k:Nat} {z:Int} (h:ws[k]? =some z):quoL t s (ws.take (k+1))=quoL t s (ws.take k)++[t*z/s]:=by
 unfold quoL; rw [List.take_add_one,h,List.map_append]; rfl
theorem rem_take {t s:Int} {ws:List Int} {k:Nat} {z:Int} (h:ws[k]? =some z):remL t s (ws.take (k+1))=remL t s (ws.take k)++[t*z % s]:=by
 unfold remL; rw [List.take_add_one,h,List.map_append]; rfl
def Wts (t:Int) (ws:List Int):Prop:=(0≤t∧t≤30000)∧(∀z∈ws,0≤z∧z≤30000)∧ws.length≤100∧0<sumZ ws
theorem mulA_bd {t z:Int} (ht:0≤t∧t≤30000) (hz:0≤z∧z≤30000):0≤t*z∧t*z≤900000000:=by
 refine ⟨Int.mul_nonneg ht.1 hz.1,?_⟩
 have h1:t*z≤30000*z:=Int.mul_le_mul_of_nonneg_right ht.2 hz.1
 omega
theorem sumZ_le:∀ {ws:List Int} {M:Int},(∀z∈ws,z≤M)→sumZ ws≤M*(ws.length:Int)
 | [],M,_=>by simp [sumZ]
 | x::ws,M,h=>by
  have ih:=sumZ_le (ws:=ws) (M:=M) (fun z hz=>h z (by simp [hz]))
  have:=h x (by simp)
  simp only [sumZ,List.length_cons,Int.natCast_succ,Int.mul_add,Int.mul_one]
  omega
theorem mem_le_sum:∀ {ws:List Int},(∀z∈ws,0≤z)→∀z∈ws,z≤sumZ ws
 | [],_,z,hz=>by cases hz
 | x::ws,h,z,hz=>by
  have h0:=sumZ_nonneg (l:=ws) (fun z hz=>h z (by simp [hz]))
  have hx:=h x (by simp)
  simp only [sumZ]
  rcases List.mem_cons.1 hz with rfl | hz
  ·omega
  ·have:=mem_le_sum (ws:=ws) (fun z hz=>h z (by simp [hz])) z hz; omega
theorem quo_bd {t:Int} {ws:List Int} (h:Wts t ws):∀y∈quoL t (sumZ ws) ws,0≤y∧y≤30000:=by
 intro y hy
 obtain ⟨w,hw,rfl⟩:=List.mem_map.1 hy
 have h1:=h.2.1 w hw
 have h2:=mulA_bd h.1 h1
 have h3:=mem_le_sum (fun z hz=>(h.2.1 z hz).1) w hw
 refine ⟨Int.ediv_nonneg h2.1 (by have:=h.2.2.2; omega),?_⟩
 have h4:t*w≤t*sumZ ws:=Int.mul_le_mul_of_nonneg_left h3 h.1.1
 have h5:t*w/sumZ ws≤t:=Int.ediv_le_of_le_mul h.2.2.2 h4
 have:=h.1.2; omega
set_option maxHeartbeats 4000000 in
theorem c_l01Shares (A:Option Addr) (n c:Nat) (ws:List Int) (t:Int) (w:World) (hs:SliceOf w 1 intC A n c ws) (hW:Wts t ws):
  Calls Tryz.prog 257 #[.int .i64 t,.slice A n c] w (RetI (fun o=>Shares t ws o∧∀y∈o,0≤y∧y≤60000) w):=by
 have hn:=hs.len
 have HW:=hide hW
 obtain ⟨ht,hb,hl,hsp⟩:=hW
 have hn100:n≤100:=by omega
 have hsM:=sumZ_le (M:=30000) (fun z hz=>(hb z hz).2)
 have hsb:sumZ ws≤3000000:=by omega
 have HLen:=hide hn
 have HB:=hide hb
 have HLF:=hide (left_facts (t:=t) hsp)
 have hn1:1≤n:=by
  cases ws with
  | nil=>simp [sumZ] at hsp
  | cons a l=>simp at hn; omega
 clear hb hl hsM hn
 obtain ⟨s,hse⟩:∃s,sumZ ws=s:=⟨_,rfl⟩
 have HS:=hide hse
 rw [hse] at hsp hsb HLF
 clear hse
 have hallB:allB ws (-1000000000) 1000000000=true:=List.all_eq_true.2 (fun z hz=>inB_true.2 (by have:=HB.out z hz; omega))
 go_enter Tryz.func257,Tryz.ntmps257
 go_wp2_with fail
 refine (c_l01Sum A n c ws _ hs hallB (by omega)).mono ?_
 rw [sumI_eq,HS.out]
 rintro e w1 ⟨rfl,rfl⟩
 clear hallB
 have hS0:ShSt w ((w.alloc (.cells #[] 2)).alloc (.cells #[] 2)) (.slice (some ⟨w.heap.size,0,none⟩) 0 0) (.slice (some ⟨w.heap.size+1,0,none⟩) 0 0) [] []:=
  ⟨(own_new w w.heap.size _ _ _ _ rfl (Nat.le_refl _)).ext (Ext.alloc _ _),own_new _ w.heap.size _ _ _ _ (by simp) (by omega),fun k hk h2=>by simp [Value.ownBlock] at hk h2; omega,(Ext.alloc _ _).and_alloc _⟩
 go_wp2_with fail
 go_loopw [6,7,8,9] (fun u6 u7 l i wr=>∃(k:Nat) (S:Int),k≤n∧i= .int .i64 k∧l= .int .i64 (t-S)∧0≤S∧S≤900000000*(k:Int)∧Hid (S=sumZ (quoL t s (ws.take k)))∧ShSt w wr u6 u7 (quoL t s (ws.take k)) (remL t s (ws.take k))) (fun _ _ _ i _=>n-(intOf i).toNat)
 case atStart=>exact ⟨0,0,Nat.zero_le _,rfl,by simp,by omega,by omega,hide rfl,hS0⟩
 case round=>
  clear hS0
  obtain ⟨k,S,hk,rfl,rfl,hS0,hS1,HSS,hD⟩:=hrel
  have hwz:=hD.ext.size
  by_cases hlt:k<n
  ·obtain ⟨b,off,z,rfl,hbb,hzk,hc⟩:=hs.get hlt
   have hc0:=hc 0 _ rfl
   simp only [Nat.add_zero,Nat.mul_one] at hc0
   have hr0:=(hD.ext.cell _ _ hbb).trans hc0
   have hb0:b<wr.heap.size:=by omega
   have hzb:=HB.out z (List.mem_of_getElem? hzk)
   have hmb:=mulA_bd ht hzb
   have HQ:=hide (quo_take (t:=t) (s:=s) hzk)
   have HR:=hide (rem_take (t:=t) (s:=s) hzk)
   clear hc hzk
   have hq0:0≤t*z/s:=Int.ediv_nonneg hmb.1 (by omega)
   have hq1:t*z/s≤t*z:=Int.ediv_le_self _ hmb.1
   have e1:IntKind.i64.wrap (t*z)=t*z:=IntWalk.i64_in _ (by omega)
   have e2:(t*z).tdiv s=t*z/s:=Int.tdiv_eq_ediv_of_nonneg hmb.1
   have e3:(t*z).tmod s=t*z % s:=Int.tmod_eq_emod_of_nonneg hmb.1
   have e4:IntKind.i64.wrap (t*z/s)=t*z/s:=IntWalk.i64_in _ (by omega)
   have e5:IntKind.i64.wrap (t-S-t*z/s)=t-S-t*z/s:=IntWalk.i64_in _ (by omega)
   have e6:IntKind.i64.wrap (t*z % s)=t*z % s:=IntWalk.i64_in _ (by have:=Int.emod_nonneg (t*z) (b:=s) (by omega); have:=Int.emod_lt_of_pos (t*z) hsp; omega)
   have hql:(quoL t s (ws.take k)).length=k:=by unfold quoL; rw [List.length_map,List.length_take, ←HLen.out]; omega
   have hrl:(remL t s (ws.take k)).length=k:=by unfold remL; rw [List.length_map,List.length_take, ←HLen.out]; omega
   generalize hQ:t*z/s=q at *
   generalize hRm:t*z % s=rm at *
   generalize hTZ:t*z=tz at *
   clear hQ hRm
   have hs0:¬s=0:=by omega
   go_wp2_with (at_builtin; go_must (refine wpList_append_where rfl _ _ 24 rfl w.heap.size 2 _ 1 8 Tryz.underlying24 int_info rfl (by decide) intC intC_len int_one' (_) (quoL t s (ws.take k)) rfl (hD.o6.ext (Ext.alloc _ _)) (wr.heap.size) 0 1 1 [q] rfl (new_int wr _ _ (by simp)) (by first | omega | (simp [quoL,remL]; omega)) (by omega) (by first | omega | (simp; omega)) ?_))
   intro v6' w2 ho2 hg2 hb2
   have hD2:=hD.app6 (Ext.alloc wr (.cells #[.int .i64 q] 2)) ho2 hg2 (fun k hk=>by have:=hb2 k hk; simpa using this)
   have hr2:=(hD2.ext.cell _ _ hbb).trans hc0
   have hwz2:=hD2.ext.size
   have hb2':b<w2.heap.size:=by omega
   clear ho2 hg2 hb2 hr0
   go_wp2_with (at_builtin; go_must (refine wpList_append_where rfl _ _ 24 rfl w.heap.size 2 _ 1 8 Tryz.underlying24 int_info rfl (by decide) intC intC_len int_one' (_) (remL t s (ws.take k)) rfl (hD2.o7.ext (Ext.alloc _ _)) (w2.heap.size) 0 1 1 [rm] rfl (new_int w2 _ _ (by simp)) (by first | omega | (simp [quoL,remL]; omega)) (by omega) (by first | omega | (simp; omega)) ?_))
   intro v7' w3 ho3 hg3 hb3
   have hD3:=hD2.app7 (Ext.alloc w2 (.cells #[.int .i64 rm] 2)) ho3 hg3 (fun k hk=>by have:=hb3 k hk; simpa using this)
   rw [←HQ.out, ←HR.out] at hD3
   have HS3:=hide (show S+q=sumZ (quoL t s (ws.take (k+1))) by rw [HQ.out,sumZ_append, ←HSS.out]; simp [sumZ])
   clear ho3 hg3 hb3 hD2 hD hr2 hql hrl
   go_wp2_with fail
   go_roundw
   case rel=>exact ⟨k+1,S+q,by omega,by go_num,by rw [show t-(S+q)=t-S-q by omega],by omega,by omega,HS3,hD3⟩
   case measure=>simp [intOf]; omega
  ·obtain rfl:n=k:=by omega
   have HT:=hide (show ws.take n=ws by rw [HLen.out,List.take_length])
   rw [HT.out] at hD HSS
   have hL:=HLF.out
   rw [←HSS.out] at hL
   have HDist:=hide (show ∀o',Dist (t-S).toNat (quoL t s ws) (remL t s ws) o'→Shares t ws o' from fun o' h=>by unfold Shares; rw [HS.out, ←HSS.out]; exact h)
   have HQB:=hide (show ∀y∈quoL t s ws,0≤y∧y≤30000 from by have:=quo_bd HW.out; rw [HS.out] at this; exact this)
   obtain ⟨j0,hj0⟩:=Int.eq_ofNat_of_zero_le hL.1
   obtain ⟨A6,c6,rfl,-⟩:=hD.o6.sl intC_len (by omega)
   obtain ⟨A7,c7,rfl,-⟩:=hD.o7.sl intC_len (by omega)
   have hql:(quoL t s ws).length=n:=by simp [quoL,HLen.out]
   have hrl:(remL t s ws).length=n:=by simp [remL,HLen.out]
   rw [hj0] at HDist ⊢
   rw [hql] at hD ⊢
   rw [hrl] at hD ⊢
   generalize quoL t s ws=o0 at *
   generalize remL t s ws=r0 at *
   clear HT HLF hL HSS
   have hj30:j0≤30000:=by omega
   clear hj0 hS0 hS1
   go_wp2_with fail
   go_loopw [8] (fun l wr=>∃(j:Nat) (o r:List Int),l= .int .i64 j∧j≤30000∧o.length=n∧r.length=n∧ShSt w wr (.slice A6 n c6) (.slice A7 n c7) o r∧Hid (∀o',Dist j o r o'→Shares t ws o')∧Hid (∀y∈o,0≤y∧y+j≤60000)) (fun l _=>(intOf l).toNat)
   case atStart=>exact ⟨j0,o0,r0,rfl,hj30,hql,hrl,hD,by simpa using HDist,hide (fun y hy=>by have:=HQB.out y hy; omega)⟩
   case round=>
    clear hD HDist HQB
    obtain ⟨j,o,r,rfl,hj,hol,hrl',hD,HDist,HOB⟩:=hrel
    by_cases hj0:0<j
    ·obtain ⟨x0,hx0⟩:∃x0,r[0]? =some x0:=⟨_,List.getElem?_eq_getElem (by omega)⟩
     have HB1:=hide (Best.one hx0)
     clear hx0
     go_wp2_with fail
     go_loopw [11,12] (fun bv iv wr2=>∃(b i:Nat) (z:Int),bv= .int .i64 b∧iv= .int .i64 i∧1≤i∧i≤n∧Hid (Best (r.take i) b z)∧Ext wr wr2) (fun _ iv _=>n-(intOf iv).toNat)
     case atStart=>exact ⟨0,1,x0,rfl,rfl,Nat.le_refl _,hn1,HB1,Ext.refl _⟩
     case round=>
      clear HB1
      obtain ⟨b,i,z,rfl,rfl,hi1,hin,HBst,hx⟩:=hrel
      have hD':=hD.more hx
      have hbi:b<i:=by have:=(List.getElem?_eq_some_iff.1 HBst.out.at_).1; rw [List.length_take] at this; omega
      have hrb:r[b]? =some z:=by have:=HBst.out.at_; rw [List.getElem?_take,if_pos hbi] at this; exact this
      have HRB:=hide hrb
      by_cases hlt:i<n
      ·obtain ⟨b7,f7,y,rfl,hb7,hyi,hc7⟩:=(hD'.o7.slE intC_len (by omega)).get (k:=i) hlt
       obtain ⟨b7',f7',z',he7,_,hzb,hc7'⟩:=(hD'.o7.slE intC_len (by omega)).get (k:=b) (by omega)
       simp only [Option.some.injEq,Addr.mk.injEq,and_true] at he7
       obtain ⟨rfl,rfl⟩:=he7
       obtain rfl:z'=z:=by rw [hrb] at hzb; exact (Option.some.inj hzb).symm
       have t0:=hc7 0 _ rfl
       have t1:=hc7' 0 _ rfl
       simp only [Nat.add_zero,Nat.mul_one] at t0 t1
       have HYI:=hide hyi
       clear hc7 hc7' hyi hzb hrb hD'
       by_cases hgt:z'<y
       ·have HN:=hide (HBst.out.take_gt HYI.out hgt)
        go_wp2_with fail
        refine wp_region_later (by kernel_rfl) (by kernel_rfl) ?_
        repeat (go_big_quiet_step (fail))
        refine wpQuiet_nil ?_
        intro w1 hx1
        go_wp2_with fail
        go_roundw
        case rel=>exact ⟨i,i+1,y,rfl,by go_num,by omega,by omega,HN,hx.trans hx1⟩
        case measure=>simp [intOf]; omega
       ·have HN:=hide (HBst.out.take_le HYI.out (by omega))
        go_wp2_with fail
        refine wp_region_later (by kernel_rfl) (by kernel_rfl) ?_
        repeat (go_big_quiet_step (fail))
        refine wpQuiet_nil ?_
        intro w1 hx1
        go_wp2_with fail
        go_roundw
        case rel=>exact ⟨b,i+1,z',rfl,by go_num,by omega,by omega,HN,hx.trans hx1⟩
        case measure=>simp [intOf]; omega
      ·obtain rfl:n=i:=by omega
       have HBr:=hide (show Best r b z by have:=HBst.out; rw [←hrl',List.take_length] at this; exact this)
       obtain ⟨y,hy⟩:∃y,o[b]? =some y:=⟨_,List.getElem?_eq_getElem (by omega)⟩
       have hyb:=HOB.out y (List.mem_of_getElem? hy)
       obtain ⟨g7,hA7,hl7,hf7,hc7,-⟩:=hD'.put7 hrb (-1)
       obtain ⟨g6,hA6,hl6,hf6,hc6,hap,hD6⟩:=hD'.put6 hy (y+1)
       subst hA7 hA6
       have hne:g6≠g7:=fun e=>hap g6 rfl (by rw [e]; rfl)
       obtain ⟨g7',hA7',-,-,-,hD7⟩:=hD6.put7 hrb (-1)
       obtain rfl:g7=g7':=by simpa using hA7'
       have HDn:=hide (show ∀o',Dist (j-1) (o.set b (y+1)) (r.set b (-1)) o'→Shares t ws o' from fun o' h=>HDist.out o' (by have:=Dist.step HBr.out hy h; rwa [show j-1+1=j by omega] at this))
       have HOn:=hide (show ∀v∈o.set b (y+1),0≤v∧v+((j-1:Nat):Int)≤60000 from fun v hv=>by
        rcases List.mem_or_eq_of_mem_set hv with h | h
        ·have:=HOB.out v h; omega
        ·omega)
       have e1:IntKind.i64.wrap (y+1)=y+1:=IntWalk.i64_in _ (by omega)
       have hbn:b<n:=hbi
       clear hA7' hap hD6 hD' hy hrb
       go_wp2_with fail
       go_roundw
       case rel=>exact ⟨j-1,_,_,by go_num,by omega,by rw [List.length_set]; exact hol,by rw [List.length_set]; exact hrl',hD7,HDn,HOn⟩
       case measure=>simp [intOf]; omega
    ·obtain rfl:j=0:=by omega
     go_wp2_with fail
     go_ret
     exact ⟨_,o,rfl,hD.o6,hide ⟨HDist.out o (.zero _ _),fun y hy=>by have:=HOB.out y hy; omega⟩,hD.ext⟩
end Go.Proofs.YtfkpghdmljjegaaGreat
namespace Go.Proofs.YtfkpghdmljjegaaGreat
open Go.RowKit
def Amt (os:List Order):Prop:=∀o∈os,-30000≤o.amount∧o.amount≤30000
theorem wts_take {x:Reading} {os:List Order} {k:Nat} {o:Order} (h:os[k]? =some o):wts (os.take (k+1)) x=wts (os.take k) x++[wt x o]:=by
 unfold wts; rw [List.take_add_one,h,List.map_append]; rfl
theorem wt_bd {x:Reading} {o:Order} (h: -30000≤o.amount∧o.amount≤30000):0≤wt x o∧wt x o≤30000:=by
 refine ⟨wt_nonneg x o,?_⟩
 unfold wt sgn
 split
 ·split
  ·split <;> (try split at *) <;> omega
  ·omega
 ·omega
set_option maxHeartbeats 2000000 in
theorem c_l28Weights (A:Option Addr) (n c:Nat) (os:List Order) (x:Reading) (w:World) (hs:SliceOf w 4 Order.cells A n c os) (hn:n≤100) (ha:Amt os):
  Calls Tryz.prog 196 #[.slice A n c,.agg #[.int .i64 x.node,.int .i64 x.amount]] w (RetI (fun o=>o=wts os x) w):=by
 have HL:=hide hs.len
 have HA:=hide ha
 have hB:=Row.new w 176 [.int .i64 x.node,.int .i64 x.amount]
 have key:∀(g:Int),g=sgn x→(g=1∨g= -1):=fun g hg=>by unfold sgn at hg; split at hg <;> omega
 obtain ⟨g,hg⟩:∃g,sgn x=g:=⟨_,rfl⟩
 have hg1:=key g hg.symm
 have HG:=hide hg
 clear hg key ha
 by_cases hneg:x.amount<0
 ·have hgm:g= -1:=by have:=HG.out; unfold sgn at this; rw [if_pos hneg] at this; omega
  subst hgm
  clear hg1
  go_enter Tryz.func196,Tryz.ntmps196
  go_wp2_with fail
  go_loopw [6,7] (fun u i wr=>∃k:Nat,k≤n∧i= .int .i64 k∧OwnL wr (w.heap.size+1) 2 1 intC u (wts (os.take k) x)∧Ext (w.alloc (.cells #[.int .i64 x.node,.int .i64 x.amount] 176)) wr) (fun _ i _=>n-(intOf i).toNat)
  case atStart=>exact ⟨0,Nat.zero_le _,rfl,own_new _ _ _ _ _ _ (by simp) (by omega),Ext.alloc _ _⟩
  case round=>
   obtain ⟨k,hk,rfl,hown,hx⟩:=hrel
   have hX:=(Ext.alloc w _).trans hx
   have hwz:=hx.size
   simp at hwz
   have x0:=(hB.ext hx).cell 0
   have x1:=(hB.ext hx).cell 1
   simp at x0 x1
   have xl:=(hB.ext hx).lt
   by_cases hlt:k<n
   ·obtain ⟨b,off,o,rfl,hbb,hok,hc⟩:=(hs.ext hX).get hlt
    have j1:=hc 1 _ rfl
    have j2:=hc 2 _ rfl
    have hab:=HA.out o (List.mem_of_getElem? hok)
    have HT:=hide (wts_take (x:=x) hok)
    have hwl:(wts (os.take k) x).length=k:=by unfold wts; rw [List.length_map,List.length_take, ←HL.out]; omega
    clear hc hok
    cases hnn:(o.node==x.node)
    ·have HW0:=hide (show wt x o=0 by unfold wt; rw [if_neg (by simpa using hnn)])
     go_wp2_with fail
     refine wp_region_later (by kernel_rfl) (by kernel_rfl) ?_
     repeat (go_big_quiet_step (fail))
     refine wpQuiet_nil ?_
     intro w1 hx1
     have hown1:=hown.ext hx1
     have hx01:=hx.trans hx1
     have hz1:=hx01.size
     simp at hz1
     go_wp2_with (at_builtin; go_must (refine wpList_append_where rfl _ _ 24 rfl (w.heap.size+1) 2 _ 1 8 Tryz.underlying24 int_info rfl (by decide) intC intC_len int_one' _ (wts (os.take k) x) rfl (hown1.ext (Ext.alloc _ _)) (w1.heap.size) 0 1 1 [0] rfl (new_int w1 w1.heap.size _ rfl) (by omega) (by omega) (by first | omega | (simp; omega)) ?_))
     intro v2 w2 ho2 hg2 _
     have hx2:=(hx01.and_alloc (.cells #[.int .i64 (0)] 2)).grown hg2 (fun k hk=>by have:=hown1.block_le hk; simp; omega)
     rw [←HW0.out, ←HT.out] at ho2
     clear hown hown1 hg2
     go_wp2_with fail
     go_roundw
     case rel=>exact ⟨k+1,by omega,by go_num,ho2,hx2⟩
     case measure=>simp [intOf]; omega
    ·obtain ⟨mm,hmx,hmx1⟩:∃mm:Int,(if o.amount<0 then -o.amount else 0)=mm∧wt x o=mm:=⟨_,rfl,by unfold wt; rw [if_pos (by simpa using hnn),HG.out]; split <;> split <;> omega⟩
     have HW0:=hide hmx1
     clear hmx1
     have e1:IntKind.i64.wrap (-1*o.amount)= -1*o.amount:=IntWalk.i64_in _ (by omega)
     go_wp2_with fail
     refine wp_region_later (by kernel_rfl) (by kernel_rfl) ?_
     repeat (go_big_quiet_step (fail))
     refine wpQuiet_nil ?_
     intro w1 hx1
     have hown1:=hown.ext hx1
     have hx01:=hx.trans hx1
     have hz1:=hx01.size
     simp at hz1
     have j2':=(hx1.cell _ _ hbb).trans j2
     have hbb1:=Nat.lt_of_lt_of_le hbb hx1.size
     go_wp2_with (at_builtin; go_must (refine wpList_append_where rfl _ _ 24 rfl (w.heap.size+1) 2 _ 1 8 Tryz.underlying24 int_info rfl (by decide) intC intC_len int_one' _ (wts (os.take k) x) rfl (hown1.ext (Ext.alloc _ _)) (w1.heap.size) 0 1 1 [mm] rfl (new_int w1 w1.heap.size _ rfl) (by omega) (by omega) (by first | omega | (simp; omega)) ?_))
     intro v2 w2 ho2 hg2 _
     have hx2:=(hx01.and_alloc (.cells #[.int .i64 (mm)] 2)).grown hg2 (fun k hk=>by have:=hown1.block_le hk; simp; omega)
     rw [←HW0.out, ←HT.out] at ho2
     clear hown hown1 hg2
     go_wp2_with fail
     go_roundw
     case rel=>exact ⟨k+1,by omega,by go_num,ho2,hx2⟩
     case measure=>simp [intOf]; omega
   ·obtain rfl:n=k:=by omega
    have HT:=hide (show os.take n=os by rw [HL.out,List.take_length])
    rw [HT.out] at hown
    go_wp2_with fail
    go_ret
    exact ⟨_,_,rfl,hown.lowG (by omega),hide rfl,hX⟩
 ·have hgm:g=1:=by have:=HG.out; unfold sgn at this; rw [if_neg hneg] at this; omega
  subst hgm
  clear hg1
  go_enter Tryz.func196,Tryz.ntmps196
  go_wp2_with fail
  go_loopw [6,7] (fun u i wr=>∃k:Nat,k≤n∧i= .int .i64 k∧OwnL wr (w.heap.size+1) 2 1 intC u (wts (os.take k) x)∧Ext (w.alloc (.cells #[.int .i64 x.node,.int .i64 x.amount] 176)) wr) (fun _ i _=>n-(intOf i).toNat)
  case atStart=>exact ⟨0,Nat.zero_le _,rfl,own_new _ _ _ _ _ _ (by simp) (by omega),Ext.alloc _ _⟩
  case round=>
   obtain ⟨k,hk,rfl,hown,hx⟩:=hrel
   have hX:=(Ext.alloc w _).trans hx
   have hwz:=hx.size
   simp at hwz
   have x0:=(hB.ext hx).cell 0
   have x1:=(hB.ext hx).cell 1
   simp at x0 x1
   have xl:=(hB.ext hx).lt
   by_cases hlt:k<n
   ·obtain ⟨b,off,o,rfl,hbb,hok,hc⟩:=(hs.ext hX).get hlt
    have j1:=hc 1 _ rfl
    have j2:=hc 2 _ rfl
    have hab:=HA.out o (List.mem_of_getElem? hok)
    have HT:=hide (wts_take (x:=x) hok)
    have hwl:(wts (os.take k) x).length=k:=by unfold wts; rw [List.length_map,List.length_take, ←HL.out]; omega
    clear hc hok
    cases hnn:(o.node==x.node)
    ·have HW0:=hide (show wt x o=0 by unfold wt; rw [if_neg (by simpa using hnn)])
     go_wp2_with fail
     refine wp_region_later (by kernel_rfl) (by kernel_rfl) ?_
     repeat (go_big_quiet_step (fail))
     refine wpQuiet_nil ?_
     intro w1 hx1
     have hown1:=hown.ext hx1
     have hx01:=hx.trans hx1
     have hz1:=hx01.size
     simp at hz1
     go_wp2_with (at_builtin; go_must (refine wpList_append_where rfl _ _ 24 rfl (w.heap.size+1) 2 _ 1 8 Tryz.underlying24 int_info rfl (by decide) intC intC_len int_one' _ (wts (os.take k) x) rfl (hown1.ext (Ext.alloc _ _)) (w1.heap.size) 0 1 1 [0] rfl (new_int w1 w1.heap.size _ rfl) (by omega) (by omega) (by first | omega | (simp; omega)) ?_))
     intro v2 w2 ho2 hg2 _
     have hx2:=(hx01.and_alloc (.cells #[.int .i64 (0)] 2)).grown hg2 (fun k hk=>by have:=hown1.block_le hk; simp; omega)
     rw [←HW0.out, ←HT.out] at ho2
     clear hown hown1 hg2
     go_wp2_with fail
     go_roundw
     case rel=>exact ⟨k+1,by omega,by go_num,ho2,hx2⟩
     case measure=>simp [intOf]; omega
    ·obtain ⟨mm,hmx,hmx1⟩:∃mm:Int,(if 0<o.amount then o.amount else 0)=mm∧wt x o=mm:=⟨_,rfl,by unfold wt; rw [if_pos (by simpa using hnn),HG.out]; split <;> split <;> omega⟩
     have HW0:=hide hmx1
     clear hmx1
     have e1:IntKind.i64.wrap (1*o.amount)=1*o.amount:=IntWalk.i64_in _ (by omega)
     go_wp2_with fail
     refine wp_region_later (by kernel_rfl) (by kernel_rfl) ?_
     repeat (go_big_quiet_step (fail))
     refine wpQuiet_nil ?_
     intro w1 hx1
     have hown1:=hown.ext hx1
     have hx01:=hx.trans hx1
     have hz1:=hx01.size
     simp at hz1
     have j2':=(hx1.cell _ _ hbb).trans j2
     have hbb1:=Nat.lt_of_lt_of_le hbb hx1.size
     go_wp2_with (at_builtin; go_must (refine wpList_append_where rfl _ _ 24 rfl (w.heap.size+1) 2 _ 1 8 Tryz.underlying24 int_info rfl (by decide) intC intC_len int_one' _ (wts (os.take k) x) rfl (hown1.ext (Ext.alloc _ _)) (w1.heap.size) 0 1 1 [mm] rfl (new_int w1 w1.heap.size _ rfl) (by omega) (by omega) (by first | omega | (simp; omega)) ?_))
     intro v2 w2 ho2 hg2 _
     have hx2:=(hx01.and_alloc (.cells #[.int .i64 (mm)] 2)).grown hg2 (fun k hk=>by have:=hown1.block_le hk; simp; omega)
     rw [←HW0.out, ←HT.out] at ho2
     clear hown hown1 hg2
     go_wp2_with fail
     go_roundw
     case rel=>exact ⟨k+1,by omega,by go_num,ho2,hx2⟩
     case measure=>simp [intOf]; omega
   ·obtain rfl:n=k:=by omega
    have HT:=hide (show os.take n=os by rw [HL.out,List.take_length])
    rw [HT.out] at hown
    go_wp2_with fail
    go_ret
    exact ⟨_,_,rfl,hown.lowG (by omega),hide rfl,hX⟩
end Go.Proofs.YtfkpghdmljjegaaGreat
