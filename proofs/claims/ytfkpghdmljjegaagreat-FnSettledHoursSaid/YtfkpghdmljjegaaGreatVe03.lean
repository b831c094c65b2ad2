/-
  The rule for many orders, with operations that only pass values on: these are taken as soon as they may come up.
-/
import Derived.Test.YtfkpghdmljjegaaGreatVe02
import Derived.Test.YtfkpghdmljjegaaGreatVe01
import Derived.Test.YtfkpghdmljjegaaGreatProg
import Derived.Laws.IdiomStrings
import Derived.Laws.BytesString
import Derived.Test.YtfkpghdmljjegaaGreatVe00
namespace Go.Proofs.YtfkpghdmljjegaaGreat
open Go.RowKit
def stepsP (P:Program) (l:List Oper) (K:Nat→Value→World→Prop) (D:List (List Nat)) (bs:List (Nat×Nat)) (w0:World) (a0:Act):List Nat→Prop
 | []=>True
 | i::is=>(∀(ts:List Value) (w:World),ts.length=l.length→Ext w0 w→holdsL K ts w (nthD D i)→
   wpQuiet P l.toArray (GrowC bs w0) (fun a'=>∃v,a'=(putAll a0 l ts).put (nthO l i).dst v∧K i v w) [nthO l i] (putAll a0 l ts))∧stepsP P l K D bs w0 a0 is
theorem stepsP_at {P:Program} {l:List Oper} {K:Nat→Value→World→Prop} {D:List (List Nat)} {bs:List (Nat×Nat)} {w0:World} {a0:Act}:∀ {is:List Nat},stepsP P l K D bs w0 a0 is→∀i∈is,∀(ts:List Value) (w:World),ts.length=l.length→Ext w0 w→holdsL K ts w (nthD D i)→
   wpQuiet P l.toArray (GrowC bs w0) (fun a'=>∃v,a'=(putAll a0 l ts).put (nthO l i).dst v∧K i v w) [nthO l i] (putAll a0 l ts)
 | [],_,i,hi=>by cases hi
 | j::is,h,i,hi=>by
  rcases List.mem_cons.1 hi with rfl | hi
  ·exact h.1
  ·exact stepsP_at h.2 i hi
def okP (md:Region.Mode) (l:List Oper) (M:List Nat) (Ps:List Nat) (D:List (List Nat)) (tail:PhT):Bool:=
 sepD l&&(M++Ps).all (fun i=>decide (i<l.length)&&(bnd md l i).all (fun e=>decide (e<i)&&(M++Ps).contains e))
 &&(List.range l.length).all (fun i=>(nthD D i).all (fun d=>(bnd md l i).any (fun e=>e==d||(nthD D e).contains d))&&((M++Ps).contains i||M.all (fun m=>(nthD D i).contains m)))
 &&decide (M++Ps).Nodup&&decide ((M++Ps).length+tail.len=l.length)&&okT md l tail ((List.range l.length).map (fun i=>(M++Ps).contains i)).toArray
 &&Ps.all (fun i=>stillOp (nthO l i).op&&Region.free md l.toArray ((List.range l.length).map (fun j=>(nthD D i).contains j)).toArray i)
section
variable {P:Program} {md:Region.Mode} {l:List Oper} {Q:Exit→Act→World→Prop} {K:Nat→Value→World→Prop} {D:List (List Nat)} {M Ps:List Nat} {tail:PhT} {w0:World} {a0:Act} {bs:List (Nat×Nat)}
theorem wpAnyH_P (hs:Region.noSelect l.toArray=true) (hQ:∀c a w d v,Q (.panic c) (a.put d v) w→Q (.panic c) a w) (hok:okP md l M Ps D tail=true) (hK:∀i v w w',K i v w→Ext w w'→K i v w') (hst:stepsM P l Q K D w0 a0 M) (hsp:stepsP P l K D bs w0 a0 Ps) (hbs:∀q∈bs,q.1<w0.heap.size)
  (hend:∀(ts:List Value) (w:World),ts.length=l.length→Ext w0 w→holdsL K ts w (M++Ps)→wpPhT P l Q bs w0 tail (putAll a0 l ts) w):
  ∀(k:Nat) (listed:Array Bool) (a:Act) (w:World),((M++Ps).filter fun i=> !listed.getD i true).length=k→InvM l K D (M++Ps) w0 a0 listed a w→wpAnyH P md l.toArray Q (SameC bs w0) (k+tail.len) listed a w:=by
 have hok':=hok
 simp only [okP,Bool.and_eq_true,List.all_eq_true,List.any_eq_true,decide_eq_true_eq,beq_iff_eq,Bool.or_eq_true,List.contains_iff_mem,List.mem_range] at hok'
 obtain ⟨⟨⟨⟨⟨⟨o1,o2⟩,o3⟩,o4⟩,o5⟩,o6⟩,o7⟩:=hok'
 intro k
 induction k with
 | zero=>
  intro listed a w hk hI
  obtain ⟨ts,ht1,rfl,ht2⟩:=hI.val
  have hall:∀i∈M++Ps,listed.getD i false=true:=fun i hi=>by
   have h0:=List.length_eq_zero_iff.1 hk
   rw [List.filter_eq_nil_iff] at h0
   have:=h0 i hi
   rw [getD_true (by rw [hI.size]; exact (o2 i hi).1)] at this
   simpa using this
  have hl:listed=((List.range l.length).map (fun i=>(M++Ps).contains i)).toArray:=by
   apply Array.ext
   ·simp [hI.size]
   ·intro i h1 h2
    have e1:listed[i]=listed.getD i false:=by simp [Array.getD,h1]
    rw [e1]
    simp only [List.getElem_toArray,List.getElem_map,List.getElem_range]
    by_cases hm:i∈M++Ps
    ·rw [hall i hm]; exact (List.contains_iff_mem.2 hm).symm
    ·have:listed.getD i false=false:=by
      cases hb:listed.getD i false
      ·rfl
      ·exact absurd (hI.sub i hb) hm
     rw [this]
     cases hc:(M++Ps).contains i
     ·rfl
     ·exact absurd (List.contains_iff_mem.1 hc) hm
  have:=wpAnyC_phT (P:=P) (md:=md) (bs:=bs) (w0:=w0) hs hQ tail listed (putAll a0 l ts) w (SameC.of_ext hI.ext hbs) (by rw [hl]; exact o6) (hend ts w ht1 hI.ext (holdsL_of fun d hd=>ht2 d (hall d hd)))
  rw [Nat.zero_add]
  exact this
 | succ k ih=>
  intro listed a w hk hI
  have hmiss:∃m∈M++Ps,listed.getD m false=false:=by
   have:((M++Ps).filter fun i=> !listed.getD i true)≠[]:=fun h=>by rw [h] at hk; simp at hk
   obtain ⟨m,hm⟩:=List.exists_mem_of_ne_nil _ this
   rw [List.mem_filter] at hm
   refine ⟨m,hm.1,?_⟩
   have h:=hm.2
   rw [getD_true (by rw [hI.size]; exact (o2 m hm.1).1)] at h
   simpa using h
  have hmin:∃m∈M++Ps,listed.getD m false=false∧m∈Region.ready md l.toArray listed:=by
   obtain ⟨m,hm,hf⟩:=hmiss
   have go:∀(n m:Nat),m<n→m∈M++Ps→listed.getD m false=false→∃m∈M++Ps,listed.getD m false=false∧m∈Region.ready md l.toArray listed:=by
    intro n
    induction n with
    | zero=>intro m h; omega
    | succ n ihn=>
     intro m hmn hm hf
     by_cases hd:∀e∈bnd md l m,listed.getD e false=true
     ·exact ⟨m,hm,hf,(ready_iff (o2 m hm).1).2 ⟨by rw [getD_true (by rw [hI.size]; exact (o2 m hm).1)]; exact hf,hd⟩⟩
     ·simp only [Classical.not_forall] at hd
      obtain ⟨e,he,hne⟩:=hd
      have:=(o2 m hm).2 e he
      exact ihn e (by omega) this.2 (by simpa using hne)
   exact go (m+1) m (by omega) hm hf
  have hstep:∀(i:Nat) (a':Act) (w':World) (v:Value),i∈M++Ps→listed.getD i true=false→(∀d∈nthD D i,listed.getD d false=true)→(∀ts:List Value,a=putAll a0 l ts→(∀i,listed.getD i false=true→K i (nthV ts i) w)→ts.length=l.length→a'=(putAll a0 l ts).put (nthO l i).dst v)→K i v w'→Ext w w'→
    ((M++Ps).filter fun j=> !(listed.setIfInBounds i true).getD j true).length=k∧InvM l K D (M++Ps) w0 a0 (listed.setIfInBounds i true) a' w':=by
   intro i a' w' v hiM r1 hdl ha' hv hx
   obtain ⟨ts,ht1,hta,ht2⟩:=hI.val
   have hil:=(o2 i hiM).1
   have hsz:i<listed.size:=by rw [hI.size]; exact hil
   refine ⟨?_,⟨by simp [hI.size],?_,?_,⟨ts.set i v,by simp [ht1],by rw [ha' ts hta ht2 ht1]; exact putAll_put v l ts a0 i o1 hil ht1.symm,?_⟩,hI.ext.trans hx⟩⟩
   ·have:=filter_less (p:=fun j=> !listed.getD j true) (p':=fun j=> !(listed.setIfInBounds i true).getD j true) o4 hiM (by simpa using r1) (by simp [getD_set hsz]) (fun j hj=>by simp only [getD_set hsz,if_neg (Ne.symm hj)])
    omega
   ·intro j hj
    rw [getD_set hsz] at hj
    split at hj
    ·rename_i e; subst e; exact hiM
    ·exact hI.sub j hj
   ·intro j hj d hd
    rw [getD_set hsz] at hj ⊢
    split
    ·rfl
    ·split at hj
     ·rename_i e; subst e; exact hdl d hd
     ·exact hI.down j hj d hd
   ·intro j hj
    rw [getD_set hsz] at hj
    split at hj
    ·rename_i e; subst e; rw [nthV_set_same (by rw [ht1]; exact hil)]; exact hv
    ·rename_i e; rw [nthV_set_ne e]; exact hK _ _ _ _ (ht2 j hj) hx
  have hdeps:∀i,i<l.length→i∈Region.ready md l.toArray listed→listed.getD i true=false∧∀d∈nthD D i,listed.getD d false=true:=fun i hil hi=>by
   obtain ⟨r1,r2⟩:=(ready_iff hil).1 hi
   refine ⟨r1,fun d hd=> ?_⟩
   obtain ⟨e,he,h⟩:=(o3 i hil).1 d hd
   rcases h with h | h
   ·subst h; exact r2 e he
   ·exact hI.down e (r2 e he) d h
  rw [Nat.add_right_comm]
  by_cases hp:∃p∈Ps,p∈Region.ready md l.toArray listed
  ·obtain ⟨p,hpP,hpr⟩:=hp
   have hpM:p∈M++Ps:=List.mem_append.2 (.inr hpP)
   have hpl:=(o2 p hpM).1
   obtain ⟨r1,hdl⟩:=hdeps p hpl hpr
   obtain ⟨ts,ht1,rfl,ht2⟩:=hI.val
   have hq:=stepsP_at hsp p hpP ts w ht1 hI.ext (holdsL_of fun d hd=>ht2 d (hdl d hd))
   have hi:l.toArray[p]? =some (nthO l p):=by simpa using nthO_some hpl
   have hfree:∀j oj,l.toArray[j]? =some oj→j≠p→listed.getD j true=false→(∀e∈oj.after,Region.binds md e=true→e.on≠p)→(nthO l p).apart l.toArray oj=true:=fun j oj hj hne hun hno=>by
    refine Region.free_spec hi (o7 p hpP).2 j oj hj hne ?_ hno
    have hjl:j<l.length:=by simpa using (Array.getElem?_eq_some_iff.1 hj).1
    have hnot:(nthD D p).contains j=false:=by
     cases hc:(nthD D p).contains j
     ·rfl
     ·have h1:=hdl j (List.contains_iff_mem.1 hc)
      rw [getD_true (by rw [hI.size]; exact hjl),h1] at hun
      cases hun
    simp [Array.getD,hjl]
    simpa using hnot
   unfold wpQuiet at hq
   by_cases hw:Region.wanted (nthO l p) (yielded l.toArray (putAll a0 l ts).tmps)=true
   ·rw [if_pos hw] at hq
    obtain ⟨v,hv,hn⟩:=hq
    obtain ⟨v',hv1,hv2⟩:∃v',(putAll a0 l ts).put (nthO l p).dst v=(putAll a0 l ts).put (nthO l p).dst v'∧K p v' w:=hn
    obtain ⟨h1,h2⟩:=hstep p ((putAll a0 l ts).put (nthO l p).dst v) w v' hpM r1 hdl (fun ts' he _ _=>by rw [←he]; exact hv1) hv2 (Ext.refl w)
    exact wpAnyH_first hi (Region.noSelect_spec hs) (fun c a w=>hQ c a w _ _) (k+tail.len) listed _ w hfree hpr (yields_of_quietC (o7 p hpP).1 hw hv) (SameC.of_ext hI.ext hbs) (ih _ _ w h1 h2)
   ·rw [if_neg hw] at hq
    obtain ⟨v',hv1,hv2⟩:∃v',(putAll a0 l ts).put (nthO l p).dst undef=(putAll a0 l ts).put (nthO l p).dst v'∧K p v' w:=hq
    obtain ⟨h1,h2⟩:=hstep p ((putAll a0 l ts).put (nthO l p).dst undef) w v' hpM r1 hdl (fun ts' he _ _=>by rw [←he]; exact hv1) hv2 (Ext.refl w)
    exact wpAnyH_first hi (Region.noSelect_spec hs) (fun c a w=>hQ c a w _ _) (k+tail.len) listed _ w hfree hpr (.inr ⟨by simpa using hw,rfl⟩) (SameC.of_ext hI.ext hbs) (ih _ _ w h1 h2)
  ·refine ⟨fun h=> ?_,fun i hi=> ?_⟩
   ·obtain ⟨m,_,_,hmr⟩:=hmin
    rw [h] at hmr
    cases hmr
   ·have hil:i<l.length:=by
     obtain ⟨_,o,ho,_⟩:=mem_ready.1 hi
     simpa using (Array.getElem?_eq_some_iff.1 ho).1
    obtain ⟨r1,hdl⟩:=hdeps i hil hi
    have hiM:i∈M:=by
     rcases (o3 i hil).2 with h | h
     ·rcases List.mem_append.1 h with h | h
      ·exact h
      ·exact absurd ⟨i,h,hi⟩ hp
     ·obtain ⟨m,hm,hf,hmr⟩:=hmin
      rcases List.mem_append.1 hm with hm | hm
      ·rw [hdl m (h m hm)] at hf; cases hf
      ·exact absurd ⟨m,hm,hmr⟩ hp
    obtain ⟨ts,ht1,rfl,ht2⟩:=hI.val
    have hst1:=stepsM_at hst i hiM ts w ht1 hI.ext (holdsL_of fun d hd=>ht2 d (hdl d hd))
    refine wpOp_mono (fun a' w' h'=> ?_) (wpOp_one hil hst1)
    obtain ⟨hx,v,hav,hv⟩:=h'
    obtain ⟨h1,h2⟩:=hstep i a' w' v (List.mem_append.2 (.inl hiM)) r1 hdl (fun ts' he _ _=>by rw [←he]; exact hav) hv hx
    exact ⟨SameC.of_ext (hI.ext.trans hx) hbs,ih _ _ _ h1 h2⟩
theorem wp_region_KP {id:Nat} {a:Act} {w:World} (Ks:List (Value→World→Prop)) (M Ps:List Nat) (D:List (List Nat)) (bs:List (Nat×Nat)) (tail:PhT) (hm:P.follows .mixedOrders=true) (hc:(Region.noSelect l.toArray&&okP .any l M Ps D tail)=true) (hQ:∀c a w d v,Q (.panic c) (a.put d v) w→Q (.panic c) a w)
  (hbs:∀q∈bs,q.1<w.heap.size) (hK:stabL Ks) (hst:stepsM P l Q (nthK Ks) D w a M) (hsp:stepsP P l (nthK Ks) D bs w a Ps)
  (hend:∀(ts:List Value) (w':World),ts.length=l.length→Ext w w'→holdsL (nthK Ks) ts w' (M++Ps)→wpPhT P l Q bs w tail (putAll a l ts) w'):(Code.region id l.toArray true).wp P Q a w:=by
 simp only [Bool.and_eq_true] at hc
 have hok:=hc.2
 simp only [okP,Bool.and_eq_true,decide_eq_true_eq] at hok
 have hlen:=hok.1.1.2
 have hin:∀i∈M++Ps,i<l.length:=fun i hi=>by
  have:=hok.1.1.1.1.1.2
  rw [List.all_eq_true] at this
  have:=this i hi
  simp only [Bool.and_eq_true,decide_eq_true_eq] at this
  exact this.1
 refine wp_region_any hm (wpAny_of_held _ _ _ _ (S:=SameC bs w) ?_)
 have hf:((M++Ps).filter fun i=> !(Array.replicate l.length false).getD i true).length=(M++Ps).length:=by
  rw [List.filter_eq_self.2]
  intro i hi
  simp [Array.getD,hin i hi]
 have:=wpAnyH_P (P:=P) (md:= .any) (bs:=bs) hc.1 hQ hc.2 (fun i v w w' h hx=>stabL_at hK i v w w' h hx) hst hsp hbs hend (M++Ps).length (Array.replicate l.length false) a w.drew hf ⟨by simp,?_,?_,⟨l.map (ownV a),by simp,(putAll_own a l).symm,?_⟩,(Ext.refl w).drew⟩
 ·rw [hlen] at this
  simpa using this
 all_goals
  intro i hi
  have h1:=getD_lt hi
  simp at h1
  simp [Array.getD,h1] at hi
end
end Go.Proofs.YtfkpghdmljjegaaGreat
namespace Go.Proofs.YtfkpghdmljjegaaGreat
open Go.RowKit Go.Lib
def mkB (l:List UInt8):ByteArray:=⟨l.toArray⟩
theorem mkB_append (a b:List UInt8):mkB a++mkB b=mkB (a++b):=by
 apply ByteArray.ext
 simp [mkB,ByteArray.data_append]
theorem mkB_size (l:List UInt8):(mkB l).size=l.length:=rfl
theorem decDigits_len:∀(k u:Nat),u<k→(decDigits u).length≤u+1:=by
 intro k
 induction k with
 | zero=>intro u h; omega
 | succ k ih=>
  intro u hk
  rw [decDigits]
  split
  ·simp
  ·have:=ih (u/10) (by omega)
   rw [List.length_append]
   simp
   omega
def dig (r:Nat):UInt8:=UInt8.ofNat (48+r)
theorem dig_conv (W:World) (g m:Nat) (hm:m<10) (h:W.cell? ⟨g,0,none⟩=some (.int .u8 (48+(m:Int)))):(convert 22 9 (.slice (some ⟨g,0,none⟩) 1 1)).run Tryz.prog W= .ok (.string (mkB [dig m])) W:=by
 have h:=run_convert_bytes_back (P:=Tryz.prog) W 22 9 5 ⟨g,0,none⟩ 1 [UInt8.ofNat (48+m)] Tryz.underlying22 Tryz.underlying5 Tryz.underlying9 (fun j hj=>by
  obtain rfl:j=0:=by simp at hj; omega
  have:(Addr.add ⟨g,0,none⟩ 0)=⟨g,0,none⟩:=rfl
  rw [this,h]
  simp
  omega)
 exact h
def KB (c:Int):Value→World→Prop:=fun v w=>∃g,v= .slice (some ⟨g,0,none⟩) 1 1∧Row w g 5 [.int .u8 c]
theorem stKB (c:Int):stK (KB c):=fun _ _ _ ⟨g,h1,h2⟩ hx=>⟨g,h1,h2.ext hx⟩
set_option maxHeartbeats 2000000 in
set_option maxRecDepth 8000 in
theorem c_l01Dec (n:Nat) (hn:n≤4611686018427387904) (w:World):
  Calls Tryz.prog 314 #[.int .i64 n] w (Ret (.string (mkB (decDigits n))) w):=by
 induction n using Nat.strongRecOn generalizing w with
 | _ n ih=>
 by_cases h:n<10
 ·have e3:IntKind.i64.wrap (48+(n:Int))=48+(n:Int):=IntWalk.i64_in _ (by omega)
  have e4:IntKind.u8.wrap (48+(n:Int))=48+(n:Int):=by simp [IntKind.wrap,IntKind.signed,IntKind.bits]; omega
  have hcv:=dig_conv (w.alloc (.cells #[.int .u8 (48+(n:Int))] 5)) w.heap.size n h (by simp [World.cell?_alloc_mark])
  have HD:=hide (show decDigits n=[dig n] from decDigits_one h)
  go_enter Tryz.func314,Tryz.ntmps314
  go_wp2_with fail
  go_ret
  exact Ret.of (by rw [HD.out]; rfl) (Ext.alloc _ _)
 ·have HD:=hide (show decDigits n=decDigits (n/10)++[dig (n % 10)] by rw [decDigits,dif_neg h]; rfl)
  have hl:=decDigits_len (n/10+1) (n/10) (Nat.lt_succ_self _)
  have hsz:¬9223372036854775807<(mkB (decDigits (n/10))).size+(mkB [dig (n % 10)]).size:=by rw [mkB_size,mkB_size]; simp; omega
  have e1:(n:Int).tmod 10=((n % 10:Nat):Int):=by rw [Int.tmod_eq_emod_of_nonneg (by omega)]; omega
  have e2:(n:Int).tdiv 10=((n/10:Nat):Int):=by rw [Int.tdiv_eq_ediv_of_nonneg (by omega)]; omega
  have e3:IntKind.i64.wrap (48+((n % 10:Nat):Int))=48+((n % 10:Nat):Int):=IntWalk.i64_in _ (by omega)
  have e4:IntKind.u8.wrap (48+((n % 10:Nat):Int))=48+((n % 10:Nat):Int):=by simp [IntKind.wrap,IntKind.signed,IntKind.bits]; omega
  generalize hq:n/10=q at *
  generalize hr:n % 10=r at *
  have hr10:r<10:=by omega
  go_enter Tryz.func314,Tryz.ntmps314
  go_wp2_with fail
  refine wp_region_K [KC (.int .i64 n),KC (.int .i64 q),KC (.string (mkB (decDigits q))),KC (.int .i64 n),KC (.int .i64 r),KC (.int .i64 (48+(r:Int))),KC (.int .u8 (48+(r:Int))),KB (48+(r:Int)),KC (.string (mkB [dig r])),KC (.string (mkB (decDigits n)))]
   [0,1,2,3,4,5,6,7,8,9] [[],[0],[0,1],[],[3],[3,4],[3,4,5],[3,4,5,6],[3,4,5,6,7],[0,1,2,3,4,5,6,7,8],[0,1,2,3,4,5,6,7,8,9]] [] (.last [10]) (by kernel_rfl) (by kernel_rfl) (by intro c a w d v h; cases d <;> exact h) (by simp) ⟨stKC _,stKC _,stKC _,stKC _,stKC _,stKC _,stKC _,stKB _,stKC _,stKC _,trivial⟩ ?_ ?_
  ·refine ⟨?_,?_,?_,?_,?_,?_,?_,?_,?_,?_,trivial⟩
   ·intro ts wx hts hX hd
    obtain ⟨t0,ts0,rfl,hts0⟩:=vcons hts
    obtain ⟨t1,ts1,rfl,hts1⟩:=vcons hts0
    obtain ⟨t2,ts2,rfl,hts2⟩:=vcons hts1
    obtain ⟨t3,ts3,rfl,hts3⟩:=vcons hts2
    obtain ⟨t4,ts4,rfl,hts4⟩:=vcons hts3
    obtain ⟨t5,ts5,rfl,hts5⟩:=vcons hts4
    obtain ⟨t6,ts6,rfl,hts6⟩:=vcons hts5
    obtain ⟨t7,ts7,rfl,hts7⟩:=vcons hts6
    obtain ⟨t8,ts8,rfl,hts8⟩:=vcons hts7
    obtain ⟨t9,ts9,rfl,hts9⟩:=vcons hts8
    obtain ⟨t10,ts10,rfl,hts10⟩:=vcons hts9
    obtain rfl:=vnil hts10
    clear hts hts0 hts1 hts2 hts3 hts4 hts5 hts6 hts7 hts8 hts9 hts10
    simp only [putAll,nthO,Act.put,List.setIfInBounds_toArray,List.set_cons_succ,List.set_cons_zero]
    go_wp2_with fail
    exact ⟨Ext.refl _,_,rfl,rfl⟩
   ·intro ts wx hts hX hd
    obtain ⟨t0,ts0,rfl,hts0⟩:=vcons hts
    obtain ⟨t1,ts1,rfl,hts1⟩:=vcons hts0
    obtain ⟨t2,ts2,rfl,hts2⟩:=vcons hts1
    obtain ⟨t3,ts3,rfl,hts3⟩:=vcons hts2
    obtain ⟨t4,ts4,rfl,hts4⟩:=vcons hts3
    obtain ⟨t5,ts5,rfl,hts5⟩:=vcons hts4
    obtain ⟨t6,ts6,rfl,hts6⟩:=vcons hts5
    obtain ⟨t7,ts7,rfl,hts7⟩:=vcons hts6
    obtain ⟨t8,ts8,rfl,hts8⟩:=vcons hts7
    obtain ⟨t9,ts9,rfl,hts9⟩:=vcons hts8
    obtain ⟨t10,ts10,rfl,hts10⟩:=vcons hts9
    obtain rfl:=vnil hts10
    clear hts hts0 hts1 hts2 hts3 hts4 hts5 hts6 hts7 hts8 hts9 hts10
    simp only [putAll,nthO,Act.put,List.setIfInBounds_toArray,List.set_cons_succ,List.set_cons_zero]
    obtain ⟨rfl,_⟩:=hd
    go_wp2_with fail
    exact ⟨Ext.refl _,_,rfl,rfl⟩
   ·intro ts wx hts hX hd
    obtain ⟨t0,ts0,rfl,hts0⟩:=vcons hts
    obtain ⟨t1,ts1,rfl,hts1⟩:=vcons hts0
    obtain ⟨t2,ts2,rfl,hts2⟩:=vcons hts1
    obtain ⟨t3,ts3,rfl,hts3⟩:=vcons hts2
    obtain ⟨t4,ts4,rfl,hts4⟩:=vcons hts3
    obtain ⟨t5,ts5,rfl,hts5⟩:=vcons hts4
    obtain ⟨t6,ts6,rfl,hts6⟩:=vcons hts5
    obtain ⟨t7,ts7,rfl,hts7⟩:=vcons hts6
    obtain ⟨t8,ts8,rfl,hts8⟩:=vcons hts7
    obtain ⟨t9,ts9,rfl,hts9⟩:=vcons hts8
    obtain ⟨t10,ts10,rfl,hts10⟩:=vcons hts9
    obtain rfl:=vnil hts10
    clear hts hts0 hts1 hts2 hts3 hts4 hts5 hts6 hts7 hts8 hts9 hts10
    simp only [putAll,nthO,Act.put,List.setIfInBounds_toArray,List.set_cons_succ,List.set_cons_zero]
    obtain ⟨_,rfl,_⟩:=hd
    go_wp2_with fail
    refine (ih q (by omega) (by omega) _).mono ?_
    rintro e w2 ⟨rfl,hx2⟩
    go_wp2_with fail
    exact ⟨hx2,_,rfl,rfl⟩
   ·intro ts wx hts hX hd
    obtain ⟨t0,ts0,rfl,hts0⟩:=vcons hts
    obtain ⟨t1,ts1,rfl,hts1⟩:=vcons hts0
    obtain ⟨t2,ts2,rfl,hts2⟩:=vcons hts1
    obtain ⟨t3,ts3,rfl,hts3⟩:=vcons hts2
    obtain ⟨t4,ts4,rfl,hts4⟩:=vcons hts3
    obtain ⟨t5,ts5,rfl,hts5⟩:=vcons hts4
    obtain ⟨t6,ts6,rfl,hts6⟩:=vcons hts5
    obtain ⟨t7,ts7,rfl,hts7⟩:=vcons hts6
    obtain ⟨t8,ts8,rfl,hts8⟩:=vcons hts7
    obtain ⟨t9,ts9,rfl,hts9⟩:=vcons hts8
    obtain ⟨t10,ts10,rfl,hts10⟩:=vcons hts9
    obtain rfl:=vnil hts10
    clear hts hts0 hts1 hts2 hts3 hts4 hts5 hts6 hts7 hts8 hts9 hts10
    simp only [putAll,nthO,Act.put,List.setIfInBounds_toArray,List.set_cons_succ,List.set_cons_zero]
    go_wp2_with fail
    exact ⟨Ext.refl _,_,rfl,rfl⟩
   ·intro ts wx hts hX hd
    obtain ⟨t0,ts0,rfl,hts0⟩:=vcons hts
    obtain ⟨t1,ts1,rfl,hts1⟩:=vcons hts0
    obtain ⟨t2,ts2,rfl,hts2⟩:=vcons hts1
    obtain ⟨t3,ts3,rfl,hts3⟩:=vcons hts2
    obtain ⟨t4,ts4,rfl,hts4⟩:=vcons hts3
    obtain ⟨t5,ts5,rfl,hts5⟩:=vcons hts4
    obtain ⟨t6,ts6,rfl,hts6⟩:=vcons hts5
    obtain ⟨t7,ts7,rfl,hts7⟩:=vcons hts6
    obtain ⟨t8,ts8,rfl,hts8⟩:=vcons hts7
    obtain ⟨t9,ts9,rfl,hts9⟩:=vcons hts8
    obtain ⟨t10,ts10,rfl,hts10⟩:=vcons hts9
    obtain rfl:=vnil hts10
    clear hts hts0 hts1 hts2 hts3 hts4 hts5 hts6 hts7 hts8 hts9 hts10
    simp only [putAll,nthO,Act.put,List.setIfInBounds_toArray,List.set_cons_succ,List.set_cons_zero]
    obtain ⟨rfl,_⟩:=hd
    go_wp2_with fail
    exact ⟨Ext.refl _,_,rfl,rfl⟩
   ·intro ts wx hts hX hd
    obtain ⟨t0,ts0,rfl,hts0⟩:=vcons hts
    obtain ⟨t1,ts1,rfl,hts1⟩:=vcons hts0
    obtain ⟨t2,ts2,rfl,hts2⟩:=vcons hts1
    obtain ⟨t3,ts3,rfl,hts3⟩:=vcons hts2
    obtain ⟨t4,ts4,rfl,hts4⟩:=vcons hts3
    obtain ⟨t5,ts5,rfl,hts5⟩:=vcons hts4
    obtain ⟨t6,ts6,rfl,hts6⟩:=vcons hts5
    obtain ⟨t7,ts7,rfl,hts7⟩:=vcons hts6
    obtain ⟨t8,ts8,rfl,hts8⟩:=vcons hts7
    obtain ⟨t9,ts9,rfl,hts9⟩:=vcons hts8
    obtain ⟨t10,ts10,rfl,hts10⟩:=vcons hts9
    obtain rfl:=vnil hts10
    clear hts hts0 hts1 hts2 hts3 hts4 hts5 hts6 hts7 hts8 hts9 hts10
    simp only [putAll,nthO,Act.put,List.setIfInBounds_toArray,List.set_cons_succ,List.set_cons_zero]
    obtain ⟨_,rfl,_⟩:=hd
    go_wp2_with fail
    exact ⟨Ext.refl _,_,rfl,rfl⟩
   ·intro ts wx hts hX hd
    obtain ⟨t0,ts0,rfl,hts0⟩:=vcons hts
    obtain ⟨t1,ts1,rfl,hts1⟩:=vcons hts0
    obtain ⟨t2,ts2,rfl,hts2⟩:=vcons hts1
    obtain ⟨t3,ts3,rfl,hts3⟩:=vcons hts2
    obtain ⟨t4,ts4,rfl,hts4⟩:=vcons hts3
    obtain ⟨t5,ts5,rfl,hts5⟩:=vcons hts4
    obtain ⟨t6,ts6,rfl,hts6⟩:=vcons hts5
    obtain ⟨t7,ts7,rfl,hts7⟩:=vcons hts6
    obtain ⟨t8,ts8,rfl,hts8⟩:=vcons hts7
    obtain ⟨t9,ts9,rfl,hts9⟩:=vcons hts8
    obtain ⟨t10,ts10,rfl,hts10⟩:=vcons hts9
    obtain rfl:=vnil hts10
    clear hts hts0 hts1 hts2 hts3 hts4 hts5 hts6 hts7 hts8 hts9 hts10
    simp only [putAll,nthO,Act.put,List.setIfInBounds_toArray,List.set_cons_succ,List.set_cons_zero]
    obtain ⟨_,_,rfl,_⟩:=hd
    go_wp2_with fail
    exact ⟨Ext.refl _,_,rfl,rfl⟩
   ·intro ts wx hts hX hd
    obtain ⟨t0,ts0,rfl,hts0⟩:=vcons hts
    obtain ⟨t1,ts1,rfl,hts1⟩:=vcons hts0
    obtain ⟨t2,ts2,rfl,hts2⟩:=vcons hts1
    obtain ⟨t3,ts3,rfl,hts3⟩:=vcons hts2
    obtain ⟨t4,ts4,rfl,hts4⟩:=vcons hts3
    obtain ⟨t5,ts5,rfl,hts5⟩:=vcons hts4
    obtain ⟨t6,ts6,rfl,hts6⟩:=vcons hts5
    obtain ⟨t7,ts7,rfl,hts7⟩:=vcons hts6
    obtain ⟨t8,ts8,rfl,hts8⟩:=vcons hts7
    obtain ⟨t9,ts9,rfl,hts9⟩:=vcons hts8
    obtain ⟨t10,ts10,rfl,hts10⟩:=vcons hts9
    obtain rfl:=vnil hts10
    clear hts hts0 hts1 hts2 hts3 hts4 hts5 hts6 hts7 hts8 hts9 hts10
    simp only [putAll,nthO,Act.put,List.setIfInBounds_toArray,List.set_cons_succ,List.set_cons_zero]
    obtain ⟨_,_,_,rfl,_⟩:=hd
    go_wp2_with fail
    exact ⟨Ext.alloc _ _,_,rfl,⟨_,rfl,Row.new _ _ _⟩⟩
   ·intro ts wx hts hX hd
    obtain ⟨t0,ts0,rfl,hts0⟩:=vcons hts
    obtain ⟨t1,ts1,rfl,hts1⟩:=vcons hts0
    obtain ⟨t2,ts2,rfl,hts2⟩:=vcons hts1
    obtain ⟨t3,ts3,rfl,hts3⟩:=vcons hts2
    obtain ⟨t4,ts4,rfl,hts4⟩:=vcons hts3
    obtain ⟨t5,ts5,rfl,hts5⟩:=vcons hts4
    obtain ⟨t6,ts6,rfl,hts6⟩:=vcons hts5
    obtain ⟨t7,ts7,rfl,hts7⟩:=vcons hts6
    obtain ⟨t8,ts8,rfl,hts8⟩:=vcons hts7
    obtain ⟨t9,ts9,rfl,hts9⟩:=vcons hts8
    obtain ⟨t10,ts10,rfl,hts10⟩:=vcons hts9
    obtain rfl:=vnil hts10
    clear hts hts0 hts1 hts2 hts3 hts4 hts5 hts6 hts7 hts8 hts9 hts10
    simp only [putAll,nthO,Act.put,List.setIfInBounds_toArray,List.set_cons_succ,List.set_cons_zero]
    obtain ⟨_,_,_,_,⟨g,rfl,hg⟩,_⟩:=hd
    have hcv:=dig_conv wx g r hr10 (by have:=hg.cell 0; simpa using this)
    go_wp2_with fail
    exact ⟨Ext.refl _,_,rfl,rfl⟩
   ·intro ts wx hts hX hd
    obtain ⟨t0,ts0,rfl,hts0⟩:=vcons hts
    obtain ⟨t1,ts1,rfl,hts1⟩:=vcons hts0
    obtain ⟨t2,ts2,rfl,hts2⟩:=vcons hts1
    obtain ⟨t3,ts3,rfl,hts3⟩:=vcons hts2
    obtain ⟨t4,ts4,rfl,hts4⟩:=vcons hts3
    obtain ⟨t5,ts5,rfl,hts5⟩:=vcons hts4
    obtain ⟨t6,ts6,rfl,hts6⟩:=vcons hts5
    obtain ⟨t7,ts7,rfl,hts7⟩:=vcons hts6
    obtain ⟨t8,ts8,rfl,hts8⟩:=vcons hts7
    obtain ⟨t9,ts9,rfl,hts9⟩:=vcons hts8
    obtain ⟨t10,ts10,rfl,hts10⟩:=vcons hts9
    obtain rfl:=vnil hts10
    clear hts hts0 hts1 hts2 hts3 hts4 hts5 hts6 hts7 hts8 hts9 hts10
    simp only [putAll,nthO,Act.put,List.setIfInBounds_toArray,List.set_cons_succ,List.set_cons_zero]
    obtain ⟨_,_,rfl,_,_,_,_,_,rfl,_⟩:=hd
    go_wp2_with fail
    exact ⟨Ext.refl _,_,rfl,by rw [mkB_append,HD.out]; rfl⟩
  ·intro ts wx hts hX hd
   obtain ⟨t0,ts0,rfl,hts0⟩:=vcons hts
   obtain ⟨t1,ts1,rfl,hts1⟩:=vcons hts0
   obtain ⟨t2,ts2,rfl,hts2⟩:=vcons hts1
   obtain ⟨t3,ts3,rfl,hts3⟩:=vcons hts2
   obtain ⟨t4,ts4,rfl,hts4⟩:=vcons hts3
   obtain ⟨t5,ts5,rfl,hts5⟩:=vcons hts4
   obtain ⟨t6,ts6,rfl,hts6⟩:=vcons hts5
   obtain ⟨t7,ts7,rfl,hts7⟩:=vcons hts6
   obtain ⟨t8,ts8,rfl,hts8⟩:=vcons hts7
   obtain ⟨t9,ts9,rfl,hts9⟩:=vcons hts8
   obtain ⟨t10,ts10,rfl,hts10⟩:=vcons hts9
   obtain rfl:=vnil hts10
   clear hts hts0 hts1 hts2 hts3 hts4 hts5 hts6 hts7 hts8 hts9 hts10
   simp only [putAll,Act.put,List.setIfInBounds_toArray,List.set_cons_succ,List.set_cons_zero]
   obtain ⟨-,-,-,-,-,-,-,-,-,rfl,-⟩:=hd
   simp only [wpPhT,pickL,nthO]
   repeat (go_big_quiet_step (fail))
   refine wpQuiet_nil ?_
   go_wp2_with fail
   go_ret
   exact Ret.of rfl hX
end Go.Proofs.YtfkpghdmljjegaaGreat
namespace Go.Proofs.YtfkpghdmljjegaaGreat
open Go.RowKit
def intC (z:Int):List Value:=[.int .i64 z]
theorem intC_len (z:Int):(intC z).length=1:=rfl
theorem int_info:(Tryz.prog.info? 2).map (fun i=>(i.zero,i.size,i.bytes))=some (some (.int .i64 0),1,8):=by kernel_rfl
section
variable {w:World} {A:Option Addr} {n c:Nat} {xs:List Int}
theorem SliceOf.get1 (h:SliceOf w 1 intC A n c xs) {k:Nat} (hk:k<n):
  ∃b off x,A=some ⟨b,off,none⟩∧b<w.heap.size∧xs[k]? =some x∧w.cell? ⟨b,off+k,none⟩=some (.int .i64 x):=by
 obtain ⟨b,off,x,hA,hb,hx,hc⟩:=h.get hk
 exact ⟨b,off,x,hA,hb,hx,by simpa using hc 0 _ rfl⟩
end
theorem RowOf.set1 {w:World} {g:Nat} {t:TypeId} {L:List Int} (h:RowOf w g t intC L) {d:Nat} (hd:d<L.length) (v:Int):RowOf (w.setCell ⟨g,d,none⟩ (.int .i64 v)) g t intC (L.set d v):=by
 have:=h.put intC_len (i:=d) hd v
 rw [Nat.mul_one] at this
 exact this
def allB (zs:List Int) (lo hi:Int):Bool:=zs.all fun z=>inB z lo hi
theorem all_take_false {zs:List Int} {k:Nat} {z lo hi:Int} (hz:zs[k]? =some z) (h:inB z lo hi=false):allB zs lo hi=false:=by
 rw [allB,List.all_eq_false]; exact ⟨z,List.mem_of_getElem? hz,by simp [h]⟩
theorem all_take_true {zs:List Int} {lo hi:Int} (h:∀(j:Nat) (z:Int),zs[j]? =some z→inB z lo hi=true):allB zs lo hi=true:=by
 rw [allB,List.all_eq_true]; intro z hz
 obtain ⟨j,hj,rfl⟩:=List.mem_iff_getElem.1 hz
 exact h j _ (List.getElem?_eq_getElem hj)
theorem c_allWithin (A:Option Addr) (n c:Nat) (zs:List Int) (lo hi:Int) (w:World) (hs:SliceOf w 1 intC A n c zs):
  Calls Tryz.prog 90 #[.slice A n c,.int .i64 lo,.int .i64 hi] w fun e w'=>e= .returned (.bool (allB zs lo hi))∧w=w':=by
 have hm:=hs.max
 have hcap:=hs.cap
 go_enter Tryz.func90,Tryz.ntmps90
 go_wp2_with fail
 go_loop [6,11] (fun r i=>∃k:Nat,k≤n∧r= .bool false∧i= .int .i64 k∧Hid (∀(j:Nat) (z:Int),j<k→zs[j]? =some z→inB z lo hi=true)) (fun _ i=>n-(intOf i).toNat)
 case atStart=>exact ⟨0,Nat.zero_le _,rfl,rfl,hide (fun j z hj=>absurd hj (by omega))⟩
 case round=>
  obtain ⟨k,hk,rfl,rfl,HK⟩:=hrel
  by_cases hlt:k<n
  ·obtain ⟨b,off,x,rfl,hb,hxk,hc0⟩:=hs.get1 hlt
   have HX:=hide hxk
   clear hxk
   cases hi0:inB x lo hi
   ·go_wp2_with (go_at_call 164; refine (c_within _ _ _ _).mono ?_; rintro e w' ⟨rfl,rfl⟩)
    go_ret
    exact ⟨by rw [all_take_false HX.out hi0]; rfl,rfl⟩
   ·go_wp2_with (go_at_call 164; refine (c_within _ _ _ _).mono ?_; rintro e w' ⟨rfl,rfl⟩)
    go_round
    case rel=>
     refine ⟨k+1,by omega,rfl,by go_num,hide fun j z hj hz=> ?_⟩
     by_cases e:j=k
     ·subst e; rw [HX.out] at hz; injection hz with hz; subst hz; exact hi0
     ·exact HK.out j z (by omega) hz
    case measure=>simp [intOf]; omega
  ·go_wp2_with fail
   go_ret
   refine ⟨?_,rfl⟩
   rw [all_take_true (fun j z hz=>HK.out j z (by have:=(List.getElem?_eq_some_iff.1 hz).1; have:=hs.len; omega) hz)]; rfl
end Go.Proofs.YtfkpghdmljjegaaGreat
namespace Go.Proofs.YtfkpghdmljjegaaGreat
open Go.RowKit
structure Pipe where
 src:Int
 dst:Int
 k:Int
 volume:Int
 limit:Int
def Pipe.cells (x:Pipe):List Value:=[.int .i64 x.src,.int .i64 x.dst,.int .i64 x.k,.int .i64 x.volume,.int .i64 x.limit]
theorem pipe_len (x:Pipe):x.cells.length=5:=rfl
theorem pipe_info:(Tryz.prog.info? 181).map (fun i=>(i.zero,i.size,i.bytes))=some (some (.agg #[.int .i64 0,.int .i64 0,.int .i64 0,.int .i64 0,.int .i64 0]),5,40):=by kernel_rfl
def markPipe (a:Int) (n:Nat):List Pipe:=(List.range n).map fun (i:Nat)=>⟨a+5*(i:Int),a+5*(i:Int)+1,a+5*(i:Int)+2,a+5*(i:Int)+3,a+5*(i:Int)+4⟩
end Go.Proofs.YtfkpghdmljjegaaGreat
namespace Go.Proofs.YtfkpghdmljjegaaGreat
open Go.RowKit
structure Node where
 name:ByteArray
 low:Int
 high:Int
def Node.cells (x:Node):List Value:=[.string x.name,.int .i64 x.low,.int .i64 x.high]
theorem node_len (x:Node):x.cells.length=3:=rfl
def chB (z:Int):Bool:=(decide (97≤z)&&decide (z≤122))||(decide (48≤z)&&decide (z≤57))
def chAt (s:ByteArray) (i:Nat):Int:=if h:i<s.size then ((s[i]'h).toNat:Int) else 0
theorem chAt_eq {s:ByteArray} {i:Nat} (h:i<s.size):((s[i]'h).toNat:Int)=chAt s i:=by rw [chAt,dif_pos h]
def nameB (s:ByteArray):Bool:=decide (1≤s.size)&&decide (s.size≤8)&&(List.range s.size).all fun i=>chB (chAt s i)
def sameN (a b:ByteArray):Bool:=a.toList==b.toList
def nodeB (x:Node):Bool:=nameB x.name&&decide (0≤x.low)&&decide (x.low≤x.high)&&decide (x.high≤100000000)
def pipeB (nn:Int) (p:Pipe):Bool:=inB p.src 0 (nn-1)&&inB p.dst 0 (nn-1)&&(p.src != p.dst)&&inB p.k 1 1000&&inB p.volume 0 1000000&&inB p.limit 1 30000
theorem ch_ways (z:Int):(97≤z∧z≤122∧decide (97≤z)=true∧decide (z≤122)=true∧Hid (chB z=true))∨(97≤z∧122<z∧48≤z∧57<z∧decide (97≤z)=true∧decide (z≤122)=false∧decide (48≤z)=true∧decide (z≤57)=false∧Hid (chB z=false))∨
  (z<97∧48≤z∧z≤57∧decide (97≤z)=false∧decide (48≤z)=true∧decide (z≤57)=true∧Hid (chB z=true))∨(z<97∧48≤z∧57<z∧decide (97≤z)=false∧decide (48≤z)=true∧decide (z≤57)=false∧Hid (chB z=false))∨
  (z<97∧z<48∧decide (97≤z)=false∧decide (48≤z)=false∧Hid (chB z=false)):=by
 simp only [Hid,chB,Bool.or_eq_true,Bool.and_eq_true,Bool.or_eq_false_iff,Bool.and_eq_false_iff,decide_eq_true_eq,decide_eq_false_iff_not]
 omega
theorem name_false {s:ByteArray} {k:Nat} (hk:k<s.size) (h:chB (chAt s k)=false):nameB s=false:=by
 simp only [nameB]; rw [all_range_false hk h]; simp
theorem name_true {s:ByteArray} (h1:1≤s.size) (h8:s.size≤8) (h:∀j,j<s.size→chB (chAt s j)=true):nameB s=true:=by
 simp only [nameB]; rw [all_range_true h]; simp [h1,h8]
theorem name_end {s:ByteArray} (h1:1≤s.size) (h:∀j,j<s.size→chB (chAt s j)=true):nameB s=decide ((s.size:Int)≤8):=by
 simp only [nameB]; rw [all_range_true h]; simp [h1]; omega
set_option maxHeartbeats 1000000 in
theorem c_isName (s:ByteArray) (w:World):
  Calls Tryz.prog 237 #[.string s] w fun e w'=>e= .returned (.bool (nameB s))∧w=w':=by
 by_cases h1:s.size<1
 ·have HR:=hide (show nameB s=false by simp [nameB]; omega)
  go_enter Tryz.func237,Tryz.ntmps237
  go_wp2_with fail
  go_ret
  exact ⟨by rw [HR.out]; rfl,rfl⟩
 by_cases h8:8<s.size
 ·have HR:=hide (show nameB s=false by simp [nameB]; omega)
  go_enter Tryz.func237,Tryz.ntmps237
  go_wp2_with fail
  go_ret
  exact ⟨by rw [HR.out]; rfl,rfl⟩
 go_enter Tryz.func237,Tryz.ntmps237
 go_wp2_with fail
 go_loop [3] (fun i=>∃k:Nat,k≤s.size∧i= .int .i64 k∧Hid (∀j,j<k→chB (chAt s j)=true)) (fun i=>s.size-(intOf i).toNat)
 case atStart=>exact ⟨0,Nat.zero_le _,rfl,hide (fun j hj=>absurd hj (by omega))⟩
 case round=>
  obtain ⟨k,hk,rfl,HK⟩:=hrel
  by_cases hlt:k<s.size
  ·have hch:=chAt_eq hlt
   have HF:=hide (fun h=>name_false hlt h)
   have HNX:chB (chAt s k)=true→Hid (∀j,j<k+1→chB (chAt s j)=true):=fun h=>hide (all_upto (p:=fun j=>chB (chAt s j)) HK.out h)
   generalize chAt s k=z at hch HF HNX
   rcases ch_ways z with ⟨z1,z2,d1,d2,HC⟩ | ⟨z1,z2,z3,z4,d1,d2,d3,d4,HC⟩ | ⟨z1,z2,z3,d1,d2,d3,HC⟩ | ⟨z1,z2,z3,d1,d2,d3,HC⟩ | ⟨z1,z2,d1,d2,HC⟩
   ·go_wp2_with fail
    go_round
    case rel=>exact ⟨k+1,by omega,by go_num,HNX HC⟩
    case measure=>simp [intOf]; omega
   ·go_wp2_with fail
    go_ret
    exact ⟨by rw [HF.out HC]; rfl,rfl⟩
   ·go_wp2_with fail
    go_round
    case rel=>exact ⟨k+1,by omega,by go_num,HNX HC⟩
    case measure=>simp [intOf]; omega
   ·go_wp2_with fail
    go_ret
    exact ⟨by rw [HF.out HC]; rfl,rfl⟩
   ·go_wp2_with fail
    go_ret
    exact ⟨by rw [HF.out HC]; rfl,rfl⟩
  ·go_wp2_with fail
   go_ret
   exact ⟨by rw [name_true (by omega) (by omega) (fun j hj=>HK.out j (by omega))]; rfl,rfl⟩
set_option maxHeartbeats 1000000 in
theorem c_l02Name (s:ByteArray) (w:World) (hs:s.size≤1048576):
  Calls Tryz.prog 255 #[.string s] w fun e w'=>e= .returned (.bool (nameB s))∧w=w':=by
 go_enter Tryz.func255,Tryz.ntmps255
 go_wp2_with fail
 go_loop [3] (fun i=>∃k:Nat,k≤s.size∧i= .int .i64 k∧Hid (∀j,j<k→chB (chAt s j)=true)) (fun i=>s.size-(intOf i).toNat)
 case atStart=>exact ⟨0,Nat.zero_le _,rfl,hide (fun j hj=>absurd hj (by omega))⟩
 case round=>
  obtain ⟨k,hk,rfl,HK⟩:=hrel
  by_cases hlt:k<s.size
  ·have hch:=chAt_eq hlt
   have HF:=hide (fun h=>name_false hlt h)
   have HNX:chB (chAt s k)=true→Hid (∀j,j<k+1→chB (chAt s j)=true):=fun h=>hide (all_upto (p:=fun j=>chB (chAt s j)) HK.out h)
   generalize chAt s k=z at hch HF HNX
   rcases ch_ways z with ⟨z1,z2,d1,d2,HC⟩ | ⟨z1,z2,z3,z4,d1,d2,d3,d4,HC⟩ | ⟨z1,z2,z3,d1,d2,d3,HC⟩ | ⟨z1,z2,z3,d1,d2,d3,HC⟩ | ⟨z1,z2,d1,d2,HC⟩
   ·go_wp2_with fail
    go_round
    case rel=>exact ⟨k+1,by omega,by go_num,HNX HC⟩
    case measure=>simp [intOf]; omega
   ·go_wp2_with fail
    go_ret
    exact ⟨by rw [HF.out HC]; rfl,rfl⟩
   ·go_wp2_with fail
    go_round
    case rel=>exact ⟨k+1,by omega,by go_num,HNX HC⟩
    case measure=>simp [intOf]; omega
   ·go_wp2_with fail
    go_ret
    exact ⟨by rw [HF.out HC]; rfl,rfl⟩
   ·go_wp2_with fail
    go_ret
    exact ⟨by rw [HF.out HC]; rfl,rfl⟩
  ·by_cases h1:s.size<1
   ·have HR:=hide (show nameB s=false by simp [nameB]; omega)
    go_wp2_with fail
    go_ret
    exact ⟨by rw [HR.out]; rfl,rfl⟩
   go_wp2_with fail
   go_ret
   exact ⟨by rw [name_end (by omega) (fun j hj=>HK.out j (by omega))]; rfl,rfl⟩
theorem node_ways (x:Node):(nameB x.name=false∧Hid (nodeB x=false))∨(nameB x.name=true∧x.low<0∧Hid (nodeB x=false))∨(nameB x.name=true∧0≤x.low∧x.high<x.low∧Hid (nodeB x=false))∨
  (nameB x.name=true∧0≤x.low∧x.low≤x.high∧Hid (nodeB x=decide (x.high≤100000000))):=by
 unfold nodeB Hid
 cases nameB x.name
 ·simp
 ·simp only [Bool.true_and]
  by_cases h1:0≤x.low <;> by_cases h2:x.low≤x.high <;> simp [h1,h2] <;> omega
set_option maxHeartbeats 1000000 in
theorem c_IsNode (x:Node) (w:World):
  Calls Tryz.prog 184 #[.agg #[.string x.name,.int .i64 x.low,.int .i64 x.high]] w (Ret (.bool (nodeB x)) w):=by
 obtain ⟨s,lo,hi⟩:=x
 rcases node_ways ⟨s,lo,hi⟩ with ⟨h1,HR⟩ | ⟨h1,h2,HR⟩ | ⟨h1,h2,h3,HR⟩ | ⟨h1,h2,h3,HR⟩ <;>
 ·simp only at h1
  go_enter Tryz.func184,Tryz.ntmps184
  go_wp2_with (go_at_call 237; refine (c_isName _ _).mono ?_; rintro e w' ⟨rfl,rfl⟩)
  go_ret
  exact Ret.bool HR (Ext.alloc _ _)
set_option maxHeartbeats 1000000 in
theorem c_specIsNode (x:Node) (w:World)(hs:x.name.size≤1048576):
  Calls Tryz.prog 202 #[.agg #[.string x.name,.int .i64 x.low,.int .i64 x.high]] w (Ret (.bool (nodeB x)) w):=by
 obtain ⟨s,lo,hi⟩:=x
 rcases node_ways ⟨s,lo,hi⟩ with ⟨h1,HR⟩ | ⟨h1,h2,HR⟩ | ⟨h1,h2,h3,HR⟩ | ⟨h1,h2,h3,HR⟩ <;>
 ·simp only at h1
  go_enter Tryz.func202,Tryz.ntmps202
  go_wp2_with (go_at_call 255; refine (c_l02Name _ _ hs).mono ?_; rintro e w' ⟨rfl,rfl⟩)
  go_ret
  exact Ret.bool HR (Ext.alloc _ _)
end Go.Proofs.YtfkpghdmljjegaaGreat
