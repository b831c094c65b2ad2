/-
  What flows out of a node, in plain Lean: a sending turns it at its two ends alone; what routing leaves and what flows out add up to the supplies.
-/
import Derived.Test.YtfkpghdmljjegaaGreatVe22
import Derived.Test.YtfkpghdmljjegaaGreatVe29
import Derived.Test.YtfkpghdmljjegaaGreatVe26
import Derived.Test.YtfkpghdmljjegaaGreatVe03
import Derived.Test.YtfkpghdmljjegaaGreatVe00
import Derived.Test.YtfkpghdmljjegaaGreatVe36
namespace Go.Proofs.YtfkpghdmljjegaaGreat
def outC (p:Pipe) (f:Int) (i:Int):Int:=(if p.src=i then f else 0)-(if p.dst=i then f else 0)
def outF:List Pipe→List Int→Int→Int
 | p::ps,f::fl,i=>outC p f i+outF ps fl i
 | _,_,_=>0
theorem outF_set:∀ {ps:List Pipe} {fl:List Int} {k:Nat} {p:Pipe} {f:Int} (g i:Int),ps[k]? =some p→fl[k]? =some f→outF ps (fl.set k g) i=outF ps fl i-outC p f i+outC p g i
 | [],fl,k,p,f,g,i,hp,hf=>by simp at hp
 | q::ps,[],k,p,f,g,i,hp,hf=>by simp at hf
 | q::ps,e::fl,0,p,f,g,i,hp,hf=>by
  simp at hp hf
  subst hp; subst hf
  simp only [List.set_cons_zero,outF]; omega
 | q::ps,e::fl,k+1,p,f,g,i,hp,hf=>by
  simp only [List.set_cons_succ,outF]
  rw [outF_set (ps:=ps) (fl:=fl) g i (by simpa using hp) (by simpa using hf)]; omega
theorem outF_zero:∀(ps:List Pipe) (n:Nat) (i:Int),outF ps (List.replicate n 0) i=0
 | [],n,i=>by cases n <;> rfl
 | p::ps,0,i=>rfl
 | p::ps,n+1,i=>by
  rw [List.replicate_succ,outF,outF_zero ps n i]
  unfold outC; split <;> split <;> rfl
def atZ (i q a:Int):Int:=if q=i then a else 0
theorem outC_turn {p:Pipe} {a f up tq i:Int} (hx:p.src=tq∨p.dst=tq) (hu:othE p tq=up) (hne:p.src≠p.dst):outC p (if p.src=up then f+a else f-a) i=outC p f i+atZ i up a-atZ i tq a:=by
 unfold othE at hu
 unfold outC atZ
 by_cases h1:p.src=tq
 ·rw [if_pos h1] at hu
  subst hu; subst h1
  rw [if_neg hne]
  by_cases a1:p.src=i <;> by_cases a2:p.dst=i <;> simp [a1,a2] <;> omega
 ·rw [if_neg h1] at hu
  have h2:p.dst=tq:=by omega
  subst hu; subst h2
  rw [if_pos rfl]
  by_cases a1:p.src=i <;> by_cases a2:p.dst=i <;> simp [a1,a2] <;> omega
theorem outF_path {ps:List Pipe} {N:Nat} {en:List Int} {q:Int} (he:EndsN N ps) (a i:Int):∀ {L:List Stp} {x:Int} {fl:List Int},Pth ps en q x L→Rest ps N L→fl.length=ps.length→outF ps (addA ps a fl L) i=outF ps fl i+atZ i q a-atZ i x a
 | [],x,fl,h,hr,hl=>by
  cases h
  show outF ps fl i=_
  omega
 | e::L,x,fl,h,hr,hl=>by
  cases h with
  | @cons _ k p _ hne hen hp h=>
   obtain ⟨p',h1,h2,h3,_⟩:=hr.ok _ List.mem_cons_self
   simp only at h1 h2 h3
   rw [hp] at h1
   obtain rfl:=Option.some.inj h1
   obtain ⟨f,hf⟩:∃f,fl[k]? =some f:=⟨_,List.getElem?_eq_getElem (by rw [hl]; exact (List.getElem?_eq_some_iff.1 hp).1)⟩
   rw [addA_cons,outF_path he a i h hr.tail (by rw [List.length_set]; exact hl)]
   simp only
   rw [outF_set _ i hp hf,hf,Option.getD_some,turnS_at hp,outC_turn h2 rfl (he _ (List.mem_of_getElem? hp)).2.2]
   omega
def Bal (ps:List Pipe) (N:Nat) (sup:List Int) (s:Rst):Prop:=∀i:Nat,i<N→outF ps s.fl i+zAt s.lf i=zAt sup i
theorem zAt_set {l:List Int} {k:Nat} (hk:k<l.length) (v:Int) (i:Nat):zAt (l.set k v) i=if k=i then v else zAt l i:=by
 unfold zAt
 by_cases h:k=i
 ·subst h; rw [List.getElem?_set_self hk,if_pos rfl]; rfl
 ·rw [List.getElem?_set_ne h,if_neg h]
section
variable {ps:List Pipe} {N:Nat} {sup:List Int} {s s' t:Rst}
theorem Bal.send {q x:Nat} {lq lt:Int} {L:List Stp} (h:Bal ps N sup s) (hI:RInv ps N s) (hP:PipesN N ps) (hq:q<N) (hT:Tgt ps N q s x lq lt L):Bal ps N sup (sendZ ps N q s x):=by
 intro i hi
 rw [hT.send]
 simp only
 rw [outF_path hP.ends _ _ hT.path (hT.rest hP.ends) hI.fl]
 have h1:=h i hi
 have hx:=hT.tN
 rw [zAt_set (by rw [List.length_set,hI.lf]; exact hx),zAt_set (by rw [hI.lf]; exact hq)]
 have e1:=zAt_some hT.fq
 have e2:=zAt_some hT.ft
 have hne:=hT.ne
 unfold atZ
 by_cases c1:x=i
 ·subst c1
  rw [if_pos rfl,if_pos rfl,if_neg (by omega)]
  omega
 ·rw [if_neg c1,if_neg (show ¬(x:Int)=i by omega)]
  by_cases c2:q=i
  ·subst c2; rw [if_pos rfl,if_pos rfl]; omega
  ·rw [if_neg c2,if_neg (by omega)]; omega
theorem Bal.route (r:Route ps N s t) (hP:PipesN N ps):RInv ps N s→Bal ps N sup s→Bal ps N sup t:=by
 induction r with
 | done _=>exact fun _ h=>h
 | step h1 _ ih=>
  intro hI h
  have hk:=(oneS_keeps h1 hI hP).1
  obtain ⟨q,x,lq,lt,L,hq,h0,hT,rfl⟩:=oneS_of h1 hI hP
  exact ih hk (h.send hI hP hq hT)
end
theorem routed_bal {ps:List Pipe} {N:Nat} {sup:List Int} (hP:PipesN N ps) (hl:sup.length=N) (hb:∀z∈sup,-30000≤z∧z≤30000) (hz:∀z∈(routed ps N sup).lf,z=0) (i:Nat) (hi:i<N):outF ps (routed ps N sup).fl i=zAt sup i:=by
 have hr:=routed_route hP hl hb
 have h0:Bal ps N sup (rst0 ps sup):=fun j hj=>by simp only [rst0]; rw [outF_zero]; omega
 have h1:=Bal.route hr hP (rst0_inv hP hl hb) h0 i hi
 have h2:zAt (routed ps N sup).lf i=0:=by
  have hI:=(hr.inv (rst0_inv hP hl hb) hP).1
  obtain ⟨z,hz'⟩:∃z,(routed ps N sup).lf[i]? =some z:=⟨_,List.getElem?_eq_getElem (by rw [hI.lf]; exact hi)⟩
  rw [zAt_some hz',hz z (List.mem_of_getElem? hz')]
 omega
end Go.Proofs.YtfkpghdmljjegaaGreat
namespace Go.Proofs.YtfkpghdmljjegaaGreat
open Go.RowKit
theorem hr_fit (ps:List Pipe) (N:Nat) (xs:List Contract) (L:List Nomination) (h:Int):routB ps N (supT N (lessT ps N xs L h))=true:=scK_fit (fitS_zero ps N (trnL xs L h)) 4 (Nat.le_refl _)
structure Flows (ps:List Pipe) (N:Nat) (sup f:List Int):Prop where
 len:f.length=ps.length
 lim:∀(k:Nat) (p:Pipe) (z:Int),ps[k]? =some p→f[k]? =some z→ -p.limit≤z∧z≤p.limit
 bd:∀z∈f,-30000≤z∧z≤30000
 sb:∀z∈sup,-30000≤z∧z≤30000
 bal:∀i:Nat,i<N→outF ps f i=zAt sup i
theorem rout_flows {ps:List Pipe} {N:Nat} {sup:List Int} (hP:PipesN N ps) (hl:sup.length=N) (h:routB ps N sup=true):routR ps N sup=((routed ps N sup).fl,0)∧Flows ps N sup (routed ps N sup).fl:=by
 unfold routB at h
 rw [Bool.and_eq_true,Bool.and_eq_true] at h
 obtain ⟨⟨h1,h2⟩,h3⟩:=h
 have hb:=supB_bd h1
 have hI:=((routed_route hP hl hb).inv (rst0_inv hP hl hb) hP).1
 have hz:∀z∈(routed ps N sup).lf,z=0:=fun z hz=>by
  have:=List.all_eq_true.1 h3 z hz
  simpa using this
 refine ⟨?_,hI.fl,hI.bd,fun z hz=> ?_,hb,fun i hi=>routed_bal hP hl hb hz i hi⟩
 ·unfold routR
  rw [h1,h2,h3]; rfl
 ·obtain ⟨k,hk,rfl⟩:=List.mem_iff_getElem.1 hz
  have hkp:k<ps.length:=by have:=hI.fl; omega
  have hp:=List.getElem?_eq_getElem (l:=ps) hkp
  have h4:=hI.bd k _ _ hp (List.getElem?_eq_getElem hk)
  have h5:=hP.lim _ (List.mem_of_getElem? hp)
  omega
theorem hr_flows {n1:Nat} {ns:List Node} {ps:List Pipe} {xs:List Contract} {L:List Nomination} {h:Int} (hN:n1=ns.length) (hk:HrOk n1 ns ps xs L h):
  routR ps n1 (supT n1 (lessT ps n1 xs L h))=((routed ps n1 (supT n1 (lessT ps n1 xs L h))).fl,0)∧Flows ps n1 (supT n1 (lessT ps n1 xs L h)) (routed ps n1 (supT n1 (lessT ps n1 xs L h))).fl:=
 rout_flows (by rw [hN]; exact (net_pipes hk.net).1) (supT_len _ _) (hr_fit ps n1 xs L h)
theorem pfV_flows {n1:Nat} {ns:List Node} {ps:List Pipe} {xs:List Contract} {L:List Nomination} {h:Int} (hN:n1=ns.length) (hz:setC n1 ns ps xs L h=0):
  ∃f,pfV n1 ns ps xs L h=(f,0)∧Flows ps n1 (supT n1 (lessT ps n1 xs L h)) f:=by
 obtain ⟨h1,h2⟩:=hr_flows hN (setC_ok hz)
 refine ⟨_,?_,h2⟩
 unfold pfV
 rw [if_pos hz,h1]
end Go.Proofs.YtfkpghdmljjegaaGreat
namespace Go.Proofs.YtfkpghdmljjegaaGreat
open Go.RowKit
def trnP (p:Pipe) (z:Int):Trn:=⟨p.src,p.dst,z,0⟩
def ofT (ps:List Pipe) (f:List Int):List Trn:=List.zipWith trnP ps f
theorem ofT_get {ps:List Pipe} {f:List Int} {k:Nat} {p:Pipe} {z:Int} (hp:ps[k]? =some p) (hz:f[k]? =some z):(ofT ps f)[k]? =some (trnP p z):=by
 unfold ofT; rw [List.getElem?_zipWith,hp,hz]
theorem ofT_len (ps:List Pipe) (f:List Int):(ofT ps f).length=min ps.length f.length:=by unfold ofT; simp
theorem zAt_supStep {l:List Int} {x:Trn} {e o:Nat} (he:x.entry=e) (ho:x.exit_=o) (h1:e<l.length) (h2:o<l.length) (i:Nat):
  zAt (supStep l x) i=zAt l i+((if x.entry=i then x.amount else 0)-(if x.exit_=i then x.amount else 0)):=by
 unfold supStep
 rw [he,ho,Int.toNat_natCast,Int.toNat_natCast,zAt_set (by rw [List.length_set]; exact h2),zAt_set h1,zAt_set h1]
 by_cases a1:e=i <;> by_cases a2:o=i <;> by_cases a3:e=o <;> simp [a1,a2,a3] <;> omega
theorem outF_sup:∀(ps:List Pipe) (f:List Int) (l:List Int),(∀p∈ps,(0≤p.src∧p.src<l.length)∧(0≤p.dst∧p.dst<l.length))→f.length=ps.length→∀i:Nat,zAt ((ofT ps f).foldl supStep l) i=zAt l i+outF ps f i
 | [],f,l,_,hl,i=>by
  have:f=[]:=List.eq_nil_of_length_eq_zero hl
  subst this
  show zAt l i=zAt l i+0
  omega
 | p::ps,[],l,_,hl,i=>by simp at hl
 | p::ps,z::f,l,hp,hl,i=>by
  have ih:=outF_sup ps f (supStep l (trnP p z)) (fun q hq=>by rw [supStep_len]; exact hp q (by simp [hq])) (by simpa using hl) i
  obtain ⟨⟨h1,h2⟩,h3,h4⟩:=hp p (by simp)
  have hs:=zAt_supStep (l:=l) (x:=trnP p z) (e:=p.src.toNat) (o:=p.dst.toNat) (by show p.src=_; omega) (by show p.dst=_; omega) (by omega) (by omega) i
  show zAt ((ofT ps f).foldl supStep (supStep l (trnP p z))) i=zAt l i+(outC p z i+outF ps f i)
  rw [ih,hs]
  show zAt l i+((if p.src=i then z else 0)-(if p.dst=i then z else 0))+outF ps f i=_
  unfold outC
  omega
theorem list_zAt {l m:List Int} (hl:l.length=m.length) (h:∀i:Nat,i<l.length→zAt l i=zAt m i):l=m:=by
 refine List.ext_getElem hl fun i h1 h2=> ?_
 have:=h i h1
 rw [zAt_some (List.getElem?_eq_getElem h1),zAt_some (List.getElem?_eq_getElem h2)] at this
 exact this
theorem out_sup {ps:List Pipe} {N:Nat} {sup f:List Int} (hP:PipesN N ps) (hl:sup.length=N) (hF:Flows ps N sup f):supT N (ofT ps f)=sup:=by
 refine list_zAt (by rw [supT_len,hl]) fun i hi=> ?_
 rw [supT_len] at hi
 unfold supT
 rw [outF_sup ps f _ (fun p hp=> ?_) hF.len i,zAt_rep,hF.bal i hi]
 ·omega
 ·have:=hP.ends p hp
  rw [List.length_replicate]
  exact ⟨⟨this.1.1,this.1.2⟩,this.2.1.1,this.2.1.2⟩
theorem supStep_bd2 {l:List Int} {x:Trn} {b:Int} (hb:0≤b) (hx: -30000≤x.amount∧x.amount≤30000) (h:∀z∈l,-b≤z∧z≤b):∀z∈supStep l x,-(b+60000)≤z∧z≤b+60000:=by
 have h1:∀z∈l.set x.entry.toNat (zAt l x.entry.toNat+x.amount),-(b+30000)≤z∧z≤b+30000:=by
  intro z hz
  rcases List.mem_or_eq_of_mem_set hz with hz | rfl
  ·have:=h z hz; omega
  ·have:=zAt_in (by omega) hb h x.entry.toNat; omega
 intro z hz
 rcases List.mem_or_eq_of_mem_set hz with hz | rfl
 ·have:=h1 z hz; omega
 ·have:=zAt_in (by omega) (by omega) h1 x.exit_.toNat; omega
theorem supT_bd2 {N:Nat}:∀(ts:List Trn),(∀x∈ts,-30000≤x.amount∧x.amount≤30000)→∀k:Nat,∀z∈supT N (ts.take k),-(60000*(k:Int))≤z∧z≤60000*k
 | ts,h,0,z,hz=>by have:=List.eq_of_mem_replicate (show z∈List.replicate N 0 from hz); omega
 | ts,h,k+1,z,hz=>by
  have ih:=supT_bd2 (N:=N) ts h k
  cases hk:ts[k]? with
  | none=>
   rw [List.take_of_length_le (by have:=List.getElem?_eq_none_iff.1 hk; omega)] at hz
   rw [List.take_of_length_le (List.getElem?_eq_none_iff.1 hk)] at ih
   have:=ih z hz; omega
  | some x=>
   rw [supT_take hk] at hz
   have:=supStep_bd2 (by omega) (h x (List.mem_of_getElem? hk)) ih z hz
   omega
theorem ofT_bd {ps:List Pipe} {f:List Int} (h:∀z∈f,-30000≤z∧z≤30000):∀x∈ofT ps f,-30000≤x.amount∧x.amount≤30000:=by
 intro x hx
 obtain ⟨k,hk⟩:=List.mem_iff_getElem?.1 hx
 unfold ofT at hk
 rw [List.getElem?_zipWith] at hk
 split at hk
 ·rename_i p z h1 h2
  injection hk with hk
  subst hk
  exact h z (List.mem_of_getElem? h2)
 ·cases hk
def TrnV (N:Nat) (x:Trn):Prop:=TrnB N 30000 x∧x.entry≠x.exit_
theorem trn_v {n1:Nat} {xs:List Contract} {L:List Nomination} (hb:bookB n1 xs=true) (hn:nomsB xs L=true) (h:Int):∀x∈trnL xs L h,TrnV n1 x:=by
 intro x hx
 refine ⟨trn_ok hb hn h x hx,?_⟩
 obtain ⟨k,hk⟩:=List.mem_iff_getElem?.1 hx
 unfold trnL at hk
 rw [List.getElem?_zipWith] at hk
 split at hk
 ·rename_i c a h1 h2
  injection hk with hk
  subst hk
  exact (con_facts hb c (List.mem_of_getElem? h1)).2.2.2.1
 ·cases hk
theorem less_v {n1:Nat} {ps:List Pipe} {xs:List Contract} {L:List Nomination} (hb:bookB n1 xs=true) (hn:nomsB xs L=true) (h:Int):∀x∈lessT ps n1 xs L h,TrnV n1 x:=by
 intro x hx
 refine ⟨less_ok hb hn h x hx,?_⟩
 unfold lessT at hx
 obtain ⟨y,hy,rfl⟩:=List.mem_map.1 hx
 exact (trn_v hb hn h y hy).2
end Go.Proofs.YtfkpghdmljjegaaGreat
namespace Go.Proofs.YtfkpghdmljjegaaGreat
open Go.RowKit
theorem c_isFlowList (A1 A2:Option Addr) (n1 c1 n2 c2:Nat) (A:Option Addr) (n c:Nat) (f:List Int) (w:World) (hf:SliceOf w 1 intC A n c f) (hn:n=n2) (hm:n2≤1000000) (hb:∀z∈f,-30000≤z∧z≤30000):
  Calls Tryz.prog 129 #[.agg #[.slice A1 n1 c1,.slice A2 n2 c2],.slice A n c] w (Ret (.bool true) w):=by
 have hall:allB f (-30000) 30000=true:=List.all_eq_true.2 (fun z hz=>inB_true.2 (hb z hz))
 subst hn
 go_enter Tryz.func129,Tryz.ntmps129
 go_wp2_with fail
 refine (c_allWithin A n c f (-30000) 30000 _ (hf.ext (Ext.alloc _ _))).mono ?_
 rw [hall]
 rintro e w' ⟨rfl,rfl⟩
 go_wp2_with fail
 go_ret
 exact Ret.bool rfl (Ext.alloc _ _)
set_option maxHeartbeats 2000000 in
theorem c_KeepsLimits (A1 A2:Option Addr) (n1 c1 n2 c2:Nat) (ns:List Node) (ps:List Pipe) (A:Option Addr) (n c:Nat) (sup f:List Int) (N:Nat) (w:World) (hs1:SliceOf w 3 Node.cells A1 n1 c1 ns) (hs2:SliceOf w 5 Pipe.cells A2 n2 c2 ps) (hf:SliceOf w 1 intC A n c f) (hnet:netB ns ps=true) (hF:Flows ps N sup f):
  Calls Tryz.prog 44 #[.agg #[.slice A1 n1 c1,.slice A2 n2 c2],.slice A n c] w (Ret (.bool true) w):=by
 have hx0:Ext w (w.alloc (.cells #[.slice A1 n1 c1,.slice A2 n2 c2] 45)):=Ext.alloc _ _
 have hB:=Row.new w 45 [.slice A1 n1 c1,.slice A2 n2 c2]
 have h40:ps.length≤40:=(net_pipes hnet).1.p40
 have hn2:n2=ps.length:=hs2.len
 have hnn:n=n2:=by rw [hf.len,hF.len, ←hn2]
 have h40':n2≤40:=by rw [hn2]; exact h40
 have HF:=hide hF
 have HLF:=hide hf.len
 have HN2:=hide hn2
 have HNN:=hide hnn
 have HNET:=hide hnet
 clear hF hnet h40 hn2 hnn
 go_enter Tryz.func44,Tryz.ntmps44
 go_wp2_with fail
 refine (c_IsNetwork A1 A2 n1 c1 n2 c2 ns ps _ (hs1.ext hx0) (hs2.ext hx0)).mono ?_
 rw [HNET.out]
 rintro e w1 ⟨rfl,hx1⟩
 have b0:=(hB.ext hx1).cell 0
 have b1:=(hB.ext hx1).cell 1
 simp at b0 b1
 have bl:=(hB.ext hx1).lt
 go_wp2_with fail
 refine (c_isFlowList A1 A2 n1 c1 n2 c2 A n c f _ (hf.ext (hx0.trans hx1)) HNN.out (by omega) HF.out.bd).mono ?_
 rintro e w2 ⟨rfl,hx2⟩
 have hx12:=hx1.trans hx2
 clear b0 b1 bl
 have b0:=(hB.ext hx12).cell 0
 have b1:=(hB.ext hx12).cell 1
 simp at b0 b1
 have bl:=(hB.ext hx12).lt
 go_wp2_with fail
 go_loopw [19] (fun i wr=>∃k:Nat,k≤n2∧i= .int .i64 k∧Ext (w.alloc (.cells #[.slice A1 n1 c1,.slice A2 n2 c2] 45)) wr) (fun i _=>n2-(intOf i).toNat)
 case atStart=>exact ⟨0,Nat.zero_le _,rfl,hx12⟩
 case round=>
  clear hx1 hx2 hx12 b0 b1 bl
  obtain ⟨k,hk,rfl,hx⟩:=hrel
  have hX:=hx0.trans hx
  by_cases hlt:k<n2
  ·obtain ⟨bb,off,p,hA,hbb,hxk,t⟩:=(hs2.ext hX).get hlt
   have t0:=t 0 _ rfl
   have t1:=t 1 _ rfl
   have t2:=t 2 _ rfl
   have t3:=t 3 _ rfl
   have t4:=t 4 _ rfl
   simp only [Nat.add_zero] at t0
   subst hA
   obtain ⟨bf,off2,z,hA2,hbf,hzk,hzc⟩:=(hf.ext hX).get1 (k:=k) (by have:=HNN.out; omega)
   subst hA2
   have hlim:=HF.out.lim k p z hxk hzk
   have hbz:=HF.out.bd z (List.mem_of_getElem? hzk)
   have habs:=absI_le (n:=z) (m:=p.limit) (by omega) (by omega)
   have hd:decide (p.limit<absI z)=false:=decide_eq_false (by omega)
   have hkn:k<n:=by have:=HNN.out; omega
   have hzc1:∀W,Ext wr W→W.cell? ⟨bf,off2+k,none⟩=some (.int .i64 z):=fun W hW=>(hW.cell _ _ hbf).trans hzc
   clear hxk hzk t hlim
   go_wp2_with fail
   have hbx:=Row.new wr 181 p.cells
   have hx1':Ext wr (wr.alloc (.cells p.cells.toArray 181)):=Ext.alloc _ _
   rw [show (Obj.cells #[.int .i64 p.src,.int .i64 p.dst,.int .i64 p.k,.int .i64 p.volume,.int .i64 p.limit] 181)= .cells p.cells.toArray 181 from rfl]
   obtain ⟨g,hg⟩:∃g,wr.heap.size=g:=⟨_,rfl⟩
   have hzc2:=hzc1 _ hx1'
   have hbfl:bf<(wr.alloc (.cells p.cells.toArray 181)).heap.size:=Nat.lt_of_lt_of_le hbf hx1'.size
   generalize (wr.alloc (.cells p.cells.toArray 181))=W1 at *
   have q4:=hbx.cell 4
   simp [Pipe.cells] at q4
   have hbl:=hbx.lt
   have hX2:=hx.trans hx1'
   rw [hg] at hbl q4 ⊢
   clear hzc1 hbx hzc t0 t1 t2 t3 t4
   refine wp_region_ph [([0,1,2,3,5,6],4)] [7] (by kernel_rfl) (by kernel_rfl) (by intro c a w d v h; cases d <;> exact h) ?_
   simp only [wpPh,pickL,nthO]
   repeat (go_big_quiet_step (fail))
   refine wpQuiet_nil ?_
   go_wp2_with fail
   refine (c_absOf z _ (by omega) (by omega)).mono ?_
   rintro e w' ⟨rfl,rfl⟩
   go_wp2_with fail
   refine ⟨Ext.refl _,?_⟩
   repeat (go_big_quiet_step (fail))
   refine wpQuiet_nil ?_
   go_wp2_with fail
   go_roundw
   case rel=>exact ⟨k+1,by omega,by go_num,hX2.drew⟩
   case measure=>simp [intOf]; omega
  ·go_wp2_with fail
   go_ret
   exact Ret.bool rfl hX
end Go.Proofs.YtfkpghdmljjegaaGreat
namespace Go.Proofs.YtfkpghdmljjegaaGreat
open Go.RowKit
set_option maxHeartbeats 2000000 in
theorem c_checkTransports (A1 A2:Option Addr) (n1 c1 n2 c2:Nat) (ns:List Node) (ps:List Pipe) (w:World) (hs1:SliceOf w 3 Node.cells A1 n1 c1 ns) (hs2:SliceOf w 5 Pipe.cells A2 n2 c2 ps) (hnet:netB ns ps=true) (A:Option Addr) (n c:Nat) (ts:List Trn) (hs:SliceOf w 4 Trn.cells A n c ts) (hn:n≤32) (hb:∀x∈ts,TrnV n1 x):
  Calls Tryz.prog 149 #[.agg #[.slice A1 n1 c1,.slice A2 n2 c2],.slice A n c] w (Ret (.int .i64 0) w):=by
 obtain ⟨W,HW⟩:∃W,Hid ((w.alloc (.cells #[.slice A1 n1 c1,.slice A2 n2 c2] 45))=W):=⟨_,hide rfl⟩
 have hB:Row W w.heap.size 45 [.slice A1 n1 c1,.slice A2 n2 c2]:=by rw [←HW.out]; exact Row.new w 45 [.slice A1 n1 c1,.slice A2 n2 c2]
 have hx0:Ext w W:=by rw [←HW.out]; exact Ext.alloc _ _
 have HNT:=hide hnet
 have HB:=hide hb
 have h24:n1≤24:=by rw [hs1.len]; exact (net_pipes hnet).1.n24
 clear hnet hb
 have hb0:=(hB.ext (Ext.refl W)).cell 0
 have hb1:=(hB.ext (Ext.refl W)).cell 1
 simp at hb0 hb1
 have hbl:=(hB.ext (Ext.refl W)).lt
 go_enter Tryz.func149,Tryz.ntmps149
 go_wp2_with fail
 rw [HW.out]
 refine (c_IsNetwork A1 A2 n1 c1 n2 c2 ns ps _ (hs1.ext hx0) (hs2.ext hx0)).mono ?_
 rw [HNT.out]
 rintro e w1 ⟨rfl,hx1⟩
 clear hb0 hb1 hbl
 have hd:decide ((32:Int)<(n:Int))=false:=decide_eq_false (by omega)
 go_wp2_with fail
 clear hd
 go_loopw [17] (fun i wr=>∃k:Nat,k≤n∧i= .int .i64 k∧Ext W wr) (fun i _=>n-(intOf i).toNat)
 case atStart=>exact ⟨0,Nat.zero_le _,rfl,hx1⟩
 case round=>
  clear hx1
  obtain ⟨k,hk,rfl,hx⟩:=hrel
  by_cases hlt:k<n
  ·obtain ⟨b,off,x,hA,hbb,hxk,hc⟩:=(hs.ext (hx0.trans hx)).get hlt
   subst hA
   have hc0:=hc 0 _ rfl
   have hc1:=hc 1 _ rfl
   have hc2:=hc 2 _ rfl
   have hc3:=hc 3 _ rfl
   simp only [Nat.add_zero] at hc0
   obtain ⟨⟨⟨e0,e1⟩,⟨o0,o1⟩,⟨a0,a1⟩,k0,k1⟩,hne⟩:=HB.out x (List.mem_of_getElem? hxk)
   have HI1:=hide (show inB x.entry 0 ((n1:Int)-1)=true from inB_true.2 (by omega))
   have HI2:=hide (show inB x.exit_ 0 ((n1:Int)-1)=true from inB_true.2 (by omega))
   have HI3:=hide (show inB x.amount 0 30000=true from inB_true.2 (by omega))
   have HI4:=hide (show inB x.cls 0 3=true from inB_true.2 (by omega))
   have hnb:(x.entry==x.exit_)=false:=beq_eq_false_iff_ne.2 hne
   have hX1:Row (wr.alloc (.cells x.cells.toArray 201)) wr.heap.size 201 x.cells:=Row.new wr _ _
   have hx1:Ext wr (wr.alloc (.cells x.cells.toArray 201)):=Ext.alloc _ _
   clear hxk hc
   have hb0:=(hB.ext (hx)).cell 0
   have hb1:=(hB.ext (hx)).cell 1
   simp at hb0 hb1
   have hbl:=(hB.ext (hx)).lt
   go_wp2_with fail
   refine (c_isNodeOf A1 A2 n1 c1 n2 c2 x.entry _ (by omega)).mono ?_
   rw [HI1.out]
   rintro e w2 ⟨rfl,h2⟩
   clear hb0 hb1 hbl
   clear hc0 hc1 hc2 hc3
   have hxW:=hx.trans hx1
   have hb0:=(hB.ext (hxW.trans h2)).cell 0
   have hb1:=(hB.ext (hxW.trans h2)).cell 1
   simp at hb0 hb1
   have hbl:=(hB.ext (hxW.trans h2)).lt
   have q0:=(hX1.ext (h2)).cell 0
   have q1:=(hX1.ext (h2)).cell 1
   have q2:=(hX1.ext (h2)).cell 2
   have q3:=(hX1.ext (h2)).cell 3
   simp [Trn.cells] at q0 q1 q2 q3
   have ql:=(hX1.ext (h2)).lt
   go_wp2_with fail
   refine (c_isNodeOf A1 A2 n1 c1 n2 c2 x.exit_ _ (by omega)).mono ?_
   rw [HI2.out]
   rintro e w3 ⟨rfl,h3⟩
   clear hb0 hb1 hbl
   clear q0 q1 q2 q3 ql
   have q0:=(hX1.ext (h2.trans h3)).cell 0
   have q1:=(hX1.ext (h2.trans h3)).cell 1
   have q2:=(hX1.ext (h2.trans h3)).cell 2
   have q3:=(hX1.ext (h2.trans h3)).cell 3
   simp [Trn.cells] at q0 q1 q2 q3
   have ql:=(hX1.ext (h2.trans h3)).lt
   go_wp2_with fail
   refine (c_within _ _ _ _).mono ?_
   rw [HI3.out]
   rintro e w' ⟨rfl,rfl⟩
   go_wp2_with fail
   refine (c_within _ _ _ _).mono ?_
   rw [HI4.out]
   rintro e w' ⟨rfl,rfl⟩
   go_wp2_with fail
   go_roundw
   case rel=>exact ⟨k+1,by omega,by go_num,hxW.trans (h2.trans h3)⟩
   case measure=>simp [intOf]; omega
  ·go_wp2_with fail
   go_ret
   exact Ret.int rfl (hx0.trans hx)
theorem c_areScales (B:Option Addr) (d:Nat) (sc:List Int) (w:World) (hsc:SliceOf w 1 intC B 4 d sc) (hi:ScaleIn sc):
  Calls Tryz.prog 150 #[.slice B 4 d] w (Ret (.bool true) w):=by
 have hall:allB sc 0 100=true:=List.all_eq_true.2 (fun z hz=>inB_true.2 (hi.2 z hz))
 go_enter Tryz.func150,Tryz.ntmps150
 go_wp2_with fail
 refine (c_allWithin B 4 d sc 0 100 _ hsc).mono ?_
 rw [hall]
 rintro e w' ⟨rfl,rfl⟩
 go_wp2_with fail
 go_ret
 exact Ret.bool rfl (Ext.refl _)
set_option maxHeartbeats 1000000 in
theorem c_ScaleTransports (A1 A2:Option Addr) (n1 c1 n2 c2:Nat) (ns:List Node) (ps:List Pipe) (w:World) (hs1:SliceOf w 3 Node.cells A1 n1 c1 ns) (hs2:SliceOf w 5 Pipe.cells A2 n2 c2 ps) (hnet:netB ns ps=true) (A:Option Addr) (n c:Nat) (ts:List Trn) (hs:SliceOf w 4 Trn.cells A n c ts) (hn:n≤32) (hb:∀x∈ts,TrnV n1 x) (B:Option Addr) (d:Nat) (sc:List Int) (hsc:SliceOf w 1 intC B 4 d sc) (hi:ScaleIn sc):
  Calls Tryz.prog 78 #[.agg #[.slice A1 n1 c1,.slice A2 n2 c2],.slice A n c,.slice B 4 d] w (RetOC 201 4 Trn.cells (ts.map (scaleT sc),0) w):=by
 obtain ⟨W,HW⟩:∃W,Hid ((w.alloc (.cells #[.slice A1 n1 c1,.slice A2 n2 c2] 45))=W):=⟨_,hide rfl⟩
 have hB:Row W w.heap.size 45 [.slice A1 n1 c1,.slice A2 n2 c2]:=by rw [←HW.out]; exact Row.new w 45 [.slice A1 n1 c1,.slice A2 n2 c2]
 have hx0:Ext w W:=by rw [←HW.out]; exact Ext.alloc _ _
 have HNT:=hide hnet
 have HB:=hide hb
 have h24:n1≤24:=by rw [hs1.len]; exact (net_pipes hnet).1.n24
 clear hnet hb
 have HI:=hide hi
 clear hi
 go_enter Tryz.func78,Tryz.ntmps78
 go_wp2_with fail
 rw [HW.out]
 refine (c_checkTransports A1 A2 n1 c1 n2 c2 ns ps _ (hs1.ext hx0) (hs2.ext hx0) HNT.out A n c ts (hs.ext hx0) hn HB.out).mono ?_
 rintro e w1 ⟨rfl,hx1⟩
 have X1:=hx0.trans hx1
 go_wp2_with fail
 refine (c_areScales B d sc _ (hsc.ext X1) HI.out).mono ?_
 rintro e w2 ⟨rfl,hx2⟩
 have X2:=X1.trans hx2
 go_wp2_with fail
 refine (c_scaledTransports A n c ts B d sc _ (hs.ext X2) (hsc.ext X2) (by omega) n1 (fun x hx=>(HB.out x hx).1) HI.out).mono ?_
 rintro e w3 ⟨v,E,rfl,ho,HE,hx3⟩
 have hz:=X2.size
 go_wp2_with fail
 go_ret2
 exact ⟨v,E,0,rfl,ho.lowG hz,X2.trans hx3,hide (by rw [HE.out])⟩
set_option maxHeartbeats 1000000 in
theorem c_CheckScales (A1 A2:Option Addr) (n1 c1 n2 c2:Nat) (ns:List Node) (ps:List Pipe) (w:World) (hs1:SliceOf w 3 Node.cells A1 n1 c1 ns) (hs2:SliceOf w 5 Pipe.cells A2 n2 c2 ps) (hnet:netB ns ps=true) (A:Option Addr) (n c:Nat) (ts:List Trn) (hs:SliceOf w 4 Trn.cells A n c ts) (hn:n≤32) (hb:∀x∈ts,TrnV n1 x) (B:Option Addr) (d:Nat) (sc:List Int) (hsc:SliceOf w 1 intC B 4 d sc) (hi:ScaleIn sc) (he:sc=scalesF (fitS ps n1 ts)):
  Calls Tryz.prog 77 #[.agg #[.slice A1 n1 c1,.slice A2 n2 c2],.slice A n c,.slice B 4 d] w (Ret (.tuple #[.int .i64 (-1),.int .i64 0]) w):=by
 obtain ⟨W,HW⟩:∃W,Hid ((w.alloc (.cells #[.slice A1 n1 c1,.slice A2 n2 c2] 45))=W):=⟨_,hide rfl⟩
 have hB:Row W w.heap.size 45 [.slice A1 n1 c1,.slice A2 n2 c2]:=by rw [←HW.out]; exact Row.new w 45 [.slice A1 n1 c1,.slice A2 n2 c2]
 have hx0:Ext w W:=by rw [←HW.out]; exact Ext.alloc _ _
 have HNT:=hide hnet
 have HB:=hide hb
 have h24:n1≤24:=by rw [hs1.len]; exact (net_pipes hnet).1.n24
 clear hnet hb
 have HI:=hide hi
 have HE0:=hide he
 clear hi he
 go_enter Tryz.func77,Tryz.ntmps77
 go_wp2_with fail
 rw [HW.out]
 refine (c_checkTransports A1 A2 n1 c1 n2 c2 ns ps _ (hs1.ext hx0) (hs2.ext hx0) HNT.out A n c ts (hs.ext hx0) hn HB.out).mono ?_
 rintro e w1 ⟨rfl,hx1⟩
 have X1:=hx0.trans hx1
 go_wp2_with fail
 refine (c_areScales B d sc _ (hsc.ext X1) HI.out).mono ?_
 rintro e w2 ⟨rfl,hx2⟩
 have X2:=X1.trans hx2
 have hb0:=(hB.ext (hx1.trans hx2)).cell 0
 have hb1:=(hB.ext (hx1.trans hx2)).cell 1
 simp at hb0 hb1
 have hbl:=(hB.ext (hx1.trans hx2)).lt
 go_wp2_with fail
 refine (c_curtailScales A1 A2 n1 c1 n2 c2 ns ps _ (hs1.ext X2) (hs2.ext X2) HNT.out A n c ts (hs.ext X2) (by omega) (fun x hx=>(HB.out x hx).1)).mono ?_
 rintro e w3 ⟨v,E,rfl,ho,HE,hx3⟩
 have X3:=X2.trans hx3
 obtain rfl:E=sc:=by rw [HE.out,HE0.out]
 have hl4:=HI.out.1
 obtain ⟨B2,d2,rfl,hs3⟩:=ho.sl intC_len (by omega)
 rw [hl4] at hs3 ⊢
 clear hb0 hb1 hbl
 clear ho HE0 HE
 go_wp2_with fail
 go_loopw [24] (fun i wr=>∃k:Nat,k≤4∧i= .int .i64 k∧Ext w3 wr) (fun i _=>4-(intOf i).toNat)
 case atStart=>exact ⟨0,by omega,rfl,Ext.refl _⟩
 case round=>
  obtain ⟨k,hk,rfl,hx⟩:=hrel
  by_cases hlt:k<4
  ·obtain ⟨b,off,x,rfl,hb,hxk,hc0⟩:=(hsc.ext (X3.trans hx)).get1 hlt
   obtain ⟨b',off',x',rfl,hb',hxk',hd0⟩:=(hs3.ext hx).get1 hlt
   obtain rfl:x=x':=by rw [hxk] at hxk'; injection hxk'
   clear hxk hxk'
   go_wp2_with fail
   go_roundw
   case rel=>exact ⟨k+1,by omega,by go_num,hx⟩
   case measure=>simp [intOf]; omega
  ·go_wp2_with fail
   go_ret2
   exact Ret.of rfl (X3.trans hx)
set_option maxHeartbeats 1000000 in
theorem c_TransportSupplies (A1 A2:Option Addr) (n1 c1 n2 c2:Nat) (ns:List Node) (ps:List Pipe) (w:World) (hs1:SliceOf w 3 Node.cells A1 n1 c1 ns) (hs2:SliceOf w 5 Pipe.cells A2 n2 c2 ps) (hnet:netB ns ps=true) (A:Option Addr) (n c:Nat) (ts:List Trn) (hs:SliceOf w 4 Trn.cells A n c ts) (hn:n≤32) (hb:∀x∈ts,TrnV n1 x) (hsb:supB (supT n1 ts)=true):
  Calls Tryz.prog 79 #[.agg #[.slice A1 n1 c1,.slice A2 n2 c2],.slice A n c] w (RetOC 2 1 intC (supT n1 ts,0) w):=by
 obtain ⟨W,HW⟩:∃W,Hid ((w.alloc (.cells #[.slice A1 n1 c1,.slice A2 n2 c2] 45))=W):=⟨_,hide rfl⟩
 have hB:Row W w.heap.size 45 [.slice A1 n1 c1,.slice A2 n2 c2]:=by rw [←HW.out]; exact Row.new w 45 [.slice A1 n1 c1,.slice A2 n2 c2]
 have hx0:Ext w W:=by rw [←HW.out]; exact Ext.alloc _ _
 have HNT:=hide hnet
 have HB:=hide hb
 have h24:n1≤24:=by rw [hs1.len]; exact (net_pipes hnet).1.n24
 clear hnet hb
 have HSB:=hide hsb
 clear hsb
 go_enter Tryz.func79,Tryz.ntmps79
 go_wp2_with fail
 rw [HW.out]
 refine (c_checkTransports A1 A2 n1 c1 n2 c2 ns ps _ (hs1.ext hx0) (hs2.ext hx0) HNT.out A n c ts (hs.ext hx0) hn HB.out).mono ?_
 rintro e w1 ⟨rfl,hx1⟩
 have X1:=hx0.trans hx1
 have hb0:=(hB.ext (hx1)).cell 0
 have hb1:=(hB.ext (hx1)).cell 1
 simp at hb0 hb1
 have hbl:=(hB.ext (hx1)).lt
 go_wp2_with fail
 refine (c_transportSupplies A1 A2 n1 c1 n2 c2 A n c ts _ (hs.ext X1) (by omega) (by omega) (fun x hx=>(HB.out x hx).1)).mono ?_
 rintro e w2 ⟨v2,E,rfl,ho2,HE,hx2⟩
 have hel:E.length=n1:=by rw [HE.out]; exact supT_len _ _
 obtain ⟨A3,c3,rfl,hs3⟩:=ho2.sl intC_len (by omega)
 have X2:=X1.trans hx2
 have hz:=X1.size
 have HSE:Hid (supB E=true):=hide (by rw [HE.out]; exact HSB.out)
 rw [hel] at hs3 ho2 ⊢
 clear hb0 hb1 hbl
 have hb0:=(hB.ext (hx1.trans hx2)).cell 0
 have hb1:=(hB.ext (hx1.trans hx2)).cell 1
 simp at hb0 hb1
 have hbl:=(hB.ext (hx1.trans hx2)).lt
 go_wp2_with fail
 refine (c_areSupplies A1 A2 n1 c1 n2 c2 A3 n1 c3 E _ hs3).mono ?_
 rw [beq_self_eq_true,Bool.true_and,HSE.out]
 rintro e w3 ⟨rfl,hx3⟩
 go_wp2_with fail
 go_ret2
 exact ⟨_,E,0,rfl,(ho2.lowG hz).ext hx3,X2.trans hx3,hide (by rw [HE.out])⟩
set_option maxHeartbeats 1000000 in
theorem c_DoFit (A1 A2:Option Addr) (n1 c1 n2 c2:Nat) (ns:List Node) (ps:List Pipe) (w:World) (hs1:SliceOf w 3 Node.cells A1 n1 c1 ns) (hs2:SliceOf w 5 Pipe.cells A2 n2 c2 ps) (hnet:netB ns ps=true) (A:Option Addr) (n c:Nat) (ts:List Trn) (hs:SliceOf w 4 Trn.cells A n c ts) (hn:n≤32) (hb:∀x∈ts,TrnV n1 x):
  Calls Tryz.prog 80 #[.agg #[.slice A1 n1 c1,.slice A2 n2 c2],.slice A n c] w (Ret (.bool (fitB ps n1 ts)) w):=by
 obtain ⟨W,HW⟩:∃W,Hid ((w.alloc (.cells #[.slice A1 n1 c1,.slice A2 n2 c2] 45))=W):=⟨_,hide rfl⟩
 have hB:Row W w.heap.size 45 [.slice A1 n1 c1,.slice A2 n2 c2]:=by rw [←HW.out]; exact Row.new w 45 [.slice A1 n1 c1,.slice A2 n2 c2]
 have hx0:Ext w W:=by rw [←HW.out]; exact Ext.alloc _ _
 have HNT:=hide hnet
 have HB:=hide hb
 have h24:n1≤24:=by rw [hs1.len]; exact (net_pipes hnet).1.n24
 clear hnet hb
 go_enter Tryz.func80,Tryz.ntmps80
 go_wp2_with fail
 rw [HW.out]
 refine (c_checkTransports A1 A2 n1 c1 n2 c2 ns ps _ (hs1.ext hx0) (hs2.ext hx0) HNT.out A n c ts (hs.ext hx0) hn HB.out).mono ?_
 rintro e w1 ⟨rfl,hx1⟩
 have X1:=hx0.trans hx1
 have hb0:=(hB.ext (hx1)).cell 0
 have hb1:=(hB.ext (hx1)).cell 1
 simp at hb0 hb1
 have hbl:=(hB.ext (hx1)).lt
 go_wp2_with fail
 refine (c_doFit A1 A2 n1 c1 n2 c2 ns ps _ (hs1.ext X1) (hs2.ext X1) HNT.out A n c ts (hs.ext X1) (by omega) (fun x hx=>(HB.out x hx).1)).mono ?_
 rintro e w2 ⟨rfl,hx2⟩
 go_wp2_with fail
 go_ret
 exact Ret.bool rfl (X1.trans hx2)
end Go.Proofs.YtfkpghdmljjegaaGreat
