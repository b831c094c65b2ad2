/-
  Components, evenness, transports, scales: in plain Lean.
-/
import Derived.Test.YtfkpghdmljjegaaGreatVe18
import Derived.Test.YtfkpghdmljjegaaGreatVe05
import Derived.Test.YtfkpghdmljjegaaGreatVe08
import Derived.Test.YtfkpghdmljjegaaGreatVe07
import Derived.Test.YtfkpghdmljjegaaGreatVe16
import Derived.Test.YtfkpghdmljjegaaGreatVe01
import Derived.Test.YtfkpghdmljjegaaGreatVe04
namespace Go.Proofs.YtfkpghdmljjegaaGreat
def setAll (l:List Int) (E:List Int) (v:Int):List Int:=E.foldl (fun l z=>l.set z.toNat v) l
theorem setAll_len {E:List Int} {l:List Int} {v:Int}:(setAll l E v).length=l.length:=by
 unfold setAll
 induction E generalizing l with
 | nil=>rfl
 | cons z E ih=>simp only [List.foldl_cons]; rw [ih,List.length_set]
theorem setAll_step {E:List Int} {l:List Int} {v z:Int} {j:Nat} (h:E[j]? =some z):setAll l (E.take (j+1)) v=(setAll l (E.take j) v).set z.toNat v:=by
 unfold setAll
 rw [List.take_add_one,h,List.foldl_append]; rfl
def srchC (ps:List Pipe) (N i:Nat):Sst:=srch ps anyR N (-1) i
def compStep (ps:List Pipe) (N:Nat) (l:List Int) (i:Nat):List Int:=if zAt l i<0 then setAll l (srchC ps N i).E (i:Int) else l
def compK (ps:List Pipe) (N k:Nat):List Int:=(List.range k).foldl (compStep ps N) (List.replicate N (-1))
def comps (ps:List Pipe) (N:Nat):List Int:=compK ps N N
theorem compK_succ (ps:List Pipe) (N k:Nat):compK ps N (k+1)=compStep ps N (compK ps N k) k:=by
 unfold compK; rw [List.range_succ,List.foldl_append]; rfl
theorem compStep_len {ps:List Pipe} {N:Nat} {l:List Int} {i:Nat}:(compStep ps N l i).length=l.length:=by
 unfold compStep; split
 ·exact setAll_len
 ·rfl
theorem compK_len (ps:List Pipe) (N:Nat):∀k:Nat,(compK ps N k).length=N
 | 0=>by simp [compK]
 | k+1=>by rw [compK_succ,compStep_len,compK_len ps N k]
theorem setAll_mem {E:List Int} {v:Int}:∀ {l:List Int},∀z∈setAll l E v,z∈l∨z=v:=by
 unfold setAll
 induction E with
 | nil=>exact fun z hz=> .inl hz
 | cons y E ih=>
  intro l z hz
  simp only [List.foldl_cons] at hz
  rcases ih z hz with h | h
  ·rcases List.mem_or_eq_of_mem_set h with h | h
   ·exact .inl h
   ·exact .inr h
  ·exact .inr h
theorem setAll_get {E:List Int} {v:Int} (hv:0≤v):∀ {l:List Int} {i:Nat},i<l.length→(0≤zAt l i∨(i:Int)∈E)→0≤zAt (setAll l E v) i:=by
 unfold setAll
 induction E with
 | nil=>
  intro l i _ h
  rcases h with h | h
  ·exact h
  ·cases h
 | cons y E ih=>
  intro l i hi h
  simp only [List.foldl_cons]
  refine ih (by rw [List.length_set]; exact hi) ?_
  rcases h with h | h
  ·left
   unfold zAt at h ⊢
   rw [List.getElem?_set]
   split
   ·rw [if_pos (by omega)]; exact hv
   ·exact h
  ·rcases List.mem_cons.1 h with rfl | h
   ·left
    unfold zAt
    rw [Int.toNat_natCast,List.getElem?_set_self hi]; exact hv
   ·exact .inr h
theorem comp_val (ps:List Pipe) (N:Nat):∀k:Nat,∀z∈compK ps N k,-1≤z∧z<max k 1
 | 0,z,hz=>by
  have:=List.eq_of_mem_replicate (show z∈List.replicate N (-1) from hz)
  omega
 | k+1,z,hz=>by
  rw [compK_succ] at hz
  unfold compStep at hz
  split at hz
  ·rcases setAll_mem z hz with h | h
   ·have:=comp_val ps N k z h; omega
   ·omega
  ·have:=comp_val ps N k z hz; omega
theorem srchF_mem {ps:List Pipe} {room:Nat→Int→Bool} {x:Int}:∀ {f k:Nat} {s:Sst},x∈s.E→x∈(srchF ps room f k s).E:=by
 have h1:∀ {s:Sst} {q z:Int},x∈s.E→x∈(visit ps room q s z).E:=by
  intro s q z h
  unfold visit
  split
  ·exact h
  ·split
   ·exact List.mem_append_left _ h
   ·exact h
 have h2:∀ {q:Int} {L:List Int} {s:Sst},x∈s.E→x∈(L.foldl (visit ps room q) s).E:=by
  intro q L
  induction L with
  | nil=>exact fun h=>h
  | cons z L ih=>exact fun h=>ih (h1 h)
 intro f
 induction f with
 | zero=>exact fun h=>h
 | succ f ih=>
  intro k s h
  simp only [srchF]
  split
  ·exact h
  ·exact ih (h2 h)
theorem srchC_mem (ps:List Pipe) (N i:Nat):(i:Int)∈(srchC ps N i).E:=srchF_mem (by simp [start])
theorem comp_nn (ps:List Pipe) (N:Nat):∀k:Nat,k≤N→∀i,i<k→0≤zAt (compK ps N k) i
 | 0,_,i,hi=>by omega
 | k+1,hk,i,hi=>by
  have hl:=compK_len ps N k
  rw [compK_succ]
  unfold compStep
  split
  ·rename_i h0
   refine setAll_get (by omega) (by omega) ?_
   rcases Nat.lt_or_ge i k with h | h
   ·exact .inl (comp_nn ps N k (by omega) i h)
   ·obtain rfl:i=k:=by omega
    exact .inr (srchC_mem ps N i)
  ·rename_i h0
   rcases Nat.lt_or_ge i k with h | h
   ·exact comp_nn ps N k (by omega) i h
   ·obtain rfl:i=k:=by omega
    omega
theorem comps_len (ps:List Pipe) (N:Nat):(comps ps N).length=N:=compK_len ps N N
theorem comps_in (ps:List Pipe) (N:Nat) {i:Nat} (hi:i<N):∃c:Nat,(comps ps N)[i]? =some (c:Int)∧c<N:=by
 have hl:=comps_len ps N
 obtain ⟨z,hz⟩:∃z,(comps ps N)[i]? =some z:=⟨_,List.getElem?_eq_getElem (by omega)⟩
 have h1:=comp_nn ps N N (Nat.le_refl _) i hi
 have h2:=comp_val ps N N z (List.mem_of_getElem? hz)
 unfold zAt at h1
 rw [show (compK ps N N)[i]? =some z from hz,Option.getD_some] at h1
 exact ⟨z.toNat,by rw [hz,Int.toNat_of_nonneg h1],by omega⟩
def sumStep (cs sup l:List Int) (i:Nat):List Int:=l.set (zAt cs i).toNat (zAt l (zAt cs i).toNat+zAt sup i)
def sumK (cs sup:List Int) (N k:Nat):List Int:=(List.range k).foldl (sumStep cs sup) (List.replicate N 0)
theorem sumK_succ (cs sup:List Int) (N k:Nat):sumK cs sup N (k+1)=sumStep cs sup (sumK cs sup N k) k:=by
 unfold sumK; rw [List.range_succ,List.foldl_append]; rfl
theorem sumK_len (cs sup:List Int) (N:Nat):∀k:Nat,(sumK cs sup N k).length=N
 | 0=>by simp [sumK]
 | k+1=>by rw [sumK_succ,sumStep,List.length_set,sumK_len cs sup N k]
theorem zAt_in {l:List Int} {a b:Int} (ha:a≤0) (hb:0≤b) (h:∀z∈l,a≤z∧z≤b) (i:Nat):a≤zAt l i∧zAt l i≤b:=by
 unfold zAt
 cases hi:l[i]? with
 | none=>simp; omega
 | some z=>exact h z (List.mem_of_getElem? hi)
theorem sumK_bd {cs sup:List Int} {N:Nat} (h:∀z∈sup,-30000≤z∧z≤30000):∀k:Nat,∀z∈sumK cs sup N k,-(30000*(k:Int))≤z∧z≤30000*k
 | 0,z,hz=>by have:=List.eq_of_mem_replicate (show z∈List.replicate N 0 from hz); omega
 | k+1,z,hz=>by
  rw [sumK_succ] at hz
  have ih:=sumK_bd (cs:=cs) (N:=N) h k
  rcases List.mem_or_eq_of_mem_set hz with hz | rfl
  ·have:=ih z hz; omega
  ·have h1:=zAt_in (by omega) (by omega) ih (zAt cs k).toNat
   have h2:=zAt_in (by omega) (by omega) h k
   omega
theorem zAt_some {l:List Int} {i:Nat} {z:Int} (h:l[i]? =some z):zAt l i=z:=by unfold zAt; rw [h]; rfl
theorem sumK_at {cs sup:List Int} {N k c:Nat} {s a:Int} (hc:cs[k]? =some (c:Int)) (hs:sup[k]? =some s) (ha:(sumK cs sup N k)[c]? =some a):sumK cs sup N (k+1)=(sumK cs sup N k).set c (a+s):=by
 rw [sumK_succ,sumStep,zAt_some hc,Int.toNat_natCast,zAt_some ha,zAt_some hs]
def evenB (ps:List Pipe) (N:Nat) (sup:List Int):Bool:=(sumK (comps ps N) sup N N).all fun z=>decide (z=0)
def supB (sup:List Int):Bool:=sup.all fun z=>decide (-30000≤z)&&decide (z≤30000)
noncomputable def routB (ps:List Pipe) (N:Nat) (sup:List Int):Bool:=supB sup&&evenB ps N sup&&(routed ps N sup).lf.all fun z=>decide (z=0)
theorem all_zero_rep (N:Nat):(List.replicate N (0:Int)).all (fun z=>decide (z=0))=true:=by
 rw [List.all_eq_true]; intro z hz; rw [List.eq_of_mem_replicate hz]; rfl
theorem zAt_rep (N i:Nat):zAt (List.replicate N 0) i=0:=by
 unfold zAt; rw [List.getElem?_replicate]; split <;> rfl
theorem set_zero {N c:Nat}:(List.replicate N (0:Int)).set c 0=List.replicate N 0:=by
 apply List.eq_replicate_iff.2
 refine ⟨by simp,fun z hz=> ?_⟩
 rcases List.mem_or_eq_of_mem_set hz with hz | rfl
 ·exact List.eq_of_mem_replicate hz
 ·rfl
theorem sumK_zero (cs:List Int) (N:Nat):∀k:Nat,sumK cs (List.replicate N 0) N k=List.replicate N 0
 | 0=>rfl
 | k+1=>by rw [sumK_succ,sumK_zero cs N k,sumStep,zAt_rep,zAt_rep]; exact set_zero
theorem routB_zero (ps:List Pipe) (N:Nat):routB ps N (List.replicate N 0)=true:=by
 unfold routB
 have h1:supB (List.replicate N 0)=true:=by unfold supB; rw [List.all_eq_true]; intro z hz; rw [List.eq_of_mem_replicate hz]; rfl
 have h2:evenB ps N (List.replicate N 0)=true:=by unfold evenB; rw [sumK_zero]; exact all_zero_rep N
 have h3:routed ps N (List.replicate N 0)=rst0 ps (List.replicate N 0):=by
  refine routed_eq (.done ?_)
  unfold oneS
  rw [List.findSome?_eq_none_iff]
  intro i _
  rw [if_neg]
  simp only [rst0,zAt_rep]; omega
 rw [h1,h2,h3]
 exact all_zero_rep N
structure Trn where
 entry:Int
 exit_:Int
 amount:Int
 cls:Int
def Trn.cells (x:Trn):List Value:=[.int .i64 x.entry,.int .i64 x.exit_,.int .i64 x.amount,.int .i64 x.cls]
theorem trn_len (x:Trn):x.cells.length=4:=rfl
def TrnB (N:Nat) (B:Int) (x:Trn):Prop:=(0≤x.entry∧x.entry<N)∧(0≤x.exit_∧x.exit_<N)∧(0≤x.amount∧x.amount≤B)∧(0≤x.cls∧x.cls<4)
def supStep (l:List Int) (x:Trn):List Int:=(l.set x.entry.toNat (zAt l x.entry.toNat+x.amount)).set x.exit_.toNat (zAt (l.set x.entry.toNat (zAt l x.entry.toNat+x.amount)) x.exit_.toNat-x.amount)
def supT (N:Nat) (ts:List Trn):List Int:=ts.foldl supStep (List.replicate N 0)
theorem supT_take {N:Nat} {ts:List Trn} {k:Nat} {x:Trn} (h:ts[k]? =some x):supT N (ts.take (k+1))=supStep (supT N (ts.take k)) x:=by
 unfold supT; rw [List.take_add_one,h,List.foldl_append]; rfl
theorem supStep_len {l:List Int} {x:Trn}:(supStep l x).length=l.length:=by simp [supStep]
theorem supT_len (N:Nat) (ts:List Trn):(supT N ts).length=N:=by
 unfold supT
 have:∀(l:List Int),(ts.foldl supStep l).length=l.length:=by
  induction ts with
  | nil=>exact fun l=>rfl
  | cons x ts ih=>intro l; rw [List.foldl_cons,ih,supStep_len]
 rw [this]; simp
theorem supStep_bd {l:List Int} {x:Trn} {b:Int} (hb:0≤b) (hx:0≤x.amount∧x.amount≤30000) (h:∀z∈l,-b≤z∧z≤b):∀z∈supStep l x,-(b+60000)≤z∧z≤b+60000:=by
 have h1:∀z∈l.set x.entry.toNat (zAt l x.entry.toNat+x.amount),-(b+30000)≤z∧z≤b+30000:=by
  intro z hz
  rcases List.mem_or_eq_of_mem_set hz with hz | rfl
  ·have:=h z hz; omega
  ·have:=zAt_in (by omega) hb h x.entry.toNat; omega
 intro z hz
 rcases List.mem_or_eq_of_mem_set hz with hz | rfl
 ·have:=h1 z hz; omega
 ·have:=zAt_in (by omega) (by omega) h1 x.exit_.toNat; omega
theorem supT_bd {N:Nat}:∀(ts:List Trn),(∀x∈ts,0≤x.amount∧x.amount≤30000)→∀k:Nat,∀z∈supT N (ts.take k),-(60000*(k:Int))≤z∧z≤60000*k
 | ts,h,0,z,hz=>by have:=List.eq_of_mem_replicate (show z∈List.replicate N 0 from hz); omega
 | ts,h,k+1,z,hz=>by
  have ih:=supT_bd (N:=N) ts h k
  cases hk:ts[k]? with
  | none=>
   rw [List.take_of_length_le (by have:=List.getElem?_eq_none_iff.1 hk; omega)] at hz
   rw [List.take_of_length_le (List.getElem?_eq_none_iff.1 hk)] at ih
   have:=ih z hz; omega
  | some x=>
   rw [supT_take hk] at hz
   have:=supStep_bd (by omega) (h x (List.mem_of_getElem? hk)) ih z hz
   omega
theorem supT_zero {N:Nat}:∀(ts:List Trn),(∀x∈ts,x.amount=0)→supT N ts=List.replicate N 0:=by
 intro ts
 unfold supT
 induction ts with
 | nil=>exact fun _=>rfl
 | cons x ts ih=>
  intro h
  have h0:=h x (by simp)
  rw [List.foldl_cons,show supStep (List.replicate N 0) x=List.replicate N 0 from ?_,ih (fun y hy=>h y (by simp [hy]))]
  unfold supStep
  rw [h0,zAt_rep]
  simp only [Int.add_zero,Int.sub_zero]
  rw [set_zero,zAt_rep,set_zero]
def scaleT (sc:List Int) (x:Trn):Trn:=⟨x.entry,x.exit_,(x.amount*zAt sc x.cls.toNat).tdiv 100,x.cls⟩
def ScaleIn (sc:List Int):Prop:=sc.length=4∧∀z∈sc,0≤z∧z≤100
theorem scale_le {a s:Int} (ha:0≤a∧a≤30000) (hs:0≤s∧s≤100):0≤a*s∧a*s≤3000000∧0≤(a*s).tdiv 100∧(a*s).tdiv 100≤a:=by
 have h1:0≤a*s:=Int.mul_nonneg ha.1 hs.1
 have h2:a*s≤a*100:=Int.mul_le_mul_of_nonneg_left hs.2 ha.1
 rw [Int.tdiv_eq_ediv_of_nonneg h1]
 omega
theorem scaleT_ok {sc:List Int} {x:Trn} {N:Nat} (hx:TrnB N 30000 x) (hs:ScaleIn sc):TrnB N 30000 (scaleT sc x):=by
 obtain ⟨h1,h2,h3,h4⟩:=hx
 have:=scale_le h3 (zAt_in (by omega) (by omega) hs.2 x.cls.toNat)
 exact ⟨h1,h2,⟨this.2.2.1,by simp only [scaleT]; omega⟩,h4⟩
noncomputable def fitB (ps:List Pipe) (N:Nat) (ts:List Trn):Bool:=routB ps N (supT N ts)
noncomputable def fitS (ps:List Pipe) (N:Nat) (ts:List Trn) (sc:List Int):Bool:=fitB ps N (ts.map (scaleT sc))
noncomputable def bestS (fit:List Int→Bool) (sc:List Int) (k:Nat):Nat→Nat
 | 0=>0
 | m+1=>if fit (sc.set k ((m+1:Nat):Int))=true then m+1 else bestS fit sc k m
theorem bestS_le {fit:List Int→Bool} {sc:List Int} {k:Nat}:∀m:Nat,bestS fit sc k m≤m
 | 0=>Nat.le_refl _
 | m+1=>by
  simp only [bestS]
  split
  ·exact Nat.le_refl _
  ·exact Nat.le_trans (bestS_le m) (by omega)
noncomputable def scStep (fit:List Int→Bool) (sc:List Int) (k:Nat):List Int:=sc.set k (bestS fit sc k 100:Int)
noncomputable def scK (fit:List Int→Bool) (k:Nat):List Int:=(List.range k).foldl (scStep fit) (List.replicate 4 0)
noncomputable def scalesF (fit:List Int→Bool):List Int:=scK fit 4
theorem scK_succ (fit:List Int→Bool) (k:Nat):scK fit (k+1)=scStep fit (scK fit k) k:=by
 unfold scK; rw [List.range_succ,List.foldl_append]; rfl
theorem scK_in (fit:List Int→Bool):∀k:Nat,ScaleIn (scK fit k)
 | 0=>⟨by simp [scK],fun z hz=>by have:=List.eq_of_mem_replicate (show z∈List.replicate 4 0 from hz); omega⟩
 | k+1=>by
  obtain ⟨h1,h2⟩:=scK_in fit k
  rw [scK_succ]
  refine ⟨by rw [scStep,List.length_set,h1],fun z hz=> ?_⟩
  rcases List.mem_or_eq_of_mem_set hz with hz | rfl
  ·exact h2 z hz
  ·have:=bestS_le (fit:=fit) (sc:=scK fit k) (k:=k) 100; omega
theorem ScaleIn.set {sc:List Int} (h:ScaleIn sc) (k:Nat) {z:Int} (hz:0≤z∧z≤100):ScaleIn (sc.set k z):=by
 refine ⟨by rw [List.length_set,h.1],fun y hy=> ?_⟩
 rcases List.mem_or_eq_of_mem_set hy with hy | rfl
 ·exact h.2 y hy
 ·exact hz
theorem scK_zero (fit:List Int→Bool):∀k j:Nat,k≤j→j<4→(scK fit k)[j]? =some 0
 | 0,j,_,hj=>by show (List.replicate 4 (0:Int))[j]? =some 0; rw [List.getElem?_replicate,if_pos hj]
 | k+1,j,hk,hj=>by rw [scK_succ,scStep,List.getElem?_set_ne (by omega),scK_zero fit k j (by omega) hj]
theorem scK_set0 (fit:List Int→Bool) {k:Nat} (hk:k<4):(scK fit k).set k 0=scK fit k:=by
 apply List.ext_getElem?
 intro j
 rw [List.getElem?_set]
 split
 ·rename_i h; subst h
  rw [scK_zero fit k k (Nat.le_refl _) hk,if_pos (by rw [(scK_in fit k).1]; exact hk)]
 ·rfl
theorem bestS_fit {fit:List Int→Bool} {sc:List Int} {k:Nat} (h0:fit (sc.set k 0)=true):∀m:Nat,fit (sc.set k (bestS fit sc k m:Int))=true
 | 0=>h0
 | m+1=>by
  simp only [bestS]
  split
  ·assumption
  ·exact bestS_fit h0 m
theorem scK_fit {fit:List Int→Bool} (h0:fit (List.replicate 4 0)=true):∀k:Nat,k≤4→fit (scK fit k)=true
 | 0,_=>h0
 | k+1,hk=>by
  rw [scK_succ,scStep]
  exact bestS_fit (by rw [scK_set0 fit (by omega)]; exact scK_fit h0 k (by omega)) 100
theorem bestS_at {fit:List Int→Bool} {sc:List Int} {k m:Nat} (h:fit (sc.set k (m:Int))=true):bestS fit sc k m=m:=by
 cases m with
 | zero=>rfl
 | succ m=>simp only [bestS]; rw [if_pos h]
theorem bestS_down {fit:List Int→Bool} {sc:List Int} {k m:Nat} (h:fit (sc.set k ((m+1:Nat):Int))=false):bestS fit sc k (m+1)=bestS fit sc k m:=by
 simp only [bestS]; rw [if_neg (by rw [h]; decide)]
theorem fitS_zero (ps:List Pipe) (N:Nat) (ts:List Trn):fitS ps N ts (List.replicate 4 0)=true:=by
 unfold fitS fitB
 rw [supT_zero]
 ·exact routB_zero ps N
 ·intro x hx
  obtain ⟨y,_,rfl⟩:=List.mem_map.1 hx
  simp only [scaleT,zAt_rep,Int.mul_zero]; rfl
def amtStep (h:Int) (l:List Int) (x:Nomination):List Int:=if x.hour=h then l.set x.contract.toNat x.amount else l
def amtL (nb:Nat) (L:List Nomination) (h:Int):List Int:=L.foldl (amtStep h) (List.replicate nb 0)
theorem amtL_take {nb:Nat} {L:List Nomination} {h:Int} {k:Nat} {x:Nomination} (hk:L[k]? =some x):amtL nb (L.take (k+1)) h=amtStep h (amtL nb (L.take k) h) x:=by
 unfold amtL; rw [List.take_add_one,hk,List.foldl_append]; rfl
theorem amtL_len {nb:Nat} {h:Int} (L:List Nomination):(amtL nb L h).length=nb:=by
 unfold amtL
 have:∀l:List Int,(L.foldl (amtStep h) l).length=l.length:=by
  induction L with
  | nil=>exact fun l=>rfl
  | cons x L ih=>intro l; rw [List.foldl_cons,ih]; unfold amtStep; split <;> simp
 rw [this]; simp
theorem amtL_in {nb:Nat} {h:Int} {L:List Nomination} (hL:∀x∈L,0≤x.amount∧x.amount≤30000):∀z∈amtL nb L h,0≤z∧z≤30000:=by
 unfold amtL
 have:∀l:List Int,(∀z∈l,0≤z∧z≤30000)→∀z∈L.foldl (amtStep h) l,0≤z∧z≤30000:=by
  induction L with
  | nil=>exact fun l h=>h
  | cons x L ih=>
   intro l hl
   refine ih (fun y hy=>hL y (by simp [hy])) _ (fun z hz=> ?_)
   unfold amtStep at hz
   split at hz
   ·rcases List.mem_or_eq_of_mem_set hz with hz | rfl
    ·exact hl z hz
    ·exact hL x (by simp)
   ·exact hl z hz
 exact this _ (fun z hz=>by have:=List.eq_of_mem_replicate hz; omega)
def trnOf (c:Contract) (a:Int):Trn:=⟨c.entry,c.exit,a,c.cls⟩
def trnL (xs:List Contract) (L:List Nomination) (h:Int):List Trn:=List.zipWith trnOf xs (amtL xs.length L h)
theorem trnL_len (xs:List Contract) (L:List Nomination) (h:Int):(trnL xs L h).length=xs.length:=by simp [trnL,amtL_len]
end Go.Proofs.YtfkpghdmljjegaaGreat
namespace Go.Proofs.YtfkpghdmljjegaaGreat
open Go.RowKit
theorem trn_one (y:Trn):∀u∈y.cells,u.oneCell'=true:=by intro u hu; simp [Trn.cells] at hu; rcases hu with rfl | rfl | rfl | rfl <;> rfl
theorem trn_info:(Tryz.prog.info? 201).map (fun i=>(i.zero,i.size,i.bytes))=some (some (.agg #[.int .i64 0,.int .i64 0,.int .i64 0,.int .i64 0]),4,32):=by kernel_rfl
theorem new_trn (W:World) (x:Trn) {g:Nat} (hg:g=W.heap.size):SliceOf (W.alloc (.cells #[.int .i64 x.entry,.int .i64 x.exit_,.int .i64 x.amount,.int .i64 x.cls] 201)) 4 Trn.cells (some ⟨g,0,none⟩) 1 1 [x]:=by
 subst hg; exact new_one trn_len W 201 x
def RetT (Q:List Trn→Prop) (w:World) (e:Ending) (w':World):Prop:=
 ∃v E,e= .returned v∧OwnL w' w.heap.size 201 4 Trn.cells v E∧Hid (Q E)∧Ext w w'
set_option maxHeartbeats 1000000 in
theorem c_l24Supplies (A1 A2:Option Addr) (n1 c1 n2 c2:Nat) (A:Option Addr) (n c:Nat) (ts:List Trn) (w:World) (hs:SliceOf w 4 Trn.cells A n c ts) (hn1:n1≤100000) (hn:n≤100000) (hb:∀x∈ts,TrnB n1 30000 x):
  Calls Tryz.prog 103 #[.agg #[.slice A1 n1 c1,.slice A2 n2 c2],.slice A n c] w (RetI (fun E=>E=supT n1 ts) w):=by
 have hx0:Ext w (w.alloc (.cells #[.slice A1 n1 c1,.slice A2 n2 c2] 45)):=Ext.alloc _ _
 have hmk:=fun W=>run_make_flat (P:=Tryz.prog) 24 2 _ _ 1 8 Tryz.underlying24 int_info (f:=intC) 0 rfl rfl rfl (by omega) n1 (by omega) (by omega) W
 have HB:=hide hb
 clear hb
 go_enter Tryz.func103,Tryz.ntmps103
 go_wp2_with fail
 go_loopw [6] (fun i wr=>∃k:Nat,k≤n∧i= .int .i64 k∧RowOf wr (w.heap.size+1) 2 intC (supT n1 (ts.take k))∧Ext (w.alloc (.cells #[.slice A1 n1 c1,.slice A2 n2 c2] 45)) wr) (fun i _=>n-(intOf i).toNat)
 case atStart=>exact ⟨0,Nat.zero_le _,rfl,Row.newG _ _ (by simp),Ext.alloc _ _⟩
 case round=>
  obtain ⟨k,hk,rfl,hR,hx⟩:=hrel
  obtain ⟨l,HL⟩:∃l,Hid (supT n1 (ts.take k)=l):=⟨_,hide rfl⟩
  have hll:l.length=n1:=by rw [←HL.out]; exact supT_len _ _
  rw [HL.out] at hR
  by_cases hlt:k<n
  ·obtain ⟨b,off,x,rfl,hb,hxk,hc⟩:=(hs.ext (hx0.trans hx)).get hlt
   have hc0:=hc 0 _ rfl
   have hc1:=hc 1 _ rfl
   have hc2:=hc 2 _ rfl
   clear hc
   simp only [Nat.add_zero] at hc0
   have hxb:=HB.out x (List.mem_of_getElem? hxk)
   obtain ⟨⟨he0,he1⟩,⟨hx0',hx1⟩,⟨ha0,ha1⟩,-⟩:=hxb
   obtain ⟨y1,hy1⟩:∃y:Nat,x.entry=y:=⟨x.entry.toNat,by omega⟩
   obtain ⟨y2,hy2⟩:∃y:Nat,x.exit_=y:=⟨x.exit_.toNat,by omega⟩
   have hyn1:y1<n1:=by omega
   have hyn2:y2<n1:=by omega
   have hbd:=supT_bd (N:=n1) ts (fun x hx=>(HB.out x hx).2.2.1) k
   rw [HL.out] at hbd
   obtain ⟨a1,hl1⟩:∃a,l[y1]? =some a:=⟨_,List.getElem?_eq_getElem (by omega)⟩
   obtain ⟨s1,hs1⟩:∃s1,a1+x.amount=s1:=⟨_,rfl⟩
   obtain ⟨a2,hl2⟩:∃a,(l.set y1 s1)[y2]? =some a:=⟨_,List.getElem?_eq_getElem (by rw [List.length_set]; omega)⟩
   obtain ⟨s2,hs2⟩:∃s2,a2-x.amount=s2:=⟨_,rfl⟩
   have hb1:=hbd a1 (List.mem_of_getElem? hl1)
   have hb2: -(60000*(k:Int)+30000)≤a2∧a2≤60000*k+30000:=by
    rcases List.mem_or_eq_of_mem_set (List.mem_of_getElem? hl2) with h | h
    ·have:=hbd a2 h; omega
    ·omega
   have e1:IntKind.i64.wrap (a1+x.amount)=s1:=by rw [←hs1]; exact IntWalk.i64_in _ (by omega)
   have e2:IntKind.i64.wrap (a2-x.amount)=s2:=by rw [←hs2]; exact IntWalk.i64_in _ (by omega)
   have HST:Hid (supT n1 (ts.take (k+1))=(l.set y1 s1).set y2 s2):=hide (by
    rw [supT_take hxk,HL.out]
    unfold supStep
    rw [hy1,hy2,Int.toNat_natCast,Int.toNat_natCast,zAt_some hl1,hs1,zAt_some hl2,hs2])
   have hcl1:=hR.get intC_len hl1 (j:=0) rfl
   simp only [Nat.mul_one,Nat.add_zero] at hcl1
   have hf:=hR.frozen y1
   have hR1:=(RowOf.set0 hR (fun x=>⟨_,rfl⟩) (d:=y1) (by omega) s1 (.int .i64 s1) rfl).drew
   have hle:=hR.lt
   have hX1:=(hx.setCell (p:=⟨w.heap.size+1,y1,none⟩) (by simp) (.int .i64 s1)).drew
   have hbw:b<w.heap.size:=hs.blk (b:=b) (by unfold blkOf; rw [if_neg (by omega)]; rfl)
   rw [hy1] at hc0
   rw [hy2] at hc1
   have hd1:=(hX1.cell b (off+k*4+1) (by simp; omega)).trans ((hx.cell b (off+k*4+1) (by simp; omega)).symm.trans hc1)
   have hd2:=(hX1.cell b (off+k*4+2) (by simp; omega)).trans ((hx.cell b (off+k*4+2) (by simp; omega)).symm.trans hc2)
   have HL2:=hide hl2
   clear hbd hl1 hl2 hs1 hs2 hb1 hb2 hxk HL hx hR
   go_wp2_with fail
   refine wp_region_phZ [(b,off+k*4),(w.heap.size+1,y1),(b,off+k*4+2)] [] [0,1,2,3,4,5,6,7,8,9,10,11,12,13,14,15,16,17,18,19,20] 21 (by kernel_rfl) (by kernel_rfl) (by intro c a w d v h; cases d <;> exact h) ?_
   simp only [wpPhZ,pickL,nthO]
   repeat (go_big_quiet_step (fail))
   refine wpQuiet_nil ?_
   set_option maxRecDepth 20000 in
   go_wp2_with fail
   generalize (wr.setCell ⟨w.heap.size+1,y1,none⟩ (.int .i64 s1)).drew=W at *
   have hf2:=hR1.frozen y2
   have hcl2:=hR1.get intC_len HL2.out (j:=0) rfl
   simp only [Nat.mul_one,Nat.add_zero] at hcl2
   have hle2:=hR1.lt
   have hR2:=RowOf.set0 (hR1.ext (Ext.refl _).drew) (fun x=>⟨_,rfl⟩) (d:=y2) (by rw [List.length_set]; omega) s2 (.int .i64 s2) rfl
   have hX2:=hX1.drew.setCell (p:=⟨w.heap.size+1,y2,none⟩) (by simp) (.int .i64 s2)
   clear hR1 hX1
   refine wp_region_phZ [(b,off+k*4+1),(w.heap.size+1,y2),(b,off+k*4+2)] [] [0,1,2,3,4,5,6,7,8,9,10,11,12,13,14,15,16,17,18,19,20] 21 (by kernel_rfl) (by kernel_rfl) (by intro c a w d v h; cases d <;> exact h) ?_
   simp only [wpPhZ,pickL,nthO]
   repeat (go_big_quiet_step (fail))
   refine wpQuiet_nil ?_
   set_option maxRecDepth 20000 in
   go_wp2_with fail
   go_roundw
   case rel=>exact ⟨k+1,by omega,by go_num,by rw [HST.out]; exact hR2,hX2⟩
   case measure=>simp [intOf]; omega
  ·have HE:Hid (l=supT n1 ts):=hide (by rw [←HL.out,List.take_of_length_le (by rw [←hs.len]; omega)])
   have hle:=hR.lt
   go_wp2_with fail
   go_ret
   have hO:=OwnL.of_row hR intC_len (base:=w.heap.size) (by omega) (by omega)
   rw [hll] at hO
   exact ⟨_,l,rfl,hO,HE,hx0.trans hx⟩
set_option maxHeartbeats 1000000 in
theorem c_l24Scale (A:Option Addr) (n c:Nat) (ts:List Trn) (B:Option Addr) (d:Nat) (sc:List Int) (w:World) (hs:SliceOf w 4 Trn.cells A n c ts) (hsc:SliceOf w 1 intC B 4 d sc) (hn:n≤100000) (N:Nat) (hb:∀x∈ts,TrnB N 30000 x) (hi:ScaleIn sc):
  Calls Tryz.prog 104 #[.slice A n c,.slice B 4 d] w (RetT (fun E=>E=ts.map (scaleT sc)) w):=by
 have HB:=hide hb
 have HI:=hide hi
 clear hb hi
 have hO0:OwnL (w.alloc (.cells #[] 201)) w.heap.size 201 4 Trn.cells (.slice (some ⟨w.heap.size,0,none⟩) 0 0) []:=own_new w w.heap.size _ _ _ _ rfl (Nat.le_refl _)
 go_enter Tryz.func104,Tryz.ntmps104
 go_wp2_with fail
 go_loopw [5,6] (fun v i wr=>∃(k:Nat) (L:List Trn),k≤n∧i= .int .i64 k∧L.length=k∧Hid (L=(ts.take k).map (scaleT sc))∧OwnL wr w.heap.size 201 4 Trn.cells v L∧Ext w wr) (fun _ i _=>n-(intOf i).toNat)
 case atStart=>exact ⟨0,[],Nat.zero_le _,rfl,rfl,hide rfl,hO0,Ext.alloc _ _⟩
 case round=>
  clear hO0
  obtain ⟨k,L,hk,rfl,hLk,HL,ho,hx⟩:=hrel
  by_cases hlt:k<n
  ·obtain ⟨b,off,x,hA,hb,hxk,hc⟩:=(hs.ext hx).get hlt
   have hc0:=hc 0 _ rfl
   have hc1:=hc 1 _ rfl
   have hc2:=hc 2 _ rfl
   have hc3:=hc 3 _ rfl
   clear hc
   subst hA
   simp only [Nat.add_zero] at hc0
   have HOB:Hid (∀j,u5.ownBlock=some j→w.heap.size≤j∧j<wr.heap.size):=hide (fun j hj=>⟨ho.block_le hj,(ho.ltG hj).2⟩)
   have hxb:=HB.out x (List.mem_of_getElem? hxk)
   obtain ⟨-,-,⟨ha0,ha1⟩,⟨hk0,hk1⟩⟩:=hxb
   obtain ⟨y,hy⟩:∃y:Nat,x.cls=y:=⟨x.cls.toNat,by omega⟩
   have hyn:y<4:=by omega
   obtain ⟨bs,os,s,hB,hbs,hsk,hcs⟩:=(hsc.ext hx).get hyn
   have hcs0:=hcs 0 _ rfl
   clear hcs
   subst hB
   have hbsw:bs<w.heap.size:=hsc.blk (b:=bs) rfl
   simp only [Nat.add_zero,Nat.mul_one] at hcs0
   have hsb:=HI.out.2 s (List.mem_of_getElem? hsk)
   obtain ⟨p1,p2,p3,p4⟩:=scale_le ⟨ha0,ha1⟩ hsb
   have e1:IntKind.i64.wrap (x.amount*s)=x.amount*s:=IntWalk.i64_in _ (by omega)
   have HST:Hid ((ts.take (k+1)).map (scaleT sc)=L++[⟨x.entry,x.exit_,(x.amount*s).tdiv 100,y⟩]):=hide (by
    rw [List.take_add_one,hxk,List.map_append, ←HL.out,Option.toList_some,List.map_singleton]
    unfold scaleT
    rw [hy,Int.toNat_natCast,zAt_some hsk])
   rw [hy] at hc3
   clear hxk hsk
   obtain ⟨q,hq⟩:∃q,(x.amount*s).tdiv 100=q:=⟨_,rfl⟩
   rw [hq] at p3 p4 HST
   have e2:IntKind.i64.wrap q=q:=IntWalk.i64_in _ (by omega)
   go_wp2_with fail
   have hbx:=Row.new wr 201 [.int .i64 x.entry,.int .i64 x.exit_,.int .i64 x.amount,.int .i64 y]
   have hx1:Ext wr (wr.alloc (.cells #[.int .i64 x.entry,.int .i64 x.exit_,.int .i64 x.amount,.int .i64 y] 201)):=Ext.alloc _ _
   generalize (wr.alloc (.cells #[.int .i64 x.entry,.int .i64 x.exit_,.int .i64 x.amount,.int .i64 y] 201))=W1 at *
   have hcs1:=(hx1.cell _ _ hbs).trans hcs0
   have hbs1:=Nat.lt_of_lt_of_le hbs hx1.size
   have q0:=hbx.cell 0
   have q1:=hbx.cell 1
   have q2:=hbx.cell 2
   have q3:=hbx.cell 3
   simp at q0 q1 q2 q3
   have hbl:=hbx.lt
   have hbf:=hbx.frozen
   have ho1:=ho.ext hx1
   have hX1:=hx.trans hx1
   clear hx ho hcs0 hbs hx1 hb hc0 hc1 hc2 hc3
   refine wp_region_phC [(wr.heap.size,0),(wr.heap.size,1),(wr.heap.size,2),(wr.heap.size,3),(bs,os+y)] [([0,1,2,3,4,5,6,7,8,9,10,11,12,13,14,15,16],17),([],18)] [19] (by kernel_rfl) (by kernel_rfl) (by intro c a w d v h; cases d <;> exact h) ?_
   simp only [wpPhC,pickL,nthO]
   repeat (go_big_quiet_step (fail))
   refine wpQuiet_nil ?_
   go_wp2_with fail
   obtain ⟨W,HW⟩:∃W,Hid ((W1.alloc (.cells #[.int .i64 x.entry,.int .i64 x.exit_,.int .i64 q,.int .i64 y] 201)).drew=W):=⟨_,hide rfl⟩
   rw [HW.out]
   have hxa:Ext W1 W:=by rw [←HW.out]; exact ((Ext.refl W1).and_alloc _).drew
   have hWz:w.heap.size≤W.heap.size:=by have:=hxa.size; have:=hX1.size; omega
   have hWn:SliceOf W 4 Trn.cells (some ⟨W1.heap.size,0,none⟩) 1 1 [⟨x.entry,x.exit_,q,y⟩]:=by rw [←HW.out]; exact (new_trn W1 ⟨x.entry,x.exit_,q,y⟩ rfl).ext (Ext.refl _).drew
   refine ⟨SameC.of_ext hxa (by simp; omega),wpQuiet_nil ?_⟩
   go_wp2_with (at_builtin; go_must (refine wpList_append_where rfl _ _ 118 rfl w.heap.size 201 _ 4 32 Tryz.underlying118 trn_info rfl (by decide) Trn.cells trn_len trn_one _ L rfl (ho1.ext hxa) W1.heap.size 0 1 1 [⟨x.entry,x.exit_,q,y⟩] rfl hWn (by omega) (by omega) hWz ?_))
   intro v2 w2 ho2 hg2 _
   have hx2:=(hX1.trans hxa).grown hg2 (fun k hk=>ho1.block_le hk)
   have hxz:=hxa.size
   have hsm:SameC [(wr.heap.size,0),(wr.heap.size,1),(wr.heap.size,2),(wr.heap.size,3),(bs,os+y)] W1 w2:=by
    intro p hp
    simp only [List.mem_cons,List.not_mem_nil,or_false] at hp
    have hne:p.1<W1.heap.size∧∀j,u5.ownBlock=some j→p.1≠j:=by
     rcases hp with rfl | rfl | rfl | rfl | rfl <;> exact ⟨by first | exact hbl | exact hbs1,fun j hj=>by have:=HOB.out j hj; show _≠j; omega⟩
    exact (World.cell?_of_block (w:=W) (hg2.block p.1 (by omega) (fun e=>hne.2 p.1 e.symm rfl))).trans (hxa.cell _ _ hne.1)
   rw [←HST.out] at ho2
   clear ho1 hg2 hxa hX1 hbx hbf hcs1 q0 q1 q2 q3
   go_wp2_with fail
   refine ⟨hsm,?_⟩
   repeat (go_big_quiet_step (fail))
   refine wpQuiet_nil ?_
   go_wp2_with fail
   go_roundw
   case rel=>exact ⟨k+1,_,by omega,by go_num,by rw [List.length_map,List.length_take]; have:=hs.len; omega,hide rfl,ho2,hx2⟩
   case measure=>simp [intOf]; omega
  ·go_wp2_with fail
   go_ret
   exact ⟨_,L,rfl,ho,hide (by rw [HL.out,List.take_of_length_le (by rw [←hs.len]; omega)]),hx⟩
end Go.Proofs.YtfkpghdmljjegaaGreat
namespace Go.Proofs.YtfkpghdmljjegaaGreat
open Go.RowKit
theorem amt_step {nb:Nat} {L:List Nomination} {h:Int} {k:Nat} {x:Nomination} (hk:L[k]? =some x):amtL nb (L.take (k+1)) h=if x.hour=h then (amtL nb (L.take k) h).set x.contract.toNat x.amount else amtL nb (L.take k) h:=by
 rw [amtL_take hk]; rfl
set_option maxHeartbeats 1000000 in
theorem c_l21Amounts (A:Option Addr) (n c:Nat) (B:Option Addr) (m d:Nat) (L:List Nomination) (w:World) (hL:SliceOf w 4 Nomination.cells B m d L) (hn:n≤100000) (hin:∀x∈L,0≤x.contract∧x.contract<n) (h:Int):
  Calls Tryz.prog 177 #[.slice A n c,.slice B m d,.int .i64 h] w (RetI (fun E=>E=amtL n L h) w):=by
 have hmk:=fun W=>run_make_flat (P:=Tryz.prog) 24 2 _ _ 1 8 Tryz.underlying24 int_info (f:=intC) 0 rfl rfl rfl (by omega) n (by omega) (by omega) W
 have HIN:=hide hin
 have hmx:=hL.max
 have hcp:=hL.cap
 clear hin
 go_enter Tryz.func177,Tryz.ntmps177
 go_wp2_with fail
 go_loopw [8] (fun i wr=>∃k:Nat,k≤m∧i= .int .i64 k∧RowOf wr w.heap.size 2 intC (amtL n (L.take k) h)∧Ext w wr) (fun i _=>m-(intOf i).toNat)
 case atStart=>exact ⟨0,Nat.zero_le _,rfl,Row.newG _ _ (by simp),Ext.alloc _ _⟩
 case round=>
  obtain ⟨k,hk,rfl,hR,hx⟩:=hrel
  obtain ⟨E,HE⟩:∃E,Hid (amtL n (L.take k) h=E):=⟨_,hide rfl⟩
  have hel:E.length=n:=by rw [←HE.out]; exact amtL_len _
  rw [HE.out] at hR
  have hle:=hR.lt
  by_cases hlt:k<m
  ·obtain ⟨b,off,x,rfl,hb,hxk,hc⟩:=(hL.ext hx).get hlt
   have hc0:=hc 0 _ rfl
   have hc1:=hc 1 _ rfl
   have hc2:=hc 2 _ rfl
   have hc3:=hc 3 _ rfl
   clear hc
   simp only [Nat.add_zero] at hc0
   have hxi:=HIN.out x (List.mem_of_getElem? hxk)
   obtain ⟨y,hy⟩:∃y:Nat,x.contract=y:=⟨x.contract.toNat,by omega⟩
   have hyn:y<n:=by omega
   rw [hy] at hc0
   have HST:=hide (amt_step (nb:=n) (h:=h) hxk)
   clear hxk hxi
   cases e0:(x.hour==h)
   ·have HS1:=hide (show amtL n (L.take (k+1)) h=E by rw [HST.out,if_neg (by simpa using e0)]; exact HE.out)
    clear HST HE
    go_wp2_with fail
    go_roundw
    case rel=>exact ⟨k+1,by omega,by go_num,by rw [HS1.out]; exact hR,hx⟩
    case measure=>simp [intOf]; omega
   ·have HS1:=hide (show amtL n (L.take (k+1)) h=E.set y x.amount by rw [HST.out,if_pos (by simpa using e0),HE.out,hy,Int.toNat_natCast])
    clear HST HE
    obtain ⟨u,hu⟩:=hR.there intC_len (i:=y) (by omega) (j:=0) (by omega)
    simp only [Nat.mul_one,Nat.add_zero] at hu
    have hf:=hR.frozen y
    have hN:=RowOf.set0 (hR.ext (Ext.refl _).drew) (fun x=>⟨_,rfl⟩) (d:=y) (by omega) x.amount (.int .i64 x.amount) rfl
    have hx2:=hx.drew.setCell (p:=⟨w.heap.size,y,none⟩) (by simp) (.int .i64 x.amount)
    clear hR hx
    go_wp2_with fail
    refine wp_region_phZ [(b,off+k*4),(b,off+k*4+3)] [] [0,1,2,3,4,5,6,7,8,9,10,11] 12 (by kernel_rfl) (by kernel_rfl) (by intro c a w d v h; cases d <;> exact h) ?_
    simp only [wpPhZ,pickL,nthO]
    repeat (go_big_quiet_step (fail))
    refine wpQuiet_nil ?_
    set_option maxRecDepth 20000 in
    go_wp2_with fail
    go_roundw
    case rel=>exact ⟨k+1,by omega,by go_num,by rw [HS1.out]; exact hN,hx2⟩
    case measure=>simp [intOf]; omega
  ·have HS1:=hide (show E=amtL n L h by rw [←HE.out,List.take_of_length_le (by rw [←hL.len]; omega)])
   go_wp2_with fail
   go_ret
   have hO:=OwnL.of_row hR intC_len (base:=w.heap.size) (by omega) (by omega)
   rw [hel] at hO
   exact ⟨_,E,rfl,hO,HS1,hx⟩
set_option maxHeartbeats 1000000 in
theorem c_amountsIn (A:Option Addr) (n c:Nat) (B:Option Addr) (m d:Nat) (L:List Nomination) (w:World) (hL:SliceOf w 4 Nomination.cells B m d L) (hn:n≤100000) (hin:∀x∈L,0≤x.contract∧x.contract<n) (h:Int):
  Calls Tryz.prog 217 #[.slice A n c,.slice B m d,.int .i64 h] w (RetI (fun E=>E=amtL n L h) w):=by
 have hmk:=fun W=>run_make_flat (P:=Tryz.prog) 24 2 _ _ 1 8 Tryz.underlying24 int_info (f:=intC) 0 rfl rfl rfl (by omega) n (by omega) (by omega) W
 have HIN:=hide hin
 have hmx:=hL.max
 have hcp:=hL.cap
 clear hin
 go_enter Tryz.func217,Tryz.ntmps217
 go_wp2_with fail
 go_loopw [15] (fun i wr=>∃k:Nat,k≤m∧i= .int .i64 k∧RowOf wr w.heap.size 2 intC (amtL n (L.take k) h)∧Ext w wr) (fun i _=>m-(intOf i).toNat)
 case atStart=>exact ⟨0,Nat.zero_le _,rfl,Row.newG _ _ (by simp),Ext.alloc _ _⟩
 case round=>
  obtain ⟨k,hk,rfl,hR,hx⟩:=hrel
  obtain ⟨E,HE⟩:∃E,Hid (amtL n (L.take k) h=E):=⟨_,hide rfl⟩
  have hel:E.length=n:=by rw [←HE.out]; exact amtL_len _
  rw [HE.out] at hR
  have hle:=hR.lt
  by_cases hlt:k<m
  ·obtain ⟨b,off,x,rfl,hb,hxk,hc⟩:=(hL.ext hx).get hlt
   have hc0:=hc 0 _ rfl
   have hc1:=hc 1 _ rfl
   have hc2:=hc 2 _ rfl
   have hc3:=hc 3 _ rfl
   clear hc
   simp only [Nat.add_zero] at hc0
   have hxi:=HIN.out x (List.mem_of_getElem? hxk)
   obtain ⟨y,hy⟩:∃y:Nat,x.contract=y:=⟨x.contract.toNat,by omega⟩
   have hyn:y<n:=by omega
   rw [hy] at hc0
   have HST:=hide (amt_step (nb:=n) (h:=h) hxk)
   clear hxk hxi
   cases e0:(x.hour==h)
   ·have HS1:=hide (show amtL n (L.take (k+1)) h=E by rw [HST.out,if_neg (by simpa using e0)]; exact HE.out)
    clear HST HE
    go_wp2_with fail
    go_roundw
    case rel=>exact ⟨k+1,by omega,by go_num,by rw [HS1.out]; exact hR.ext (Ext.alloc _ _),hx.and_alloc _⟩
    case measure=>simp [intOf]; omega
   ·have HS1:=hide (show amtL n (L.take (k+1)) h=E.set y x.amount by rw [HST.out,if_pos (by simpa using e0),HE.out,hy,Int.toNat_natCast])
    clear HST HE
    obtain ⟨u,hu⟩:=hR.there intC_len (i:=y) (by omega) (j:=0) (by omega)
    simp only [Nat.mul_one,Nat.add_zero] at hu
    have hf:=hR.frozen y
    go_wp2_with fail
    go_roundw
    case rel=>exact ⟨k+1,by omega,by go_num,by rw [HS1.out]; exact (RowOf.set0 hR (fun x=>⟨_,rfl⟩) (d:=y) (by omega) x.amount (.int .i64 x.amount) rfl).ext (Ext.alloc _ _),(hx.setCell (p:=⟨w.heap.size,y,none⟩) (by simp) (.int .i64 x.amount)).and_alloc _⟩
    case measure=>simp [intOf]; omega
  ·have HS1:=hide (show E=amtL n L h by rw [←HE.out,List.take_of_length_le (by rw [←hL.len]; omega)])
   go_wp2_with fail
   go_ret
   have hO:=OwnL.of_row hR intC_len (base:=w.heap.size) (by omega) (by omega)
   rw [hel] at hO
   exact ⟨_,E,rfl,hO,HS1,hx⟩
end Go.Proofs.YtfkpghdmljjegaaGreat
