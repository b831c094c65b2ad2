/-
  A region that draws its order, where operations that only make memory may come up in any order: each of them is walked once, in any world that has grown from the first.
-/
import Derived.Test.YtinindjjapblcaaGreatDoorWa01
import Derived.Test.YtinindjjapblcaaGreatDoorWa00
namespace Go.Proofs.YtinindjjapblcaaGreatDoor
open Go.RowKit
def putAll (a:Act):List Oper→List Value→Act
 | o::os,t::ts=>putAll (a.put o.dst t) os ts
 | _,_=>a
def nthV:List Value→Nat→Value
 | [],_=>undef
 | v::_,0=>v
 | _::l,n+1=>nthV l n
def nthD:List (List Nat)→Nat→List Nat
 | [],_=>[]
 | v::_,0=>v
 | _::l,n+1=>nthD l n
def nthK:List (Value→World→Prop)→Nat→Value→World→Prop
 | [],_=>fun _ _=>True
 | k::_,0=>k
 | _::l,n+1=>nthK l n
def sepD:List Oper→Bool
 | []=>true
 | o::os=>(o.dst.isNone||os.all (fun p=>p.dst != o.dst))&&sepD os
theorem put_same (a:Act) (d:Option Tmp) (u v:Value):(a.put d u).put d v=a.put d v:=by
 cases d with
 | none=>rfl
 | some d=>simp [Act.put,Array.setIfInBounds_setIfInBounds]
theorem put_swap (a:Act) (d e:Option Tmp) (u v:Value) (h:e≠d):(a.put d u).put e v=(a.put e v).put d u:=by
 cases d with
 | none=>rfl
 | some d=>
  cases e with
  | none=>rfl
  | some e=>
   have hne:d≠e:=fun h'=>h (by rw [h'])
   simp only [Act.put]
   congr 1
   exact Array.setIfInBounds_comm _ _ hne
theorem putAll_put_ne (d:Tmp) (v:Value):∀(os:List Oper) (ts:List Value) (a:Act),(∀p∈os,p.dst≠some d)→(putAll a os ts).put (some d) v=putAll (a.put (some d) v) os ts:=by
 intro os
 induction os with
 | nil=>intro ts a _; cases ts <;> rfl
 | cons o os ih=>
  intro ts a h
  cases ts with
  | nil=>rfl
  | cons t ts=>
   simp only [putAll]
   rw [ih ts _ (fun p hp=>h p (by simp [hp])),put_swap a o.dst (some d) t v (fun e=>h o (by simp) e.symm)]
theorem putAll_put (v:Value):∀(os:List Oper) (ts:List Value) (a:Act) (i:Nat),sepD os=true→i<os.length→os.length=ts.length→(putAll a os ts).put (nthO os i).dst v=putAll a os (ts.set i v):=by
 intro os
 induction os with
 | nil=>intro ts a i _ hi; simp at hi
 | cons o os ih=>
  intro ts a i hs hi hl
  cases ts with
  | nil=>simp at hl
  | cons t ts=>
   simp only [sepD,Bool.and_eq_true,Bool.or_eq_true] at hs
   cases i with
   | zero=>
    simp only [nthO,List.set_cons_zero,putAll]
    cases hd:o.dst with
    | none=>rfl
    | some d=>
     have hne:∀p∈os,p.dst≠some d:=by
      rcases hs.1 with h | h
      ·rw [hd] at h; simp at h
      ·intro p hp
       have:=List.all_eq_true.1 h p hp
       rw [hd] at this
       simpa using this
     rw [putAll_put_ne d v os ts _ hne,put_same]
   | succ i=>
    simp only [nthO,List.set_cons_succ,putAll]
    exact ih ts _ i hs.2 (by simpa using hi) (by simpa using hl)
def ownV (a:Act) (o:Oper):Value:=match o.dst with | some d=>a.tmps.getD d undef | none=>undef
theorem put_own (a:Act) (o:Oper):a.put o.dst (ownV a o)=a:=by
 unfold ownV
 cases o.dst with
 | none=>rfl
 | some d=>
  simp only [Act.put]
  cases a
  congr 1
  apply Array.ext_getElem?
  intro i
  simp only [Array.getElem?_setIfInBounds,Array.getD_eq_getD_getElem?]
  split
  ·rename_i h
   subst h
   split
   ·rename_i h'; rw [Array.getElem?_eq_getElem h']; rfl
   ·rename_i h'; rw [Array.getElem?_eq_none (by omega)]
  ·rfl
theorem putAll_own (a:Act):∀os:List Oper,putAll a os (os.map (ownV a))=a:=by
 intro os
 induction os with
 | nil=>rfl
 | cons o os ih=>simp only [List.map_cons,putAll,put_own]; exact ih
theorem nthV_set_same {v:Value}:∀ {ts:List Value} {i:Nat},i<ts.length→nthV (ts.set i v) i=v
 | [],_,h=>by simp at h
 | _::_,0,_=>rfl
 | _::ts,i+1,h=>nthV_set_same (ts:=ts) (by simpa using h)
theorem nthV_set_ne {v:Value}:∀ {ts:List Value} {i j:Nat},i≠j→nthV (ts.set i v) j=nthV ts j
 | [],_,_,_=>rfl
 | _::_,0,0,h=>absurd rfl h
 | _::_,0,_+1,_=>rfl
 | _::_,_+1,0,_=>rfl
 | _::ts,i+1,j+1,h=>nthV_set_ne (ts:=ts) (fun e=>h (by rw [e]))
def holdsL (K:Nat→Value→World→Prop) (ts:List Value) (w:World):List Nat→Prop
 | []=>True
 | d::ds=>K d (nthV ts d) w∧holdsL K ts w ds
theorem holdsL_of {K:Nat→Value→World→Prop} {ts:List Value} {w:World}:∀ {ds:List Nat},(∀d∈ds,K d (nthV ts d) w)→holdsL K ts w ds
 | [],_=>trivial
 | d::_,h=>⟨h d (by simp),holdsL_of fun d' hd=>h d' (by simp [hd])⟩
def stepsM (P:Program) (l:List Oper) (Q:Exit→Act→World→Prop) (K:Nat→Value→World→Prop) (D:List (List Nat)) (w0:World) (a0:Act):List Nat→Prop
 | []=>True
 | i::is=>(∀(ts:List Value) (w:World),ts.length=l.length→Ext w0 w→holdsL K ts w (nthD D i)→
   wpList P l.toArray (Exit.then (fun a' w'=>Ext w w'∧∃v,a'=(putAll a0 l ts).put (nthO l i).dst v∧K i v w') Q) [nthO l i] (putAll a0 l ts) w)∧stepsM P l Q K D w0 a0 is
theorem stepsM_at {P:Program} {l:List Oper} {Q:Exit→Act→World→Prop} {K:Nat→Value→World→Prop} {D:List (List Nat)} {w0:World} {a0:Act}:∀ {is:List Nat},stepsM P l Q K D w0 a0 is→∀i∈is,∀(ts:List Value) (w:World),ts.length=l.length→Ext w0 w→holdsL K ts w (nthD D i)→
   wpList P l.toArray (Exit.then (fun a' w'=>Ext w w'∧∃v,a'=(putAll a0 l ts).put (nthO l i).dst v∧K i v w') Q) [nthO l i] (putAll a0 l ts) w
 | [],_,i,hi=>by cases hi
 | j::is,h,i,hi=>by
  rcases List.mem_cons.1 hi with rfl | hi
  ·exact h.1
  ·exact stepsM_at h.2 i hi
def bnd (md:Region.Mode) (l:List Oper) (i:Nat):List Nat:=((nthO l i).after.toList.filter (Region.binds md)).map (·.on)
def okM (md:Region.Mode) (l:List Oper) (M:List Nat) (D:List (List Nat)) (tail:PhT):Bool:=
 sepD l&&M.all (fun i=>decide (i<l.length)&&(bnd md l i).all (fun e=>decide (e<i)&&M.contains e))
 &&(List.range l.length).all (fun i=>(nthD D i).all (fun d=>(bnd md l i).any (fun e=>e==d||(nthD D e).contains d))&&(M.contains i||M.all (fun m=>(nthD D i).contains m)))
 &&decide M.Nodup&&decide (M.length+tail.len=l.length)&&okT md l tail ((List.range l.length).map (fun i=>M.contains i)).toArray
theorem filter_less {p p':Nat→Bool}:∀ {M:List Nat} {i:Nat},M.Nodup→i∈M→p i=true→p' i=false→(∀j,j≠i→p' j=p j)→(M.filter p').length+1=(M.filter p).length
 | [],_,_,h,_,_,_=>by cases h
 | m::M,i,hn,hm,h1,h2,h3=>by
  rw [List.nodup_cons] at hn
  by_cases e:i=m
  ·subst e
   have:M.filter p'=M.filter p:=List.filter_congr (fun j hj=>h3 j (fun e=>hn.1 (e ▸ hj)))
   rw [List.filter_cons_of_neg (by simp [h2]),List.filter_cons_of_pos h1,this]
   rfl
  ·have hm':i∈M:=by rcases List.mem_cons.1 hm with h | h; exact absurd h e; exact h
   have ih:=filter_less hn.2 hm' h1 h2 h3
   have hpm:=h3 m (fun h=>e h.symm)
   by_cases hp:p m=true
   ·rw [List.filter_cons_of_pos (by rw [hpm]; exact hp),List.filter_cons_of_pos hp]; simp; omega
   ·rw [List.filter_cons_of_neg (by rw [hpm]; exact hp),List.filter_cons_of_neg hp]; exact ih
theorem mem_bnd {md:Region.Mode} {l:List Oper} {i e:Nat}:e∈bnd md l i↔∃x∈(nthO l i).after,Region.binds md x=true∧x.on=e:=by
 unfold bnd
 simp only [List.mem_map,List.mem_filter,Array.mem_toList_iff]
 constructor
 ·rintro ⟨x,⟨h1,h2⟩,h3⟩; exact ⟨x,h1,h2,h3⟩
 ·rintro ⟨x,h1,h2,h3⟩; exact ⟨x,⟨h1,h2⟩,h3⟩
theorem ready_iff {md:Region.Mode} {l:List Oper} {listed:Array Bool} {i:Nat} (hi:i<l.length):i∈Region.ready md l.toArray listed↔listed.getD i true=false∧∀e∈bnd md l i,listed.getD e false=true:=by
 rw [mem_ready]
 have hs:l.toArray[i]? =some (nthO l i):=by simpa using nthO_some hi
 constructor
 ·rintro ⟨h1,o,ho,h2⟩
  rw [hs] at ho
  injection ho with ho
  subst ho
  refine ⟨h1,fun e he=> ?_⟩
  obtain ⟨x,hx,hb,rfl⟩:=mem_bnd.1 he
  exact h2 x hx hb
 ·rintro ⟨h1,h2⟩
  exact ⟨h1,_,hs,fun x hx hb=>h2 _ (mem_bnd.2 ⟨x,hx,hb,rfl⟩)⟩
structure InvM (l:List Oper) (K:Nat→Value→World→Prop) (D:List (List Nat)) (M:List Nat) (w0:World) (a0:Act) (listed:Array Bool) (a:Act) (w:World):Prop where
 size:listed.size=l.length
 sub:∀i,listed.getD i false=true→i∈M
 down:∀i,listed.getD i false=true→∀d∈nthD D i,listed.getD d false=true
 val:∃ts:List Value,ts.length=l.length∧a=putAll a0 l ts∧∀i,listed.getD i false=true→K i (nthV ts i) w
 ext:Ext w0 w
theorem getD_true {listed:Array Bool} {i:Nat} (h:i<listed.size):listed.getD i true=listed.getD i false:=by simp [Array.getD,h]
theorem getD_lt {listed:Array Bool} {i:Nat} (h:listed.getD i false=true):i<listed.size:=by
 rcases Nat.lt_or_ge i listed.size with h' | h'
 ·exact h'
 ·simp [Array.getD,Nat.not_lt.2 h'] at h
theorem getD_set {listed:Array Bool} {i j:Nat} (h:i<listed.size) (b:Bool):(listed.setIfInBounds i true).getD j b=if i=j then true else listed.getD j b:=by
 by_cases e:i=j
 ·subst e; simp [Array.getD,h]
 ·rw [if_neg e,Array.getD_eq_getD_getElem?,Array.getD_eq_getD_getElem?,Array.getElem?_setIfInBounds_ne e]
section
variable {P:Program} {md:Region.Mode} {l:List Oper} {Q:Exit→Act→World→Prop} {K:Nat→Value→World→Prop} {D:List (List Nat)} {M:List Nat} {tail:PhT} {w0:World} {a0:Act} {bs:List (Nat×Nat)}
theorem wpAny_M (hs:Region.noSelect l.toArray=true) (hQ:∀c a w d v,Q (.panic c) (a.put d v) w→Q (.panic c) a w) (hok:okM md l M D tail=true) (hK:∀i v w w',K i v w→Ext w w'→K i v w') (hst:stepsM P l Q K D w0 a0 M) (hbs:∀q∈bs,q.1<w0.heap.size)
  (hend:∀(ts:List Value) (w:World),ts.length=l.length→Ext w0 w→holdsL K ts w M→wpPhT P l Q bs w0 tail (putAll a0 l ts) w):
  ∀(k:Nat) (listed:Array Bool) (a:Act) (w:World),(M.filter fun i=> !listed.getD i true).length=k→InvM l K D M w0 a0 listed a w→wpAny P md l.toArray Q (k+tail.len) listed a w:=by
 have hok':=hok
 simp only [okM,Bool.and_eq_true,List.all_eq_true,List.any_eq_true,decide_eq_true_eq,beq_iff_eq,Bool.or_eq_true,List.contains_iff_mem,List.mem_range] at hok'
 obtain ⟨⟨⟨⟨⟨o1,o2⟩,o3⟩,o4⟩,o5⟩,o6⟩:=hok'
 intro k
 induction k with
 | zero=>
  intro listed a w hk hI
  obtain ⟨ts,ht1,rfl,ht2⟩:=hI.val
  have hall:∀i∈M,listed.getD i false=true:=fun i hi=>by
   have h0:=List.length_eq_zero_iff.1 hk
   rw [List.filter_eq_nil_iff] at h0
   have:=h0 i hi
   rw [getD_true (by rw [hI.size]; exact (o2 i hi).1)] at this
   simpa using this
  have hl:listed=((List.range l.length).map (fun i=>M.contains i)).toArray:=by
   apply Array.ext
   ·simp [hI.size]
   ·intro i h1 h2
    have e1:listed[i]=listed.getD i false:=by simp [Array.getD,h1]
    rw [e1]
    simp only [List.getElem_toArray,List.getElem_map,List.getElem_range]
    by_cases hm:i∈M
    ·rw [hall i hm]; simpa using hm
    ·have:listed.getD i false=false:=by
      cases hb:listed.getD i false
      ·rfl
      ·exact absurd (hI.sub i hb) hm
     rw [this]; simpa using hm
  have:=wpAnyC_phT (P:=P) (md:=md) (bs:=bs) (w0:=w0) hs hQ tail listed (putAll a0 l ts) w (SameC.of_ext hI.ext hbs) (by rw [hl]; exact o6) (hend ts w ht1 hI.ext (holdsL_of fun d hd=>ht2 d (hall d hd)))
  rw [Nat.zero_add]
  exact wpAny_of_held _ _ _ _ this
 | succ k ih=>
  intro listed a w hk hI
  have hmiss:∃m∈M,listed.getD m false=false:=by
   have:(M.filter fun i=> !listed.getD i true)≠[]:=fun h=>by rw [h] at hk; simp at hk
   obtain ⟨m,hm⟩:=List.exists_mem_of_ne_nil _ this
   rw [List.mem_filter] at hm
   refine ⟨m,hm.1,?_⟩
   have h:=hm.2
   rw [getD_true (by rw [hI.size]; exact (o2 m hm.1).1)] at h
   simpa using h
  have hne:Region.ready md l.toArray listed≠[]:=by
   obtain ⟨m,hm,hf⟩:=hmiss
   have go:∀(n m:Nat),m<n→m∈M→listed.getD m false=false→Region.ready md l.toArray listed≠[]:=by
    intro n
    induction n with
    | zero=>intro m h; omega
    | succ n ihn=>
     intro m hmn hm hf
     by_cases hd:∀e∈bnd md l m,listed.getD e false=true
     ·intro h0
      have:m∈Region.ready md l.toArray listed:=(ready_iff (o2 m hm).1).2 ⟨by rw [getD_true (by rw [hI.size]; exact (o2 m hm).1)]; exact hf,hd⟩
      rw [h0] at this
      cases this
     ·simp only [Classical.not_forall] at hd
      obtain ⟨e,he,hne⟩:=hd
      have:=(o2 m hm).2 e he
      exact ihn e (by omega) this.2 (by simpa using hne)
   exact go (m+1) m (by omega) hm hf
  rw [Nat.add_right_comm]
  refine ⟨fun h=>absurd h hne,fun i hi=> ?_⟩
  have hil:i<l.length:=by
   have:=(mem_ready.1 hi)
   obtain ⟨_,o,ho,_⟩:=this
   simpa using (Array.getElem?_eq_some_iff.1 ho).1
  obtain ⟨r1,r2⟩:=(ready_iff hil).1 hi
  have hdl:∀d∈nthD D i,listed.getD d false=true:=fun d hd=>by
   obtain ⟨e,he,h⟩:=(o3 i hil).1 d hd
   rcases h with h | h
   ·subst h; exact r2 e he
   ·exact hI.down e (r2 e he) d h
  have hiM:i∈M:=by
   rcases (o3 i hil).2 with h | h
   ·exact h
   ·obtain ⟨m,hm,hf⟩:=hmiss
    rw [hdl m (h m hm)] at hf
    cases hf
  obtain ⟨ts,ht1,rfl,ht2⟩:=hI.val
  have hstep:=stepsM_at hst i hiM ts w ht1 hI.ext (holdsL_of fun d hd=>ht2 d (hdl d hd))
  refine wpOp_mono (fun a' w' h'=> ?_) (wpOp_one hil hstep)
  obtain ⟨hx,v,rfl,hv⟩:=h'
  have hsz:i<listed.size:=by rw [hI.size]; exact hil
  refine ih _ _ _ ?_ ⟨by simp [hI.size],?_,?_,⟨ts.set i v,by simp [ht1],putAll_put v l ts a0 i o1 hil ht1.symm,?_⟩,hI.ext.trans hx⟩
  ·have:=filter_less (p:=fun j=> !listed.getD j true) (p':=fun j=> !(listed.setIfInBounds i true).getD j true) o4 hiM (by simpa using r1) (by simp [getD_set hsz]) (fun j hj=>by simp only [getD_set hsz,if_neg (Ne.symm hj)])
   omega
  ·intro j hj
   rw [getD_set hsz] at hj
   split at hj
   ·rename_i e; subst e; exact hiM
   ·exact hI.sub j hj
  ·intro j hj d hd
   rw [getD_set hsz] at hj ⊢
   split
   ·rfl
   ·split at hj
    ·rename_i e; subst e; exact hdl d hd
    ·exact hI.down j hj d hd
  ·intro j hj
   rw [getD_set hsz] at hj
   split at hj
   ·rename_i e; subst e; rw [nthV_set_same (by rw [ht1]; exact hil)]; exact hv
   ·rename_i e; rw [nthV_set_ne e]; exact hK _ _ _ _ (ht2 j hj) hx
theorem wp_region_M {id:Nat} {a:Act} {w:World} (K:Nat→Value→World→Prop) (M:List Nat) (D:List (List Nat)) (bs:List (Nat×Nat)) (tail:PhT) (hm:P.follows .mixedOrders=true) (hc:(Region.noSelect l.toArray&&okM .any l M D tail)=true) (hQ:∀c a w d v,Q (.panic c) (a.put d v) w→Q (.panic c) a w)
  (hbs:∀q∈bs,q.1<w.heap.size) (hK:∀i v w w',K i v w→Ext w w'→K i v w') (hst:stepsM P l Q K D w a M)
  (hend:∀(ts:List Value) (w':World),ts.length=l.length→Ext w w'→holdsL K ts w' M→wpPhT P l Q bs w tail (putAll a l ts) w'):(Code.region id l.toArray true).wp P Q a w:=by
 simp only [Bool.and_eq_true] at hc
 have hok:=hc.2
 simp only [okM,Bool.and_eq_true,decide_eq_true_eq] at hok
 have hlen:=hok.1.2
 have hin:∀i∈M,i<l.length:=fun i hi=>by
  have:=hok.1.1.1.1.2
  rw [List.all_eq_true] at this
  have:=this i hi
  simp only [Bool.and_eq_true,decide_eq_true_eq] at this
  exact this.1
 refine wp_region_any hm ?_
 have hf:(M.filter fun i=> !(Array.replicate l.length false).getD i true).length=M.length:=by
  rw [List.filter_eq_self.2]
  intro i hi
  simp [Array.getD,hin i hi]
 have:=wpAny_M (P:=P) (md:= .any) hc.1 hQ hc.2 hK hst hbs hend M.length (Array.replicate l.length false) a w.drew hf ⟨by simp,?_,?_,⟨l.map (ownV a),by simp,(putAll_own a l).symm,?_⟩,(Ext.refl w).drew⟩
 ·rw [hlen] at this
  simpa using this
 all_goals
  intro i hi
  have h1:=getD_lt hi
  simp at h1
  simp [Array.getD,h1] at hi
end
abbrev stK (k:Value→World→Prop):Prop:=∀v w w',k v w→Ext w w'→k v w'
def stabL:List (Value→World→Prop)→Prop
 | []=>True
 | k::ks=>stK k∧stabL ks
theorem stabL_at:∀ {ks:List (Value→World→Prop)},stabL ks→∀i,stK (nthK ks i)
 | [],_,_=>fun _ _ _ _ _=>trivial
 | _::_,h,0=>h.1
 | _::_,h,i+1=>stabL_at h.2 i
def KC (c:Value):Value→World→Prop:=fun v _=>v=c
def KE (lo:Nat) (t:TypeId):Value→World→Prop:=fun v w=>∃g,v= .slice (some ⟨g,0,none⟩) 0 0∧Row w g t []∧lo≤g
def KL {α:Type} (lo:Nat) (t:TypeId) (size:Nat) (f:α→List Value) (L:List α):Value→World→Prop:=fun v w=>OwnL w lo t size f v L
def KR (lo:Nat) (t:TypeId) (cs:List Value):Value→World→Prop:=fun v w=>∃g,v= .pointer (some ⟨g,0,none⟩)∧Row w g t cs∧lo≤g
theorem stKC (c:Value):stK (KC c):=fun _ _ _ h _=>h
theorem stKE (lo:Nat) (t:TypeId):stK (KE lo t):=fun _ _ _ ⟨g,h1,h2,h3⟩ hx=>⟨g,h1,h2.ext hx,h3⟩
theorem stKL {α:Type} (lo:Nat) (t:TypeId) (size:Nat) (f:α→List Value) (L:List α):stK (KL lo t size f L):=fun _ _ _ h hx=>OwnL.ext h hx
theorem stKR (lo:Nat) (t:TypeId) (cs:List Value):stK (KR lo t cs):=fun _ _ _ ⟨g,h1,h2,h3⟩ hx=>⟨g,h1,h2.ext hx,h3⟩
theorem wp_region_K {P:Program} {id:Nat} {Q:Exit→Act→World→Prop} {a:Act} {w:World} {l:List Oper} (Ks:List (Value→World→Prop)) (M:List Nat) (D:List (List Nat)) (bs:List (Nat×Nat)) (tail:PhT) (hm:P.follows .mixedOrders=true) (hc:(Region.noSelect l.toArray&&okM .any l M D tail)=true) (hQ:∀c a w d v,Q (.panic c) (a.put d v) w→Q (.panic c) a w)
  (hbs:∀q∈bs,q.1<w.heap.size) (hK:stabL Ks) (hst:stepsM P l Q (nthK Ks) D w a M)
  (hend:∀(ts:List Value) (w':World),ts.length=l.length→Ext w w'→holdsL (nthK Ks) ts w' M→wpPhT P l Q bs w tail (putAll a l ts) w'):(Code.region id l.toArray true).wp P Q a w:=
 wp_region_M (nthK Ks) M D bs tail hm hc hQ hbs (fun i v w w' h hx=>stabL_at hK i v w w' h hx) hst hend
theorem vcons {ts:List Value} {n:Nat} (h:ts.length=n+1):∃t ts',ts=t::ts'∧ts'.length=n:=by
 cases ts with
 | nil=>cases h
 | cons t ts=>exact ⟨t,ts,rfl,by simpa using h⟩
theorem vnil {ts:List Value} (h:ts.length=0):ts=[]:=List.eq_nil_of_length_eq_zero h
end Go.Proofs.YtinindjjapblcaaGreatDoor
namespace Go.Proofs.YtinindjjapblcaaGreatDoor
open Go.RowKit
def stepsP (P:Program) (l:List Oper) (K:Nat→Value→World→Prop) (D:List (List Nat)) (bs:List (Nat×Nat)) (w0:World) (a0:Act):List Nat→Prop
 | []=>True
 | i::is=>(∀(ts:List Value) (w:World),ts.length=l.length→Ext w0 w→holdsL K ts w (nthD D i)→
   wpQuiet P l.toArray (GrowC bs w0) (fun a'=>∃v,a'=(putAll a0 l ts).put (nthO l i).dst v∧K i v w) [nthO l i] (putAll a0 l ts))∧stepsP P l K D bs w0 a0 is
theorem stepsP_at {P:Program} {l:List Oper} {K:Nat→Value→World→Prop} {D:List (List Nat)} {bs:List (Nat×Nat)} {w0:World} {a0:Act}:∀ {is:List Nat},stepsP P l K D bs w0 a0 is→∀i∈is,∀(ts:List Value) (w:World),ts.length=l.length→Ext w0 w→holdsL K ts w (nthD D i)→
   wpQuiet P l.toArray (GrowC bs w0) (fun a'=>∃v,a'=(putAll a0 l ts).put (nthO l i).dst v∧K i v w) [nthO l i] (putAll a0 l ts)
 | [],_,i,hi=>by cases hi
 | j::is,h,i,hi=>by
  rcases List.mem_cons.1 hi with rfl | hi
  ·exact h.1
  ·exact stepsP_at h.2 i hi
def okP (md:Region.Mode) (l:List Oper) (M:List Nat) (Ps:List Nat) (D:List (List Nat)) (tail:PhT):Bool:=
 sepD l&&(M++Ps).all (fun i=>decide (i<l.length)&&(bnd md l i).all (fun e=>decide (e<i)&&(M++Ps).contains e))
 &&(List.range l.length).all (fun i=>(nthD D i).all (fun d=>(bnd md l i).any (fun e=>e==d||(nthD D e).contains d))&&((M++Ps).contains i||M.all (fun m=>(nthD D i).contains m)))
 &&decide (M++Ps).Nodup&&decide ((M++Ps).length+tail.len=l.length)&&okT md l tail ((List.range l.length).map (fun i=>(M++Ps).contains i)).toArray
 &&Ps.all (fun i=>stillOp (nthO l i).op&&Region.free md l.toArray ((List.range l.length).map (fun j=>(nthD D i).contains j)).toArray i)
section
variable {P:Program} {md:Region.Mode} {l:List Oper} {Q:Exit→Act→World→Prop} {K:Nat→Value→World→Prop} {D:List (List Nat)} {M Ps:List Nat} {tail:PhT} {w0:World} {a0:Act} {bs:List (Nat×Nat)}
theorem wpAnyH_P (hs:Region.noSelect l.toArray=true) (hQ:∀c a w d v,Q (.panic c) (a.put d v) w→Q (.panic c) a w) (hok:okP md l M Ps D tail=true) (hK:∀i v w w',K i v w→Ext w w'→K i v w') (hst:stepsM P l Q K D w0 a0 M) (hsp:stepsP P l K D bs w0 a0 Ps) (hbs:∀q∈bs,q.1<w0.heap.size)
  (hend:∀(ts:List Value) (w:World),ts.length=l.length→Ext w0 w→holdsL K ts w (M++Ps)→wpPhT P l Q bs w0 tail (putAll a0 l ts) w):
  ∀(k:Nat) (listed:Array Bool) (a:Act) (w:World),((M++Ps).filter fun i=> !listed.getD i true).length=k→InvM l K D (M++Ps) w0 a0 listed a w→wpAnyH P md l.toArray Q (SameC bs w0) (k+tail.len) listed a w:=by
 have hok':=hok
 simp only [okP,Bool.and_eq_true,List.all_eq_true,List.any_eq_true,decide_eq_true_eq,beq_iff_eq,Bool.or_eq_true,List.contains_iff_mem,List.mem_range] at hok'
 obtain ⟨⟨⟨⟨⟨⟨o1,o2⟩,o3⟩,o4⟩,o5⟩,o6⟩,o7⟩:=hok'
 intro k
 induction k with
 | zero=>
  intro listed a w hk hI
  obtain ⟨ts,ht1,rfl,ht2⟩:=hI.val
  have hall:∀i∈M++Ps,listed.getD i false=true:=fun i hi=>by
   have h0:=List.length_eq_zero_iff.1 hk
   rw [List.filter_eq_nil_iff] at h0
   have:=h0 i hi
   rw [getD_true (by rw [hI.size]; exact (o2 i hi).1)] at this
   simpa using this
  have hl:listed=((List.range l.length).map (fun i=>(M++Ps).contains i)).toArray:=by
   apply Array.ext
   ·simp [hI.size]
   ·intro i h1 h2
    have e1:listed[i]=listed.getD i false:=by simp [Array.getD,h1]
    rw [e1]
    simp only [List.getElem_toArray,List.getElem_map,List.getElem_range]
    by_cases hm:i∈M++Ps
    ·rw [hall i hm]; exact (List.contains_iff_mem.2 hm).symm
    ·have:listed.getD i false=false:=by
      cases hb:listed.getD i false
      ·rfl
      ·exact absurd (hI.sub i hb) hm
     rw [this]
     cases hc:(M++Ps).contains i
     ·rfl
     ·exact absurd (List.contains_iff_mem.1 hc) hm
  have:=wpAnyC_phT (P:=P) (md:=md) (bs:=bs) (w0:=w0) hs hQ tail listed (putAll a0 l ts) w (SameC.of_ext hI.ext hbs) (by rw [hl]; exact o6) (hend ts w ht1 hI.ext (holdsL_of fun d hd=>ht2 d (hall d hd)))
  rw [Nat.zero_add]
  exact this
 | succ k ih=>
  intro listed a w hk hI
  have hmiss:∃m∈M++Ps,listed.getD m false=false:=by
   have:((M++Ps).filter fun i=> !listed.getD i true)≠[]:=fun h=>by rw [h] at hk; simp at hk
   obtain ⟨m,hm⟩:=List.exists_mem_of_ne_nil _ this
   rw [List.mem_filter] at hm
   refine ⟨m,hm.1,?_⟩
   have h:=hm.2
   rw [getD_true (by rw [hI.size]; exact (o2 m hm.1).1)] at h
   simpa using h
  have hmin:∃m∈M++Ps,listed.getD m false=false∧m∈Region.ready md l.toArray listed:=by
   obtain ⟨m,hm,hf⟩:=hmiss
   have go:∀(n m:Nat),m<n→m∈M++Ps→listed.getD m false=false→∃m∈M++Ps,listed.getD m false=false∧m∈Region.ready md l.toArray listed:=by
    intro n
    induction n with
    | zero=>intro m h; omega
    | succ n ihn=>
     intro m hmn hm hf
     by_cases hd:∀e∈bnd md l m,listed.getD e false=true
     ·exact ⟨m,hm,hf,(ready_iff (o2 m hm).1).2 ⟨by rw [getD_true (by rw [hI.size]; exact (o2 m hm).1)]; exact hf,hd⟩⟩
     ·simp only [Classical.not_forall] at hd
      obtain ⟨e,he,hne⟩:=hd
      have:=(o2 m hm).2 e he
      exact ihn e (by omega) this.2 (by simpa using hne)
   exact go (m+1) m (by omega) hm hf
  have hstep:∀(i:Nat) (a':Act) (w':World) (v:Value),i∈M++Ps→listed.getD i true=false→(∀d∈nthD D i,listed.getD d false=true)→(∀ts:List Value,a=putAll a0 l ts→(∀i,listed.getD i false=true→K i (nthV ts i) w)→ts.length=l.length→a'=(putAll a0 l ts).put (nthO l i).dst v)→K i v w'→Ext w w'→
    ((M++Ps).filter fun j=> !(listed.setIfInBounds i true).getD j true).length=k∧InvM l K D (M++Ps) w0 a0 (listed.setIfInBounds i true) a' w':=by
   intro i a' w' v hiM r1 hdl ha' hv hx
   obtain ⟨ts,ht1,hta,ht2⟩:=hI.val
   have hil:=(o2 i hiM).1
   have hsz:i<listed.size:=by rw [hI.size]; exact hil
   refine ⟨?_,⟨by simp [hI.size],?_,?_,⟨ts.set i v,by simp [ht1],by rw [ha' ts hta ht2 ht1]; exact putAll_put v l ts a0 i o1 hil ht1.symm,?_⟩,hI.ext.trans hx⟩⟩
   ·have:=filter_less (p:=fun j=> !listed.getD j true) (p':=fun j=> !(listed.setIfInBounds i true).getD j true) o4 hiM (by simpa using r1) (by simp [getD_set hsz]) (fun j hj=>by simp only [getD_set hsz,if_neg (Ne.symm hj)])
    omega
   ·intro j hj
    rw [getD_set hsz] at hj
    split at hj
    ·rename_i e; subst e; exact hiM
    ·exact hI.sub j hj
   ·intro j hj d hd
    rw [getD_set hsz] at hj ⊢
    split
    ·rfl
    ·split at hj
     ·rename_i e; subst e; exact hdl d hd
     ·exact hI.down j hj d hd
   ·intro j hj
    rw [getD_set hsz] at hj
    split at hj
    ·rename_i e; subst e; rw [nthV_set_same (by rw [ht1]; exact hil)]; exact hv
    ·rename_i e; rw [nthV_set_ne e]; exact hK _ _ _ _ (ht2 j hj) hx
  have hdeps:∀i,i<l.length→i∈Region.ready md l.toArray listed→listed.getD i true=false∧∀d∈nthD D i,listed.getD d false=true:=fun i hil hi=>by
   obtain ⟨r1,r2⟩:=(ready_iff hil).1 hi
   refine ⟨r1,fun d hd=> ?_⟩
   obtain ⟨e,he,h⟩:=(o3 i hil).1 d hd
   rcases h with h | h
   ·subst h; exact r2 e he
   ·exact hI.down e (r2 e he) d h
  rw [Nat.add_right_comm]
  by_cases hp:∃p∈Ps,p∈Region.ready md l.toArray listed
  ·obtain ⟨p,hpP,hpr⟩:=hp
   have hpM:p∈M++Ps:=List.mem_append.2 (.inr hpP)
   have hpl:=(o2 p hpM).1
   obtain ⟨r1,hdl⟩:=hdeps p hpl hpr
   obtain ⟨ts,ht1,rfl,ht2⟩:=hI.val
   have hq:=stepsP_at hsp p hpP ts w ht1 hI.ext (holdsL_of fun d hd=>ht2 d (hdl d hd))
   have hi:l.toArray[p]? =some (nthO l p):=by simpa using nthO_some hpl
   have hfree:∀j oj,l.toArray[j]? =some oj→j≠p→listed.getD j true=false→(∀e∈oj.after,Region.binds md e=true→e.on≠p)→(nthO l p).apart l.toArray oj=true:=fun j oj hj hne hun hno=>by
    refine Region.free_spec hi (o7 p hpP).2 j oj hj hne ?_ hno
    have hjl:j<l.length:=by simpa using (Array.getElem?_eq_some_iff.1 hj).1
    have hnot:(nthD D p).contains j=false:=by
     cases hc:(nthD D p).contains j
     ·rfl
     ·have h1:=hdl j (List.contains_iff_mem.1 hc)
      rw [getD_true (by rw [hI.size]; exact hjl),h1] at hun
      cases hun
    simp [Array.getD,hjl]
    simpa using hnot
   unfold wpQuiet at hq
   by_cases hw:Region.wanted (nthO l p) (yielded l.toArray (putAll a0 l ts).tmps)=true
   ·rw [if_pos hw] at hq
    obtain ⟨v,hv,hn⟩:=hq
    obtain ⟨v',hv1,hv2⟩:∃v',(putAll a0 l ts).put (nthO l p).dst v=(putAll a0 l ts).put (nthO l p).dst v'∧K p v' w:=hn
    obtain ⟨h1,h2⟩:=hstep p ((putAll a0 l ts).put (nthO l p).dst v) w v' hpM r1 hdl (fun ts' he _ _=>by rw [←he]; exact hv1) hv2 (Ext.refl w)
    exact wpAnyH_first hi (Region.noSelect_spec hs) (fun c a w=>hQ c a w _ _) (k+tail.len) listed _ w hfree hpr (yields_of_quietC (o7 p hpP).1 hw hv) (SameC.of_ext hI.ext hbs) (ih _ _ w h1 h2)
   ·rw [if_neg hw] at hq
    obtain ⟨v',hv1,hv2⟩:∃v',(putAll a0 l ts).put (nthO l p).dst undef=(putAll a0 l ts).put (nthO l p).dst v'∧K p v' w:=hq
    obtain ⟨h1,h2⟩:=hstep p ((putAll a0 l ts).put (nthO l p).dst undef) w v' hpM r1 hdl (fun ts' he _ _=>by rw [←he]; exact hv1) hv2 (Ext.refl w)
    exact wpAnyH_first hi (Region.noSelect_spec hs) (fun c a w=>hQ c a w _ _) (k+tail.len) listed _ w hfree hpr (.inr ⟨by simpa using hw,rfl⟩) (SameC.of_ext hI.ext hbs) (ih _ _ w h1 h2)
  ·refine ⟨fun h=> ?_,fun i hi=> ?_⟩
   ·obtain ⟨m,_,_,hmr⟩:=hmin
    rw [h] at hmr
    cases hmr
   ·have hil:i<l.length:=by
     obtain ⟨_,o,ho,_⟩:=mem_ready.1 hi
     simpa using (Array.getElem?_eq_some_iff.1 ho).1
    obtain ⟨r1,hdl⟩:=hdeps i hil hi
    have hiM:i∈M:=by
     rcases (o3 i hil).2 with h | h
     ·rcases List.mem_append.1 h with h | h
      ·exact h
      ·exact absurd ⟨i,h,hi⟩ hp
     ·obtain ⟨m,hm,hf,hmr⟩:=hmin
      rcases List.mem_append.1 hm with hm | hm
      ·rw [hdl m (h m hm)] at hf; cases hf
      ·exact absurd ⟨m,hm,hmr⟩ hp
    obtain ⟨ts,ht1,rfl,ht2⟩:=hI.val
    have hst1:=stepsM_at hst i hiM ts w ht1 hI.ext (holdsL_of fun d hd=>ht2 d (hdl d hd))
    refine wpOp_mono (fun a' w' h'=> ?_) (wpOp_one hil hst1)
    obtain ⟨hx,v,hav,hv⟩:=h'
    obtain ⟨h1,h2⟩:=hstep i a' w' v (List.mem_append.2 (.inl hiM)) r1 hdl (fun ts' he _ _=>by rw [←he]; exact hav) hv hx
    exact ⟨SameC.of_ext (hI.ext.trans hx) hbs,ih _ _ _ h1 h2⟩
theorem wp_region_KP {id:Nat} {a:Act} {w:World} (Ks:List (Value→World→Prop)) (M Ps:List Nat) (D:List (List Nat)) (bs:List (Nat×Nat)) (tail:PhT) (hm:P.follows .mixedOrders=true) (hc:(Region.noSelect l.toArray&&okP .any l M Ps D tail)=true) (hQ:∀c a w d v,Q (.panic c) (a.put d v) w→Q (.panic c) a w)
  (hbs:∀q∈bs,q.1<w.heap.size) (hK:stabL Ks) (hst:stepsM P l Q (nthK Ks) D w a M) (hsp:stepsP P l (nthK Ks) D bs w a Ps)
  (hend:∀(ts:List Value) (w':World),ts.length=l.length→Ext w w'→holdsL (nthK Ks) ts w' (M++Ps)→wpPhT P l Q bs w tail (putAll a l ts) w'):(Code.region id l.toArray true).wp P Q a w:=by
 simp only [Bool.and_eq_true] at hc
 have hok:=hc.2
 simp only [okP,Bool.and_eq_true,decide_eq_true_eq] at hok
 have hlen:=hok.1.1.2
 have hin:∀i∈M++Ps,i<l.length:=fun i hi=>by
  have:=hok.1.1.1.1.1.2
  rw [List.all_eq_true] at this
  have:=this i hi
  simp only [Bool.and_eq_true,decide_eq_true_eq] at this
  exact this.1
 refine wp_region_any hm (wpAny_of_held _ _ _ _ (S:=SameC bs w) ?_)
 have hf:((M++Ps).filter fun i=> !(Array.replicate l.length false).getD i true).length=(M++Ps).length:=by
  rw [List.filter_eq_self.2]
  intro i hi
  simp [Array.getD,hin i hi]
 have:=wpAnyH_P (P:=P) (md:= .any) (bs:=bs) hc.1 hQ hc.2 (fun i v w w' h hx=>stabL_at hK i v w w' h hx) hst hsp hbs hend (M++Ps).length (Array.replicate l.length false) a w.drew hf ⟨by simp,?_,?_,⟨l.map (ownV a),by simp,(putAll_own a l).symm,?_⟩,(Ext.refl w).drew⟩
 ·rw [hlen] at this
  simpa using this
 all_goals
  intro i hi
  have h1:=getD_lt hi
  simp at h1
  simp [Array.getD,h1] at hi
end
end Go.Proofs.YtinindjjapblcaaGreatDoor
namespace Go.Proofs.YtinindjjapblcaaGreatDoor
open Go.RowKit
def intC (z:Int):List Value:=[.int .i64 z]
theorem intC_len (z:Int):(intC z).length=1:=rfl
theorem int_info:(Tryz.prog.info? 2).map (fun i=>(i.zero,i.size,i.bytes))=some (some (.int .i64 0),1,8):=by kernel_rfl
section
variable {w:World} {A:Option Addr} {n c:Nat} {xs:List Int}
theorem SliceOf.get1 (h:SliceOf w 1 intC A n c xs) {k:Nat} (hk:k<n):
  ∃b off x,A=some ⟨b,off,none⟩∧b<w.heap.size∧xs[k]? =some x∧w.cell? ⟨b,off+k,none⟩=some (.int .i64 x):=by
 obtain ⟨b,off,x,hA,hb,hx,hc⟩:=h.get hk
 exact ⟨b,off,x,hA,hb,hx,by simpa using hc 0 _ rfl⟩
end
theorem RowOf.set1 {w:World} {g:Nat} {t:TypeId} {L:List Int} (h:RowOf w g t intC L) {d:Nat} (hd:d<L.length) (v:Int):RowOf (w.setCell ⟨g,d,none⟩ (.int .i64 v)) g t intC (L.set d v):=by
 have:=h.put intC_len (i:=d) hd v
 rw [Nat.mul_one] at this
 exact this
def NewRow {α:Type} (t:TypeId) (f:α→List Value) (xs:List α) (w:World) (e:Ending) (w':World):Prop:=
 ∃g,e= .returned (.slice (some ⟨g,0,none⟩) xs.length xs.length)∧w.heap.size≤g∧RowOf w' g t f xs∧Ext w w'
def allB (zs:List Int) (lo hi:Int):Bool:=zs.all fun z=>inB z lo hi
theorem all_take_false {zs:List Int} {k:Nat} {z lo hi:Int} (hz:zs[k]? =some z) (h:inB z lo hi=false):allB zs lo hi=false:=by
 rw [allB,List.all_eq_false]; exact ⟨z,List.mem_of_getElem? hz,by simp [h]⟩
theorem all_take_true {zs:List Int} {lo hi:Int} (h:∀(j:Nat) (z:Int),zs[j]? =some z→inB z lo hi=true):allB zs lo hi=true:=by
 rw [allB,List.all_eq_true]; intro z hz
 obtain ⟨j,hj,rfl⟩:=List.mem_iff_getElem.1 hz
 exact h j _ (List.getElem?_eq_getElem hj)
theorem c_allWithin (A:Option Addr) (n c:Nat) (zs:List Int) (lo hi:Int) (w:World) (hs:SliceOf w 1 intC A n c zs):
  Calls Tryz.prog 99 #[.slice A n c,.int .i64 lo,.int .i64 hi] w fun e w'=>e= .returned (.bool (allB zs lo hi))∧w=w':=by
 have hm:=hs.max
 have hcap:=hs.cap
 go_enter Tryz.func99,Tryz.ntmps99
 go_wp2_with fail
 go_loop [6,11] (fun r i=>∃k:Nat,k≤n∧r= .bool false∧i= .int .i64 k∧Hid (∀(j:Nat) (z:Int),j<k→zs[j]? =some z→inB z lo hi=true)) (fun _ i=>n-(intOf i).toNat)
 case atStart=>exact ⟨0,Nat.zero_le _,rfl,rfl,hide (fun j z hj=>absurd hj (by omega))⟩
 case round=>
  obtain ⟨k,hk,rfl,rfl,HK⟩:=hrel
  by_cases hlt:k<n
  ·obtain ⟨b,off,x,rfl,hb,hxk,hc0⟩:=hs.get1 hlt
   have HX:=hide hxk
   clear hxk
   cases hi0:inB x lo hi
   ·go_wp2_with (go_at_call 84; refine (c_within _ _ _ _).mono ?_; rintro e w' ⟨rfl,rfl⟩)
    go_ret
    exact ⟨by rw [all_take_false HX.out hi0]; rfl,rfl⟩
   ·go_wp2_with (go_at_call 84; refine (c_within _ _ _ _).mono ?_; rintro e w' ⟨rfl,rfl⟩)
    go_round
    case rel=>
     refine ⟨k+1,by omega,rfl,by go_num,hide fun j z hj hz=> ?_⟩
     by_cases e:j=k
     ·subst e; rw [HX.out] at hz; injection hz with hz; subst hz; exact hi0
     ·exact HK.out j z (by omega) hz
    case measure=>simp [intOf]; omega
  ·go_wp2_with fail
   go_ret
   refine ⟨?_,rfl⟩
   rw [all_take_true (fun j z hz=>HK.out j z (by have:=(List.getElem?_eq_some_iff.1 hz).1; have:=hs.len; omega) hz)]; rfl
end Go.Proofs.YtinindjjapblcaaGreatDoor
namespace Go.Proofs.YtinindjjapblcaaGreatDoor
open Go.RowKit
structure Event where
 kind:Int
 a:Int
 b:Int
 c:Int
 d:Int
def Event.cells (x:Event):List Value:=[.int .i64 x.kind,.int .i64 x.a,.int .i64 x.b,.int .i64 x.c,.int .i64 x.d]
theorem event_len (x:Event):x.cells.length=5:=rfl
theorem event_info:(Tryz.prog.info? 54).map (fun i=>(i.zero,i.size,i.bytes))=some (some (.agg #[.int .i64 0,.int .i64 0,.int .i64 0,.int .i64 0,.int .i64 0]),5,40):=by kernel_rfl
end Go.Proofs.YtinindjjapblcaaGreatDoor
