/-
  A region that draws its order and holds loads beside stores and calls that turn memory elsewhere: the cells that are read are named and stay.
-/
import Derived.Test.YtfkpghdmljjegaaGreatVe00
import Derived.Test.YtfkpghdmljjegaaGreatVe01
namespace Go.Proofs.YtfkpghdmljjegaaGreat
open Go.RowKit
def SameC (cs:List (Nat×Nat)) (w x:World):Prop:=∀q∈cs,x.cell? ⟨q.1,q.2,none⟩=w.cell? ⟨q.1,q.2,none⟩
theorem SameC.refl (cs:List (Nat×Nat)) (w:World):SameC cs w w:=fun _ _=>rfl
theorem SameC.trans {cs:List (Nat×Nat)} {a b c:World} (h:SameC cs a b) (k:SameC cs b c):SameC cs a c:=fun i hi=>(k i hi).trans (h i hi)
theorem SameC.drew {cs:List (Nat×Nat)} {a b:World} (h:SameC cs a b):SameC cs a b.drew:=h
theorem SameC.of_ext {cs:List (Nat×Nat)} {a b:World} (h:Ext a b) (hb:∀q∈cs,q.1<a.heap.size):SameC cs a b:=fun q hq=>h.cell q.1 q.2 (hb q hq)
theorem SameC.of_only {cs:List (Nat×Nat)} {g:Nat} {a b:World} (h:Only g a b) (hb:∀q∈cs,q.1<a.heap.size∧q.1≠g):SameC cs a b:=fun q hq=>h.cell (hb q hq).1 (hb q hq).2
theorem SameC.setCell {cs:List (Nat×Nat)} {a b:World} (h:SameC cs a b) {p:Addr} (hp:∀q∈cs,q.1≠p.block∨q.2≠p.off) (u:Value):SameC cs a (b.setCell p u):=fun q hq=>by
 rw [World.cell?_setCell_other _ _ _ _ (fun e=>by
  rcases hp q hq with h1 | h1
  ·exact h1 (by rw [e])
  ·exact h1 (by rw [e]))]
 exact h q hq
open Classical in
noncomputable def laterC (cs:List (Nat×Nat)) (w x:World):World:=if SameC cs w x then x else w
theorem laterC_of {cs:List (Nat×Nat)} {w x:World} (h:SameC cs w x):laterC cs w x=x:=by rw [laterC,if_pos h]
theorem same_laterC (cs:List (Nat×Nat)) (w x:World):SameC cs w (laterC cs w x):=by
 unfold laterC; split
 ·assumption
 ·exact SameC.refl _ _
@[go_sem] theorem laterC_cell1 (cs:List (Nat×Nat)) (w x:World) (b o:Nat):(laterC ((b,o)::cs) w x).cell? ⟨b,o,none⟩=w.cell? ⟨b,o,none⟩:=same_laterC _ w x (b,o) (by simp)
@[go_sem] theorem laterC_cell2 (cs:List (Nat×Nat)) (w x:World) (q1:Nat×Nat) (b o:Nat):(laterC (q1::(b,o)::cs) w x).cell? ⟨b,o,none⟩=w.cell? ⟨b,o,none⟩:=same_laterC _ w x (b,o) (by simp)
@[go_sem] theorem laterC_cell3 (cs:List (Nat×Nat)) (w x:World) (q1 q2:Nat×Nat) (b o:Nat):(laterC (q1::q2::(b,o)::cs) w x).cell? ⟨b,o,none⟩=w.cell? ⟨b,o,none⟩:=same_laterC _ w x (b,o) (by simp)
@[go_sem] theorem laterC_cell4 (cs:List (Nat×Nat)) (w x:World) (q1 q2 q3:Nat×Nat) (b o:Nat):(laterC (q1::q2::q3::(b,o)::cs) w x).cell? ⟨b,o,none⟩=w.cell? ⟨b,o,none⟩:=same_laterC _ w x (b,o) (by simp)
@[go_sem] theorem laterC_cell5 (cs:List (Nat×Nat)) (w x:World) (q1 q2 q3 q4:Nat×Nat) (b o:Nat):(laterC (q1::q2::q3::q4::(b,o)::cs) w x).cell? ⟨b,o,none⟩=w.cell? ⟨b,o,none⟩:=same_laterC _ w x (b,o) (by simp)
abbrev GrowC (bs:List (Nat×Nat)) (w:World):World→Prop:=fun w'=>∃x,w'=laterC bs w x
theorem yields_of_quietC {P:Program} {ops:Array Oper} {o:Oper} {bs:List (Nat×Nat)} (ho:stillOp o.op=true) {a:Act} {w:World} {v:Value} (hw:Region.wanted o (yielded ops a.tmps)=true)
  (h:∀w',GrowC bs w w'→o.quietAt P a (GrowC bs w) w' v):YieldsIf P ops (SameC bs w) o v a:=by
 refine .inl ⟨hw,fun w' hx=> ?_⟩
 have h1:=h w' ⟨w',(laterC_of hx).symm⟩
 unfold Oper.quietAt at h1
 cases hr:(execOp a.eval o).run P w' with
 | halt x w1=>rw [hr] at h1; simp [Oper.quietUpon] at h1
 | ok n w1=>
  obtain ⟨u,rfl⟩:=still_value ho hr
  rw [hr] at h1
  simp only [Oper.quietUpon] at h1
  rw [h1.1,h1.2]
theorem wpAnyC_still {P:Program} {md:Region.Mode} {l:List Oper} {Q:Exit→Act→World→Prop} {bs:List (Nat×Nat)} {w0 w:World} (hw0:SameC bs w0 w) (hs:Region.noSelect l.toArray=true) (hQ:∀c a w d v,Q (.panic c) (a.put d v) w→Q (.panic c) a w) {fuel:Nat} {listed':Array Bool} {K:Act→Prop}
  (hK:∀a,K a→wpAnyH P md l.toArray Q (SameC bs w0) fuel listed' a w):∀(is:List Nat) (listed:Array Bool) (a:Act),goStill md l listed is=some listed'→wpQuiet P l.toArray (GrowC bs w0) K (pickL l is) a→
   wpAnyH P md l.toArray Q (SameC bs w0) (fuel+is.length) listed a w:=by
 intro is
 induction is with
 | nil=>
  intro listed a hg h
  simp only [goStill,Option.some.injEq] at hg
  subst hg
  exact hK a h
 | cons i is ih=>
  intro listed a hg h
  unfold goStill at hg
  split at hg
  ·rename_i hc
   simp only [Bool.and_eq_true,decide_eq_true_eq] at hc
   obtain ⟨⟨⟨h1,h2⟩,h3⟩,h4⟩:=hc
   have hi:l.toArray[i]? =some (nthO l i):=by simpa using nthO_some h1
   simp only [pickL,wpQuiet] at h
   by_cases hw:Region.wanted (nthO l i) (yielded l.toArray a.tmps)=true
   ·rw [if_pos hw] at h
    obtain ⟨v,hv,hn⟩:=h
    exact wpAnyH_first hi (Region.noSelect_spec hs) (fun c a w=>hQ c a w _ _) (fuel+is.length) listed a w (Region.free_spec hi h3) (by simpa using h4) (yields_of_quietC h2 hw hv) hw0 (ih _ _ hg hn)
   ·rw [if_neg hw] at h
    exact wpAnyH_first hi (Region.noSelect_spec hs) (fun c a w=>hQ c a w _ _) (fuel+is.length) listed a w (Region.free_spec hi h3) (by simpa using h4) (.inr ⟨by simpa using hw,rfl⟩) hw0 (ih _ _ hg h)
  ·cases hg
def wpPhC (P:Program) (l:List Oper) (Q:Exit→Act→World→Prop) (bs:List (Nat×Nat)) (w0:World):List (List Nat×Nat)→List Nat→Act→World→Prop
 | [],last,a,w=>wpQuiet P l.toArray (fun w'=>∃x,w'=laterC bs w0 x) (fun a'=>Q .normal a' w) (pickL l last) a
 | (is,j)::r,last,a,w=>wpQuiet P l.toArray (fun w'=>∃x,w'=laterC bs w0 x) (fun a'=>wpList P l.toArray (Exit.then (fun a'' w''=>SameC bs w0 w''∧wpPhC P l Q bs w0 r last a'' w'') Q) [nthO l j] a' w) (pickL l is) a
theorem wpAnyC_ph {P:Program} {md:Region.Mode} {l:List Oper} {Q:Exit→Act→World→Prop} {bs:List (Nat×Nat)} {w0:World} (hs:Region.noSelect l.toArray=true) (hQ:∀c a w d v,Q (.panic c) (a.put d v) w→Q (.panic c) a w) (last:List Nat):
  ∀(ph:List (List Nat×Nat)) (listed:Array Bool) (a:Act) (w:World),SameC bs w0 w→okPh md l listed ph last=true→wpPhC P l Q bs w0 ph last a w→wpAnyH P md l.toArray Q (SameC bs w0) (phLen ph last) listed a w:=by
 intro ph
 induction ph with
 | nil=>
  intro listed a w hw0 ho h
  unfold okPh at ho
  cases hg:goStill md l listed last with
  | none=>rw [hg] at ho; simp at ho
  | some listed'=>
   rw [hg] at ho
   have he:Region.ready md l.toArray listed'=[]:=by simpa using ho
   have:=wpAnyC_still (fuel:=0) hw0 hs hQ (K:=fun a'=>Q .normal a' w) (fun a' ha=>⟨he,ha⟩) last listed a hg h
   simpa [phLen] using this
 | cons p r ih=>
  obtain ⟨is,j⟩:=p
  intro listed a w hw0 ho h
  unfold okPh at ho
  cases hg:goStill md l listed is with
  | none=>rw [hg] at ho; simp at ho
  | some listed'=>
   rw [hg] at ho
   simp only [Bool.and_eq_true,decide_eq_true_eq,beq_iff_eq] at ho
   obtain ⟨⟨hj,hr⟩,ho⟩:=ho
   refine wpAnyC_still (fuel:=phLen r last+1) hw0 hs hQ (fun a' ha=> ?_) is listed a hg h
   refine ⟨fun h0=>(by rw [hr] at h0; cases h0),fun i hi=> ?_⟩
   rw [hr] at hi
   obtain rfl:i=j:=by simpa using hi
   exact wpOp_mono (fun a'' w'' h'=>⟨h'.1,ih _ a'' w'' h'.1 ho h'.2⟩) (wpOp_one hj ha)
theorem wp_region_phC {P:Program} {id:Nat} {Q:Exit→Act→World→Prop} {a:Act} {w:World} {l:List Oper} (bs:List (Nat×Nat)) (ph:List (List Nat×Nat)) (last:List Nat) (hm:P.follows .mixedOrders=true)
  (hc:(Region.noSelect l.toArray&&decide (phLen ph last=l.length)&&okPh .any l (Array.replicate l.length false) ph last)=true) (hQ:∀c a w d v,Q (.panic c) (a.put d v) w→Q (.panic c) a w)
  (h:wpPhC P l Q bs w ph last a w.drew):(Code.region id l.toArray true).wp P Q a w:=by
 simp only [Bool.and_eq_true,decide_eq_true_eq] at hc
 obtain ⟨⟨hs,hl⟩,ho⟩:=hc
 refine wp_region_any hm (wpAny_of_held _ _ _ _ (S:=SameC bs w) ?_)
 have:=wpAnyC_ph (P:=P) (md:= .any) (w0:=w) (bs:=bs) hs hQ last ph _ a w.drew (SameC.refl bs w).drew ho h
 rw [hl] at this
 simpa using this
end Go.Proofs.YtfkpghdmljjegaaGreat
namespace Go.Proofs.YtfkpghdmljjegaaGreat
open Go.RowKit
inductive PhT where
 | last (is:List Nat)
 | one (is:List Nat) (j:Nat) (r:PhT)
 | two (is:List Nat) (j:Nat) (r:PhT) (k:Nat) (r':PhT)
def PhT.len:PhT→Nat
 | .last is=>is.length
 | .one is _ r=>r.len+1+is.length
 | .two is _ r _ _=>r.len+1+is.length
def okT (md:Region.Mode) (l:List Oper):PhT→Array Bool→Bool
 | .last is,listed=>match goStill md l listed is with
  | some listed'=>(Region.ready md l.toArray listed').isEmpty
  | none=>false
 | .one is j r,listed=>match goStill md l listed is with
  | some listed'=>decide (j<l.length)&&(Region.ready md l.toArray listed'==[j])&&okT md l r (listed'.setIfInBounds j true)
  | none=>false
 | .two is j r k r',listed=>match goStill md l listed is with
  | some listed'=>decide (j<l.length)&&decide (k<l.length)&&(Region.ready md l.toArray listed'==[j,k])&&decide (r'.len=r.len)&&okT md l r (listed'.setIfInBounds j true)&&okT md l r' (listed'.setIfInBounds k true)
  | none=>false
def wpPhT (P:Program) (l:List Oper) (Q:Exit→Act→World→Prop) (bs:List (Nat×Nat)) (w0:World):PhT→Act→World→Prop
 | .last is,a,w=>wpQuiet P l.toArray (fun w'=>∃x,w'=laterC bs w0 x) (fun a'=>Q .normal a' w) (pickL l is) a
 | .one is j r,a,w=>wpQuiet P l.toArray (fun w'=>∃x,w'=laterC bs w0 x) (fun a'=>wpList P l.toArray (Exit.then (fun a'' w''=>SameC bs w0 w''∧wpPhT P l Q bs w0 r a'' w'') Q) [nthO l j] a' w) (pickL l is) a
 | .two is j r k r',a,w=>wpQuiet P l.toArray (fun w'=>∃x,w'=laterC bs w0 x) (fun a'=>wpList P l.toArray (Exit.then (fun a'' w''=>SameC bs w0 w''∧wpPhT P l Q bs w0 r a'' w'') Q) [nthO l j] a' w∧
   wpList P l.toArray (Exit.then (fun a'' w''=>SameC bs w0 w''∧wpPhT P l Q bs w0 r' a'' w'') Q) [nthO l k] a' w) (pickL l is) a
theorem wpAnyC_phT {P:Program} {md:Region.Mode} {l:List Oper} {Q:Exit→Act→World→Prop} {bs:List (Nat×Nat)} {w0:World} (hs:Region.noSelect l.toArray=true) (hQ:∀c a w d v,Q (.panic c) (a.put d v) w→Q (.panic c) a w):
  ∀(ph:PhT) (listed:Array Bool) (a:Act) (w:World),SameC bs w0 w→okT md l ph listed=true→wpPhT P l Q bs w0 ph a w→wpAnyH P md l.toArray Q (SameC bs w0) ph.len listed a w:=by
 intro ph
 induction ph with
 | last is=>
  intro listed a w hw0 ho h
  unfold okT at ho
  cases hg:goStill md l listed is with
  | none=>rw [hg] at ho; simp at ho
  | some listed'=>
   rw [hg] at ho
   have he:Region.ready md l.toArray listed'=[]:=by simpa using ho
   have:=wpAnyC_still (fuel:=0) hw0 hs hQ (K:=fun a'=>Q .normal a' w) (fun a' ha=>⟨he,ha⟩) is listed a hg h
   simpa [PhT.len] using this
 | one is j r ih=>
  intro listed a w hw0 ho h
  unfold okT at ho
  cases hg:goStill md l listed is with
  | none=>rw [hg] at ho; simp at ho
  | some listed'=>
   rw [hg] at ho
   simp only [Bool.and_eq_true,decide_eq_true_eq,beq_iff_eq] at ho
   obtain ⟨⟨hj,hr⟩,ho⟩:=ho
   refine wpAnyC_still (fuel:=r.len+1) hw0 hs hQ (fun a' ha=> ?_) is listed a hg h
   refine ⟨fun h0=>(by rw [hr] at h0; cases h0),fun i hi=> ?_⟩
   rw [hr] at hi
   obtain rfl:i=j:=by simpa using hi
   exact wpOp_mono (fun a'' w'' h'=>⟨h'.1,ih _ a'' w'' h'.1 ho h'.2⟩) (wpOp_one hj ha)
 | two is j r k r' ih ih'=>
  intro listed a w hw0 ho h
  unfold okT at ho
  cases hg:goStill md l listed is with
  | none=>rw [hg] at ho; simp at ho
  | some listed'=>
   rw [hg] at ho
   simp only [Bool.and_eq_true,decide_eq_true_eq,beq_iff_eq] at ho
   obtain ⟨⟨⟨⟨⟨hj,hk⟩,hr⟩,hl⟩,ho⟩,ho'⟩:=ho
   refine wpAnyC_still (fuel:=r.len+1) hw0 hs hQ (fun a' ha=> ?_) is listed a hg h
   refine ⟨fun h0=>(by rw [hr] at h0; cases h0),fun i hi=> ?_⟩
   rw [hr] at hi
   rcases (show i=j∨i=k by simpa using hi) with rfl | rfl
   ·exact wpOp_mono (fun a'' w'' h'=>⟨h'.1,ih _ a'' w'' h'.1 ho h'.2⟩) (wpOp_one hj ha.1)
   ·exact wpOp_mono (fun a'' w'' h'=>⟨h'.1,hl ▸ ih' _ a'' w'' h'.1 ho' h'.2⟩) (wpOp_one hk ha.2)
theorem wp_region_phT {P:Program} {id:Nat} {Q:Exit→Act→World→Prop} {a:Act} {w:World} {l:List Oper} (bs:List (Nat×Nat)) (ph:PhT) (hm:P.follows .mixedOrders=true)
  (hc:(Region.noSelect l.toArray&&decide (ph.len=l.length)&&okT .any l ph (Array.replicate l.length false))=true) (hQ:∀c a w d v,Q (.panic c) (a.put d v) w→Q (.panic c) a w)
  (h:wpPhT P l Q bs w ph a w.drew):(Code.region id l.toArray true).wp P Q a w:=by
 simp only [Bool.and_eq_true,decide_eq_true_eq] at hc
 obtain ⟨⟨hs,hl⟩,ho⟩:=hc
 refine wp_region_any hm (wpAny_of_held _ _ _ _ (S:=SameC bs w) ?_)
 have:=wpAnyC_phT (P:=P) (md:= .any) (w0:=w) (bs:=bs) hs hQ ph _ a w.drew (SameC.refl bs w).drew ho h
 rw [hl] at this
 simpa using this
end Go.Proofs.YtfkpghdmljjegaaGreat
namespace Go.Proofs.YtfkpghdmljjegaaGreat
open Go.RowKit
def putAll (a:Act):List Oper→List Value→Act
 | o::os,t::ts=>putAll (a.put o.dst t) os ts
 | _,_=>a
def nthV:List Value→Nat→Value
 | [],_=>undef
 | v::_,0=>v
 | _::l,n+1=>nthV l n
def nthD:List (List Nat)→Nat→List Nat
 | [],_=>[]
 | v::_,0=>v
 | _::l,n+1=>nthD l n
def nthK:List (Value→World→Prop)→Nat→Value→World→Prop
 | [],_=>fun _ _=>True
 | k::_,0=>k
 | _::l,n+1=>nthK l n
def sepD:List Oper→Bool
 | []=>true
 | o::os=>(o.dst.isNone||os.all (fun p=>p.dst != o.dst))&&sepD os
theorem put_same (a:Act) (d:Option Tmp) (u v:Value):(a.put d u).put d v=a.put d v:=by
 cases d with
 | none=>rfl
 | some d=>simp [Act.put,Array.setIfInBounds_setIfInBounds]
theorem put_swap (a:Act) (d e:Option Tmp) (u v:Value) (h:e≠d):(a.put d u).put e v=(a.put e v).put d u:=by
 cases d with
 | none=>rfl
 | some d=>
  cases e with
  | none=>rfl
  | some e=>
   have hne:d≠e:=fun h'=>h (by rw [h'])
   simp only [Act.put]
   congr 1
   exact Array.setIfInBounds_comm _ _ hne
theorem putAll_put_ne (d:Tmp) (v:Value):∀(os:List Oper) (ts:List Value) (a:Act),(∀p∈os,p.dst≠some d)→(putAll a os ts).put (some d) v=putAll (a.put (some d) v) os ts:=by
 intro os
 induction os with
 | nil=>intro ts a _; cases ts <;> rfl
 | cons o os ih=>
  intro ts a h
  cases ts with
  | nil=>rfl
  | cons t ts=>
   simp only [putAll]
   rw [ih ts _ (fun p hp=>h p (by simp [hp])),put_swap a o.dst (some d) t v (fun e=>h o (by simp) e.symm)]
theorem putAll_put (v:Value):∀(os:List Oper) (ts:List Value) (a:Act) (i:Nat),sepD os=true→i<os.length→os.length=ts.length→(putAll a os ts).put (nthO os i).dst v=putAll a os (ts.set i v):=by
 intro os
 induction os with
 | nil=>intro ts a i _ hi; simp at hi
 | cons o os ih=>
  intro ts a i hs hi hl
  cases ts with
  | nil=>simp at hl
  | cons t ts=>
   simp only [sepD,Bool.and_eq_true,Bool.or_eq_true] at hs
   cases i with
   | zero=>
    simp only [nthO,List.set_cons_zero,putAll]
    cases hd:o.dst with
    | none=>rfl
    | some d=>
     have hne:∀p∈os,p.dst≠some d:=by
      rcases hs.1 with h | h
      ·rw [hd] at h; simp at h
      ·intro p hp
       have:=List.all_eq_true.1 h p hp
       rw [hd] at this
       simpa using this
     rw [putAll_put_ne d v os ts _ hne,put_same]
   | succ i=>
    simp only [nthO,List.set_cons_succ,putAll]
    exact ih ts _ i hs.2 (by simpa using hi) (by simpa using hl)
def ownV (a:Act) (o:Oper):Value:=match o.dst with | some d=>a.tmps.getD d undef | none=>undef
theorem put_own (a:Act) (o:Oper):a.put o.dst (ownV a o)=a:=by
 unfold ownV
 cases o.dst with
 | none=>rfl
 | some d=>
  simp only [Act.put]
  cases a
  congr 1
  apply Array.ext_getElem?
  intro i
  simp only [Array.getElem?_setIfInBounds,Array.getD_eq_getD_getElem?]
  split
  ·rename_i h
   subst h
   split
   ·rename_i h'; rw [Array.getElem?_eq_getElem h']; rfl
   ·rename_i h'; rw [Array.getElem?_eq_none (by omega)]
  ·rfl
theorem putAll_own (a:Act):∀os:List Oper,putAll a os (os.map (ownV a))=a:=by
 intro os
 induction os with
 | nil=>rfl
 | cons o os ih=>simp only [List.map_cons,putAll,put_own]; exact ih
theorem nthV_set_same {v:Value}:∀ {ts:List Value} {i:Nat},i<ts.length→nthV (ts.set i v) i=v
 | [],_,h=>by simp at h
 | _::_,0,_=>rfl
 | _::ts,i+1,h=>nthV_set_same (ts:=ts) (by simpa using h)
theorem nthV_set_ne {v:Value}:∀ {ts:List Value} {i j:Nat},i≠j→nthV (ts.set i v) j=nthV ts j
 | [],_,_,_=>rfl
 | _::_,0,0,h=>absurd rfl h
 | _::_,0,_+1,_=>rfl
 | _::_,_+1,0,_=>rfl
 | _::ts,i+1,j+1,h=>nthV_set_ne (ts:=ts) (fun e=>h (by rw [e]))
def holdsL (K:Nat→Value→World→Prop) (ts:List Value) (w:World):List Nat→Prop
 | []=>True
 | d::ds=>K d (nthV ts d) w∧holdsL K ts w ds
theorem holdsL_of {K:Nat→Value→World→Prop} {ts:List Value} {w:World}:∀ {ds:List Nat},(∀d∈ds,K d (nthV ts d) w)→holdsL K ts w ds
 | [],_=>trivial
 | d::_,h=>⟨h d (by simp),holdsL_of fun d' hd=>h d' (by simp [hd])⟩
def stepsM (P:Program) (l:List Oper) (Q:Exit→Act→World→Prop) (K:Nat→Value→World→Prop) (D:List (List Nat)) (w0:World) (a0:Act):List Nat→Prop
 | []=>True
 | i::is=>(∀(ts:List Value) (w:World),ts.length=l.length→Ext w0 w→holdsL K ts w (nthD D i)→
   wpList P l.toArray (Exit.then (fun a' w'=>Ext w w'∧∃v,a'=(putAll a0 l ts).put (nthO l i).dst v∧K i v w') Q) [nthO l i] (putAll a0 l ts) w)∧stepsM P l Q K D w0 a0 is
theorem stepsM_at {P:Program} {l:List Oper} {Q:Exit→Act→World→Prop} {K:Nat→Value→World→Prop} {D:List (List Nat)} {w0:World} {a0:Act}:∀ {is:List Nat},stepsM P l Q K D w0 a0 is→∀i∈is,∀(ts:List Value) (w:World),ts.length=l.length→Ext w0 w→holdsL K ts w (nthD D i)→
   wpList P l.toArray (Exit.then (fun a' w'=>Ext w w'∧∃v,a'=(putAll a0 l ts).put (nthO l i).dst v∧K i v w') Q) [nthO l i] (putAll a0 l ts) w
 | [],_,i,hi=>by cases hi
 | j::is,h,i,hi=>by
  rcases List.mem_cons.1 hi with rfl | hi
  ·exact h.1
  ·exact stepsM_at h.2 i hi
def bnd (md:Region.Mode) (l:List Oper) (i:Nat):List Nat:=((nthO l i).after.toList.filter (Region.binds md)).map (·.on)
def okM (md:Region.Mode) (l:List Oper) (M:List Nat) (D:List (List Nat)) (tail:PhT):Bool:=
 sepD l&&M.all (fun i=>decide (i<l.length)&&(bnd md l i).all (fun e=>decide (e<i)&&M.contains e))
 &&(List.range l.length).all (fun i=>(nthD D i).all (fun d=>(bnd md l i).any (fun e=>e==d||(nthD D e).contains d))&&(M.contains i||M.all (fun m=>(nthD D i).contains m)))
 &&decide M.Nodup&&decide (M.length+tail.len=l.length)&&okT md l tail ((List.range l.length).map (fun i=>M.contains i)).toArray
theorem filter_less {p p':Nat→Bool}:∀ {M:List Nat} {i:Nat},M.Nodup→i∈M→p i=true→p' i=false→(∀j,j≠i→p' j=p j)→(M.filter p').length+1=(M.filter p).length
 | [],_,_,h,_,_,_=>by cases h
 | m::M,i,hn,hm,h1,h2,h3=>by
  rw [List.nodup_cons] at hn
  by_cases e:i=m
  ·subst e
   have:M.filter p'=M.filter p:=List.filter_congr (fun j hj=>h3 j (fun e=>hn.1 (e ▸ hj)))
   rw [List.filter_cons_of_neg (by simp [h2]),List.filter_cons_of_pos h1,this]
   rfl
  ·have hm':i∈M:=by rcases List.mem_cons.1 hm with h | h; exact absurd h e; exact h
   have ih:=filter_less hn.2 hm' h1 h2 h3
   have hpm:=h3 m (fun h=>e h.symm)
   by_cases hp:p m=true
   ·rw [List.filter_cons_of_pos (by rw [hpm]; exact hp),List.filter_cons_of_pos hp]; simp; omega
   ·rw [List.filter_cons_of_neg (by rw [hpm]; exact hp),List.filter_cons_of_neg hp]; exact ih
theorem mem_bnd {md:Region.Mode} {l:List Oper} {i e:Nat}:e∈bnd md l i↔∃x∈(nthO l i).after,Region.binds md x=true∧x.on=e:=by
 unfold bnd
 simp only [List.mem_map,List.mem_filter,Array.mem_toList_iff]
 constructor
 ·rintro ⟨x,⟨h1,h2⟩,h3⟩; exact ⟨x,h1,h2,h3⟩
 ·rintro ⟨x,h1,h2,h3⟩; exact ⟨x,⟨h1,h2⟩,h3⟩
theorem ready_iff {md:Region.Mode} {l:List Oper} {listed:Array Bool} {i:Nat} (hi:i<l.length):i∈Region.ready md l.toArray listed↔listed.getD i true=false∧∀e∈bnd md l i,listed.getD e false=true:=by
 rw [mem_ready]
 have hs:l.toArray[i]? =some (nthO l i):=by simpa using nthO_some hi
 constructor
 ·rintro ⟨h1,o,ho,h2⟩
  rw [hs] at ho
  injection ho with ho
  subst ho
  refine ⟨h1,fun e he=> ?_⟩
  obtain ⟨x,hx,hb,rfl⟩:=mem_bnd.1 he
  exact h2 x hx hb
 ·rintro ⟨h1,h2⟩
  exact ⟨h1,_,hs,fun x hx hb=>h2 _ (mem_bnd.2 ⟨x,hx,hb,rfl⟩)⟩
structure InvM (l:List Oper) (K:Nat→Value→World→Prop) (D:List (List Nat)) (M:List Nat) (w0:World) (a0:Act) (listed:Array Bool) (a:Act) (w:World):Prop where
 size:listed.size=l.length
 sub:∀i,listed.getD i false=true→i∈M
 down:∀i,listed.getD i false=true→∀d∈nthD D i,listed.getD d false=true
 val:∃ts:List Value,ts.length=l.length∧a=putAll a0 l ts∧∀i,listed.getD i false=true→K i (nthV ts i) w
 ext:Ext w0 w
theorem getD_true {listed:Array Bool} {i:Nat} (h:i<listed.size):listed.getD i true=listed.getD i false:=by simp [Array.getD,h]
theorem getD_lt {listed:Array Bool} {i:Nat} (h:listed.getD i false=true):i<listed.size:=by
 rcases Nat.lt_or_ge i listed.size with h' | h'
 ·exact h'
 ·simp [Array.getD,Nat.not_lt.2 h'] at h
theorem getD_set {listed:Array Bool} {i j:Nat} (h:i<listed.size) (b:Bool):(listed.setIfInBounds i true).getD j b=if i=j then true else listed.getD j b:=by
 by_cases e:i=j
 ·subst e; simp [Array.getD,h]
 ·rw [if_neg e,Array.getD_eq_getD_getElem?,Array.getD_eq_getD_getElem?,Array.getElem?_setIfInBounds_ne e]
section
variable {P:Program} {md:Region.Mode} {l:List Oper} {Q:Exit→Act→World→Prop} {K:Nat→Value→World→Prop} {D:List (List Nat)} {M:List Nat} {tail:PhT} {w0:World} {a0:Act} {bs:List (Nat×Nat)}
theorem wpAny_M (hs:Region.noSelect l.toArray=true) (hQ:∀c a w d v,Q (.panic c) (a.put d v) w→Q (.panic c) a w) (hok:okM md l M D tail=true) (hK:∀i v w w',K i v w→Ext w w'→K i v w') (hst:stepsM P l Q K D w0 a0 M) (hbs:∀q∈bs,q.1<w0.heap.size)
  (hend:∀(ts:List Value) (w:World),ts.length=l.length→Ext w0 w→holdsL K ts w M→wpPhT P l Q bs w0 tail (putAll a0 l ts) w):
  ∀(k:Nat) (listed:Array Bool) (a:Act) (w:World),(M.filter fun i=> !listed.getD i true).length=k→InvM l K D M w0 a0 listed a w→wpAny P md l.toArray Q (k+tail.len) listed a w:=by
 have hok':=hok
 simp only [okM,Bool.and_eq_true,List.all_eq_true,List.any_eq_true,decide_eq_true_eq,beq_iff_eq,Bool.or_eq_true,List.contains_iff_mem,List.mem_range] at hok'
 obtain ⟨⟨⟨⟨⟨o1,o2⟩,o3⟩,o4⟩,o5⟩,o6⟩:=hok'
 intro k
 induction k with
 | zero=>
  intro listed a w hk hI
  obtain ⟨ts,ht1,rfl,ht2⟩:=hI.val
  have hall:∀i∈M,listed.getD i false=true:=fun i hi=>by
   have h0:=List.length_eq_zero_iff.1 hk
   rw [List.filter_eq_nil_iff] at h0
   have:=h0 i hi
   rw [getD_true (by rw [hI.size]; exact (o2 i hi).1)] at this
   simpa using this
  have hl:listed=((List.range l.length).map (fun i=>M.contains i)).toArray:=by
   apply Array.ext
   ·simp [hI.size]
   ·intro i h1 h2
    have e1:listed[i]=listed.getD i false:=by simp [Array.getD,h1]
    rw [e1]
    simp only [List.getElem_toArray,List.getElem_map,List.getElem_range]
    by_cases hm:i∈M
    ·rw [hall i hm]; simpa using hm
    ·have:listed.getD i false=false:=by
      cases hb:listed.getD i false
      ·rfl
      ·exact absurd (hI.sub i hb) hm
     rw [this]; simpa using hm
  have:=wpAnyC_phT (P:=P) (md:=md) (bs:=bs) (w0:=w0) hs hQ tail listed (putAll a0 l ts) w (SameC.of_ext hI.ext hbs) (by rw [hl]; exact o6) (hend ts w ht1 hI.ext (holdsL_of fun d hd=>ht2 d (hall d hd)))
  rw [Nat.zero_add]
  exact wpAny_of_held _ _ _ _ this
 | succ k ih=>
  intro listed a w hk hI
  have hmiss:∃m∈M,listed.getD m false=false:=by
   have:(M.filter fun i=> !listed.getD i true)≠[]:=fun h=>by rw [h] at hk; simp at hk
   obtain ⟨m,hm⟩:=List.exists_mem_of_ne_nil _ this
   rw [List.mem_filter] at hm
   refine ⟨m,hm.1,?_⟩
   have h:=hm.2
   rw [getD_true (by rw [hI.size]; exact (o2 m hm.1).1)] at h
   simpa using h
  have hne:Region.ready md l.toArray listed≠[]:=by
   obtain ⟨m,hm,hf⟩:=hmiss
   have go:∀(n m:Nat),m<n→m∈M→listed.getD m false=false→Region.ready md l.toArray listed≠[]:=by
    intro n
    induction n with
    | zero=>intro m h; omega
    | succ n ihn=>
     intro m hmn hm hf
     by_cases hd:∀e∈bnd md l m,listed.getD e false=true
     ·intro h0
      have:m∈Region.ready md l.toArray listed:=(ready_iff (o2 m hm).1).2 ⟨by rw [getD_true (by rw [hI.size]; exact (o2 m hm).1)]; exact hf,hd⟩
      rw [h0] at this
      cases this
     ·simp only [Classical.not_forall] at hd
      obtain ⟨e,he,hne⟩:=hd
      have:=(o2 m hm).2 e he
      exact ihn e (by omega) this.2 (by simpa using hne)
   exact go (m+1) m (by omega) hm hf
  rw [Nat.add_right_comm]
  refine ⟨fun h=>absurd h hne,fun i hi=> ?_⟩
  have hil:i<l.length:=by
   have:=(mem_ready.1 hi)
   obtain ⟨_,o,ho,_⟩:=this
   simpa using (Array.getElem?_eq_some_iff.1 ho).1
  obtain ⟨r1,r2⟩:=(ready_iff hil).1 hi
  have hdl:∀d∈nthD D i,listed.getD d false=true:=fun d hd=>by
   obtain ⟨e,he,h⟩:=(o3 i hil).1 d hd
   rcases h with h | h
   ·subst h; exact r2 e he
   ·exact hI.down e (r2 e he) d h
  have hiM:i∈M:=by
   rcases (o3 i hil).2 with h | h
   ·exact h
   ·obtain ⟨m,hm,hf⟩:=hmiss
    rw [hdl m (h m hm)] at hf
    cases hf
  obtain ⟨ts,ht1,rfl,ht2⟩:=hI.val
  have hstep:=stepsM_at hst i hiM ts w ht1 hI.ext (holdsL_of fun d hd=>ht2 d (hdl d hd))
  refine wpOp_mono (fun a' w' h'=> ?_) (wpOp_one hil hstep)
  obtain ⟨hx,v,rfl,hv⟩:=h'
  have hsz:i<listed.size:=by rw [hI.size]; exact hil
  refine ih _ _ _ ?_ ⟨by simp [hI.size],?_,?_,⟨ts.set i v,by simp [ht1],putAll_put v l ts a0 i o1 hil ht1.symm,?_⟩,hI.ext.trans hx⟩
  ·have:=filter_less (p:=fun j=> !listed.getD j true) (p':=fun j=> !(listed.setIfInBounds i true).getD j true) o4 hiM (by simpa using r1) (by simp [getD_set hsz]) (fun j hj=>by simp only [getD_set hsz,if_neg (Ne.symm hj)])
   omega
  ·intro j hj
   rw [getD_set hsz] at hj
   split at hj
   ·rename_i e; subst e; exact hiM
   ·exact hI.sub j hj
  ·intro j hj d hd
   rw [getD_set hsz] at hj ⊢
   split
   ·rfl
   ·split at hj
    ·rename_i e; subst e; exact hdl d hd
    ·exact hI.down j hj d hd
  ·intro j hj
   rw [getD_set hsz] at hj
   split at hj
   ·rename_i e; subst e; rw [nthV_set_same (by rw [ht1]; exact hil)]; exact hv
   ·rename_i e; rw [nthV_set_ne e]; exact hK _ _ _ _ (ht2 j hj) hx
theorem wp_region_M {id:Nat} {a:Act} {w:World} (K:Nat→Value→World→Prop) (M:List Nat) (D:List (List Nat)) (bs:List (Nat×Nat)) (tail:PhT) (hm:P.follows .mixedOrders=true) (hc:(Region.noSelect l.toArray&&okM .any l M D tail)=true) (hQ:∀c a w d v,Q (.panic c) (a.put d v) w→Q (.panic c) a w)
  (hbs:∀q∈bs,q.1<w.heap.size) (hK:∀i v w w',K i v w→Ext w w'→K i v w') (hst:stepsM P l Q K D w a M)
  (hend:∀(ts:List Value) (w':World),ts.length=l.length→Ext w w'→holdsL K ts w' M→wpPhT P l Q bs w tail (putAll a l ts) w'):(Code.region id l.toArray true).wp P Q a w:=by
 simp only [Bool.and_eq_true] at hc
 have hok:=hc.2
 simp only [okM,Bool.and_eq_true,decide_eq_true_eq] at hok
 have hlen:=hok.1.2
 have hin:∀i∈M,i<l.length:=fun i hi=>by
  have:=hok.1.1.1.1.2
  rw [List.all_eq_true] at this
  have:=this i hi
  simp only [Bool.and_eq_true,decide_eq_true_eq] at this
  exact this.1
 refine wp_region_any hm ?_
 have hf:(M.filter fun i=> !(Array.replicate l.length false).getD i true).length=M.length:=by
  rw [List.filter_eq_self.2]
  intro i hi
  simp [Array.getD,hin i hi]
 have:=wpAny_M (P:=P) (md:= .any) hc.1 hQ hc.2 hK hst hbs hend M.length (Array.replicate l.length false) a w.drew hf ⟨by simp,?_,?_,⟨l.map (ownV a),by simp,(putAll_own a l).symm,?_⟩,(Ext.refl w).drew⟩
 ·rw [hlen] at this
  simpa using this
 all_goals
  intro i hi
  have h1:=getD_lt hi
  simp at h1
  simp [Array.getD,h1] at hi
end
abbrev stK (k:Value→World→Prop):Prop:=∀v w w',k v w→Ext w w'→k v w'
def stabL:List (Value→World→Prop)→Prop
 | []=>True
 | k::ks=>stK k∧stabL ks
theorem stabL_at:∀ {ks:List (Value→World→Prop)},stabL ks→∀i,stK (nthK ks i)
 | [],_,_=>fun _ _ _ _ _=>trivial
 | _::_,h,0=>h.1
 | _::_,h,i+1=>stabL_at h.2 i
def KC (c:Value):Value→World→Prop:=fun v _=>v=c
def KR (lo:Nat) (t:TypeId) (cs:List Value):Value→World→Prop:=fun v w=>∃g,v= .pointer (some ⟨g,0,none⟩)∧Row w g t cs∧lo≤g
theorem stKC (c:Value):stK (KC c):=fun _ _ _ h _=>h
theorem stKR (lo:Nat) (t:TypeId) (cs:List Value):stK (KR lo t cs):=fun _ _ _ ⟨g,h1,h2,h3⟩ hx=>⟨g,h1,h2.ext hx,h3⟩
theorem wp_region_K {P:Program} {id:Nat} {Q:Exit→Act→World→Prop} {a:Act} {w:World} {l:List Oper} (Ks:List (Value→World→Prop)) (M:List Nat) (D:List (List Nat)) (bs:List (Nat×Nat)) (tail:PhT) (hm:P.follows .mixedOrders=true) (hc:(Region.noSelect l.toArray&&okM .any l M D tail)=true) (hQ:∀c a w d v,Q (.panic c) (a.put d v) w→Q (.panic c) a w)
  (hbs:∀q∈bs,q.1<w.heap.size) (hK:stabL Ks) (hst:stepsM P l Q (nthK Ks) D w a M)
  (hend:∀(ts:List Value) (w':World),ts.length=l.length→Ext w w'→holdsL (nthK Ks) ts w' M→wpPhT P l Q bs w tail (putAll a l ts) w'):(Code.region id l.toArray true).wp P Q a w:=
 wp_region_M (nthK Ks) M D bs tail hm hc hQ hbs (fun i v w w' h hx=>stabL_at hK i v w w' h hx) hst hend
theorem vcons {ts:List Value} {n:Nat} (h:ts.length=n+1):∃t ts',ts=t::ts'∧ts'.length=n:=by
 cases ts with
 | nil=>cases h
 | cons t ts=>exact ⟨t,ts,rfl,by simpa using h⟩
theorem vnil {ts:List Value} (h:ts.length=0):ts=[]:=List.eq_nil_of_length_eq_zero h
end Go.Proofs.YtfkpghdmljjegaaGreat
