/-
  Sharing out a total by weights: the greatest rests first.
-/
import Derived.Test.YtfkpghdmljjegaaGreatVd00
import Derived.Test.YtfkpghdmljjegaaGreatVd06
import Derived.Test.YtfkpghdmljjegaaGreatVd26
import Derived.Test.YtfkpghdmljjegaaGreatVd08
import Derived.Test.YtfkpghdmljjegaaGreatVd04
import Derived.Test.YtfkpghdmljjegaaGreatVd05
import Derived.Test.YtfkpghdmljjegaaGreatVd23
namespace Go.Proofs.YtfkpghdmljjegaaGreat
def sumZ:List Int→Int
 | []=>0
 | x::l=>x+sumZ l
theorem sumZ_append (a b:List Int):sumZ (a++b)=sumZ a+sumZ b:=by
 induction a with
 | nil=>simp [sumZ]
 | cons x a ih=>simp only [List.cons_append,sumZ,ih]; omega
theorem sumZ_set:∀(l:List Int) (b:Nat) (z v:Int),l[b]? =some z→sumZ (l.set b v)=sumZ l-z+v
 | [],b,z,v,h=>by simp at h
 | x::l,0,z,v,h=>by simp at h; subst h; simp only [List.set_cons_zero,sumZ]; omega
 | x::l,b+1,z,v,h=>by
  have ih:=sumZ_set l b z v (by simpa using h)
  simp only [List.set_cons_succ,sumZ,ih]
  omega
theorem sumZ_nonneg:∀ {l:List Int},(∀z∈l,0≤z)→0≤sumZ l
 | [],_=>by simp [sumZ]
 | x::l,h=>by
  have h1:=h x (by simp)
  have h2:=sumZ_nonneg (l:=l) (fun z hz=>h z (by simp [hz]))
  simp only [sumZ]; omega
structure Best (l:List Int) (b:Nat) (z:Int):Prop where
 at_:l[b]? =some z
 all:∀(j:Nat) (y:Int),l[j]? =some y→y≤z
 first:∀(j:Nat) (y:Int),j<b→l[j]? =some y→y<z
theorem Best.uniq {l:List Int} {b b':Nat} {z z':Int} (h:Best l b z) (h':Best l b' z'):b=b'∧z=z':=by
 have e1:=h.all b' z' h'.at_
 have e2:=h'.all b z h.at_
 obtain rfl:z=z':=by omega
 refine ⟨?_,rfl⟩
 rcases Nat.lt_trichotomy b b' with hlt | rfl | hlt
 ·have:=h'.first b z hlt h.at_; omega
 ·rfl
 ·have:=h.first b' z hlt h'.at_; omega
inductive Dist:Nat→List Int→List Int→List Int→Prop
 | zero (o r:List Int):Dist 0 o r o
 | step {k:Nat} {o r o':List Int} {b:Nat} {z y:Int} (hb:Best r b z) (hy:o[b]? =some y) (h:Dist k (o.set b (y+1)) (r.set b (-1)) o'):Dist (k+1) o r o'
theorem Dist.uniq {k:Nat} {o r o1 o2:List Int} (h:Dist k o r o1) (h':Dist k o r o2):o1=o2:=by
 induction h with
 | zero=>cases h'; rfl
 | step hb hy h ih=>
  cases h' with
  | step hb' hy' h'=>
   obtain ⟨rfl,rfl⟩:=hb.uniq hb'
   rw [hy] at hy'
   obtain rfl:=Option.some.inj hy'
   exact ih h'
theorem Dist.len {k:Nat} {o r o':List Int} (h:Dist k o r o'):o'.length=o.length:=by
 induction h with
 | zero=>rfl
 | step _ _ _ ih=>rw [ih,List.length_set]
theorem Dist.sum {k:Nat} {o r o':List Int} (h:Dist k o r o'):sumZ o'=sumZ o+k:=by
 induction h with
 | zero=>simp
 | step _ hy _ ih=>rw [ih,sumZ_set _ _ _ _ hy]; omega
def sumP:List Int→Int
 | []=>0
 | x::l=>(if 0≤x then x else 0)+sumP l
theorem sumP_set:∀(l:List Int) (b:Nat) (z:Int),l[b]? =some z→0≤z→sumP (l.set b (-1))=sumP l-z
 | [],b,z,h,_=>by simp at h
 | x::l,0,z,h,h0=>by simp at h; subst h; simp only [List.set_cons_zero,sumP]; rw [if_pos h0,if_neg (by omega)]; omega
 | x::l,b+1,z,h,h0=>by
  have ih:=sumP_set l b z (by simpa using h) h0
  simp only [List.set_cons_succ,sumP,ih]
  omega
theorem sumP_pos:∀ {l:List Int},0<sumP l→∃(j:Nat) (y:Int),l[j]? =some y∧0<y
 | [],h=>by simp [sumP] at h
 | x::l,h=>by
  by_cases hx:0<x
  ·exact ⟨0,x,rfl,hx⟩
  ·simp only [sumP] at h
   obtain ⟨j,y,hj,hy⟩:=sumP_pos (l:=l) (by split at h <;> omega)
   exact ⟨j+1,y,by simpa using hj,hy⟩
theorem sumP_all:∀ {l:List Int},(∀z∈l,0≤z)→sumP l=sumZ l
 | [],_=>rfl
 | x::l,h=>by
  simp only [sumP,sumZ]
  rw [if_pos (h x (by simp)),sumP_all (l:=l) (fun z hz=>h z (by simp [hz]))]
theorem Best.ex:∀ {l:List Int},l≠[]→∃b z,Best l b z
 | [x],_=>⟨0,x,rfl,fun j y h=>by cases j with | zero=>simp at h; omega | succ j=>simp at h,fun j y h=>absurd h (by omega)⟩
 | x::x'::l,_=>by
  obtain ⟨b,z,hb⟩:=Best.ex (l:=x'::l) (by simp)
  by_cases hx:z≤x
  ·refine ⟨0,x,rfl,fun j y h=> ?_,fun j y h=>absurd h (by omega)⟩
   cases j with
   | zero=>simp at h; omega
   | succ j=>have:=hb.all j y (by simpa using h); omega
  ·refine ⟨b+1,z,by simpa using hb.at_,fun j y h=> ?_,fun j y hj h=> ?_⟩
   ·cases j with
    | zero=>simp at h; omega
    | succ j=>exact hb.all j y (by simpa using h)
   ·cases j with
    | zero=>simp at h; omega
    | succ j=>exact hb.first j y (by omega) (by simpa using h)
theorem Best.one {l:List Int} {x:Int} (h:l[0]? =some x):Best (l.take 1) 0 x:=by
 cases l with
 | nil=>simp at h
 | cons a l=>simp at h; subst h; exact ⟨rfl,fun j y hj=>by cases j with | zero=>simp at hj; omega | succ j=>simp at hj,fun j y hj _=>by omega⟩
theorem take_old {l:List Int} {j i:Nat} {y:Int} (h:(l.take (j+1))[i]? =some y):(i<j∧(l.take j)[i]? =some y)∨(i=j∧l[j]? =some y):=by
 rw [List.getElem?_take] at h
 split at h
 ·rcases Nat.lt_or_ge i j with hlt | hge
  ·exact .inl ⟨hlt,by rw [List.getElem?_take,if_pos hlt]; exact h⟩
  ·obtain rfl:i=j:=by omega
   exact .inr ⟨rfl,h⟩
 ·cases h
theorem Best.take_gt {l:List Int} {j b:Nat} {z y:Int} (h:Best (l.take j) b z) (hy:l[j]? =some y) (hgt:z<y):Best (l.take (j+1)) j y:=by
 refine ⟨by rw [List.getElem?_take,if_pos (by omega)]; exact hy,fun i v hv=> ?_,fun i v hi hv=> ?_⟩
 ·rcases take_old hv with ⟨_,h1⟩ | ⟨_,h1⟩
  ·have:=h.all i v h1; omega
  ·rw [hy] at h1; have:=Option.some.inj h1; omega
 ·rcases take_old hv with ⟨_,h1⟩ | ⟨h0,_⟩
  ·have:=h.all i v h1; omega
  ·omega
theorem Best.take_le {l:List Int} {j b:Nat} {z y:Int} (h:Best (l.take j) b z) (hy:l[j]? =some y) (hle:y≤z):Best (l.take (j+1)) b z:=by
 have hb:=(List.getElem?_eq_some_iff.1 h.at_).1
 rw [List.length_take] at hb
 have h0:=h.at_
 rw [List.getElem?_take,if_pos (by omega)] at h0
 refine ⟨by rw [List.getElem?_take,if_pos (by omega)]; exact h0,fun i v hv=> ?_,fun i v hi hv=> ?_⟩
 ·rcases take_old hv with ⟨_,h1⟩ | ⟨_,h1⟩
  ·exact h.all i v h1
  ·rw [hy] at h1; have:=Option.some.inj h1; omega
 ·rcases take_old hv with ⟨_,h1⟩ | ⟨h2,_⟩
  ·exact h.first i v hi h1
  ·omega
def pickM:List Bool→List Int→List Int
 | true::m,x::l=>x::pickM m l
 | false::m,_::l=>pickM m l
 | _,_=>[]
def rankM:List Bool→Nat→Nat
 | _,0=>0
 | true::m,b+1=>rankM m b+1
 | false::m,b+1=>rankM m b
 | [],_+1=>0
theorem pick_at:∀ {m:List Bool} {l:List Int} {b:Nat},m[b]? =some true→b<l.length→(pickM m l)[rankM m b]? =l[b]?
 | [],l,b,h,_=>by simp at h
 | m0::m,[],b,_,h=>by simp at h
 | true::m,x::l,0,_,_=>rfl
 | false::m,x::l,0,h,_=>by simp at h
 | true::m,x::l,b+1,h,hl=>by
  have:=pick_at (m:=m) (l:=l) (b:=b) (by simpa using h) (by simpa using hl)
  simpa [pickM,rankM] using this
 | false::m,x::l,b+1,h,hl=>by
  have:=pick_at (m:=m) (l:=l) (b:=b) (by simpa using h) (by simpa using hl)
  simpa [pickM,rankM] using this
theorem pick_set:∀ {m:List Bool} {l:List Int} {b:Nat} (v:Int),m[b]? =some true→pickM m (l.set b v)=(pickM m l).set (rankM m b) v
 | [],l,b,v,h=>by simp at h
 | m0::m,[],b,v,_=>by cases m0 <;> simp [pickM]
 | true::m,x::l,0,v,_=>rfl
 | false::m,x::l,0,v,h=>by simp at h
 | true::m,x::l,b+1,v,h=>by
  have:=pick_set (m:=m) (l:=l) (b:=b) v (by simpa using h)
  simp [pickM,rankM,this]
 | false::m,x::l,b+1,v,h=>by
  have:=pick_set (m:=m) (l:=l) (b:=b) v (by simpa using h)
  simp [pickM,rankM,this]
theorem pick_from:∀ {m:List Bool} {l:List Int} {j:Nat} {y:Int},(pickM m l)[j]? =some y→∃i,m[i]? =some true∧l[i]? =some y∧rankM m i=j
 | [],l,j,y,h=>by simp [pickM] at h
 | m0::m,[],j,y,h=>by cases m0 <;> simp [pickM] at h
 | true::m,x::l,0,y,h=>⟨0,rfl,by simpa [pickM] using h,rfl⟩
 | true::m,x::l,j+1,y,h=>by
  obtain ⟨i,h1,h2,h3⟩:=pick_from (m:=m) (l:=l) (j:=j) (y:=y) (by simpa [pickM] using h)
  exact ⟨i+1,by simpa using h1,by simpa using h2,by simp [rankM,h3]⟩
 | false::m,x::l,j,y,h=>by
  obtain ⟨i,h1,h2,h3⟩:=pick_from (m:=m) (l:=l) (j:=j) (y:=y) (by simpa [pickM] using h)
  exact ⟨i+1,by simpa using h1,by simpa using h2,by simp [rankM,h3]⟩
theorem rank_lt:∀ {m:List Bool} {i b:Nat},m[i]? =some true→rankM m i<rankM m b→i<b
 | [],i,b,h,_=>by simp at h
 | m0::m,i,0,_,h=>by simp [rankM] at h
 | m0::m,0,b+1,_,_=>by omega
 | true::m,i+1,b+1,h,hr=>by
  have:=rank_lt (m:=m) (i:=i) (b:=b) (by simpa using h) (by simpa [rankM] using hr)
  omega
 | false::m,i+1,b+1,h,hr=>by
  have:=rank_lt (m:=m) (i:=i) (b:=b) (by simpa using h) (by simpa [rankM] using hr)
  omega
theorem Best.pick {m:List Bool} {l:List Int} {b:Nat} {z:Int} (h:Best l b z) (hm:m[b]? =some true):Best (pickM m l) (rankM m b) z:=by
 have hl:=(List.getElem?_eq_some_iff.1 h.at_).1
 refine ⟨by rw [pick_at hm hl]; exact h.at_,fun j y hj=> ?_,fun j y hj hy=> ?_⟩
 ·obtain ⟨i,_,h2,_⟩:=pick_from hj
  exact h.all i y h2
 ·obtain ⟨i,h1,h2,h3⟩:=pick_from hy
  exact h.first i y (rank_lt h1 (by rw [h3]; exact hj)) h2
theorem Dist.pick {k:Nat} {o r o':List Int} (h:Dist k o r o') {m:List Bool} {s:Int} (hlen:r.length=m.length) (hz:∀(j:Nat) (y:Int),m[j]? =some false→r[j]? =some y→y=0)
  (hs:∀(j:Nat) (y:Int),r[j]? =some y→y<s) (hsum:(k:Int)*s≤sumP r) (hs0:0<s):
  Dist k (pickM m o) (pickM m r) (pickM m o')∧∀j:Nat,m[j]? =some false→o'[j]? =o[j]? :=by
 induction h with
 | zero o r=>exact ⟨Dist.zero _ _,fun j _=>rfl⟩
 | @step k o r o' b z y hb hy h ih=>
  have hpos:0<sumP r:=by
   have:s≤((k+1:Nat):Int)*s:=by
    have h1:(0:Int)≤(k:Int)*s:=Int.mul_nonneg (by omega) (by omega)
    rw [Int.natCast_succ,Int.add_mul,Int.one_mul]; omega
   omega
  obtain ⟨j,v,hj,hv⟩:=sumP_pos hpos
  have hzp:0<z:=by have:=hb.all j v hj; omega
  have hbl:=(List.getElem?_eq_some_iff.1 hb.at_).1
  have hmb:m[b]? =some true:=by
   cases hc:m[b]? with
   | none=>rw [List.getElem?_eq_none_iff] at hc; omega
   | some c=>
    cases c with
    | true=>rfl
    | false=>have:=hz b z hc hb.at_; omega
  have hol:b<o.length:=(List.getElem?_eq_some_iff.1 hy).1
  obtain ⟨i1,i2⟩:=ih (by rw [List.length_set]; exact hlen) (fun j y hm hr=>by
    rw [List.getElem?_set] at hr
    split at hr
    ·rename_i e; subst e; rw [hmb] at hm; cases hm
    ·exact hz j y hm hr) (fun j y hr=>by
    rw [List.getElem?_set] at hr
    split at hr
    ·cases hr; omega
    ·exact hs j y hr) (by
    rw [sumP_set r b z hb.at_ (by omega)]
    have:=hs b z hb.at_
    rw [Int.natCast_succ,Int.add_mul,Int.one_mul] at hsum
    omega)
  refine ⟨?_,fun j hm=> ?_⟩
  ·rw [pick_set _ hmb,pick_set _ hmb] at i1
   exact Dist.step (hb.pick hmb) (by rw [pick_at hmb hol]; exact hy) i1
  ·rw [i2 j hm,List.getElem?_set,if_neg (fun e=>by subst e; rw [hmb] at hm; cases hm)]
theorem Dist.ex:∀(k:Nat) (o r:List Int),r≠[]→o.length=r.length→∃o',Dist k o r o'
 | 0,o,r,_,_=>⟨o,.zero _ _⟩
 | k+1,o,r,hr,hl=>by
  obtain ⟨b,z,hb⟩:=Best.ex hr
  have hbl:=(List.getElem?_eq_some_iff.1 hb.at_).1
  obtain ⟨o',h⟩:=Dist.ex k (o.set b (o[b]+1)) (r.set b (-1)) (by intro e; have:=congrArg List.length e; rw [List.length_set] at this; simp at this; exact hr this) (by rw [List.length_set,List.length_set]; exact hl)
  exact ⟨o',.step hb (List.getElem?_eq_getElem (by omega)) h⟩
def quoL (t s:Int) (ws:List Int):List Int:=ws.map fun w=>t*w/s
def remL (t s:Int) (ws:List Int):List Int:=ws.map fun w=>t*w % s
theorem quo_rem (t s:Int):∀ws:List Int,t*sumZ ws=s*sumZ (quoL t s ws)+sumZ (remL t s ws)
 | []=>by simp [sumZ,quoL,remL]
 | w::ws=>by
  have ih:=quo_rem t s ws
  have h:=Int.mul_ediv_add_emod (t*w) s
  simp only [quoL,remL,List.map_cons,sumZ] at *
  rw [Int.mul_add,Int.mul_add,ih]
  omega
def Shares (t:Int) (ws o:List Int):Prop:=Dist (t-sumZ (quoL t (sumZ ws) ws)).toNat (quoL t (sumZ ws) ws) (remL t (sumZ ws) ws) o
theorem rem_nonneg {t s:Int} (hs:0<s) (ws:List Int):∀z∈remL t s ws,0≤z∧z<s:=by
 intro z hz
 obtain ⟨w,_,rfl⟩:=List.mem_map.1 hz
 exact ⟨Int.emod_nonneg _ (by omega),Int.emod_lt_of_pos _ hs⟩
theorem left_facts {t:Int} {ws:List Int} (hs:0<sumZ ws):0≤t-sumZ (quoL t (sumZ ws) ws)∧(t-sumZ (quoL t (sumZ ws) ws))*sumZ ws=sumZ (remL t (sumZ ws) ws):=by
 have h:=quo_rem t (sumZ ws) ws
 have e:(t-sumZ (quoL t (sumZ ws) ws))*sumZ ws=sumZ (remL t (sumZ ws) ws):=by
  rw [Int.sub_mul,Int.mul_comm (sumZ (quoL t (sumZ ws) ws))]; omega
 refine ⟨?_,e⟩
 have h0:=sumZ_nonneg (l:=remL t (sumZ ws) ws) (fun z hz=>(rem_nonneg hs ws z hz).1)
 rcases Int.lt_or_le (t-sumZ (quoL t (sumZ ws) ws)) 0 with hlt | hge
 ·have:(t-sumZ (quoL t (sumZ ws) ws))*sumZ ws<0:=Int.mul_neg_of_neg_of_pos hlt hs
  omega
 ·exact hge
theorem Shares.uniq {t:Int} {ws o o':List Int} (h:Shares t ws o) (h':Shares t ws o'):o=o':=Dist.uniq h h'
theorem Shares.len {t:Int} {ws o:List Int} (h:Shares t ws o):o.length=ws.length:=by rw [Dist.len h]; simp [quoL]
theorem Shares.sum {t:Int} {ws o:List Int} (h:Shares t ws o) (hs:0<sumZ ws):sumZ o=t:=by
 rw [Dist.sum h]; have:=(left_facts (t:=t) hs).1; omega
theorem Shares.ex (t:Int) {ws:List Int} (hs:0<sumZ ws):∃o,Shares t ws o:=by
 refine Dist.ex _ _ _ ?_ (by simp [quoL,remL])
 cases ws with
 | nil=>simp [sumZ] at hs
 | cons w ws=>simp [remL]
theorem pick_map (f:Int→Int):∀(m:List Bool) (l:List Int),pickM m (l.map f)=(pickM m l).map f
 | [],l=>by cases l <;> rfl
 | m0::m,[]=>by cases m0 <;> rfl
 | true::m,x::l=>by simp [pickM,pick_map f m l]
 | false::m,x::l=>by simp [pickM,pick_map f m l]
theorem pick_sum:∀ {m:List Bool} {l:List Int},l.length=m.length→(∀(j:Nat) (y:Int),m[j]? =some false→l[j]? =some y→y=0)→sumZ (pickM m l)=sumZ l
 | [],[],_,_=>rfl
 | [],x::l,h,_=>by simp at h
 | m0::m,[],h,_=>by simp at h
 | true::m,x::l,h,hz=>by
  simp only [pickM,sumZ]
  rw [pick_sum (m:=m) (l:=l) (by simpa using h) (fun j y h1 h2=>hz (j+1) y (by simpa using h1) (by simpa using h2))]
 | false::m,x::l,h,hz=>by
  simp only [pickM,sumZ]
  rw [pick_sum (m:=m) (l:=l) (by simpa using h) (fun j y h1 h2=>hz (j+1) y (by simpa using h1) (by simpa using h2)),hz 0 x rfl rfl]
  omega
theorem Shares.pick {t:Int} {ws o:List Int} (h:Shares t ws o) {m:List Bool} (hlen:ws.length=m.length) (hz:∀(j:Nat) (y:Int),m[j]? =some false→ws[j]? =some y→y=0) (hs:0<sumZ ws):
  Shares t (pickM m ws) (pickM m o)∧∀j:Nat,m[j]? =some false→j<o.length→o[j]? =some 0:=by
 obtain ⟨h0,h1⟩:=left_facts (t:=t) hs
 have hzq:∀(j:Nat) (y:Int),m[j]? =some false→(quoL t (sumZ ws) ws)[j]? =some y→y=0:=fun j y hm hj=>by
  rw [quoL,List.getElem?_map] at hj
  cases hw:ws[j]? with
  | none=>rw [hw] at hj; cases hj
  | some w=>rw [hw] at hj; have:=hz j w hm hw; subst this; simp at hj; exact hj.symm
 obtain ⟨a,b⟩:=Dist.pick h (m:=m) (s:=sumZ ws) (by simp [remL,hlen]) (fun j y hm hj=>by
   rw [remL,List.getElem?_map] at hj
   cases hw:ws[j]? with
   | none=>rw [hw] at hj; cases hj
   | some w=>rw [hw] at hj; have:=hz j w hm hw; subst this; simp at hj; exact hj.symm)
  (fun j y hj=>(rem_nonneg hs ws y (List.mem_of_getElem? hj)).2)
  (by rw [sumP_all (fun z hz=>(rem_nonneg hs ws z hz).1), ←h1,Int.toNat_of_nonneg h0]; exact Int.le_refl _) hs
 refine ⟨?_,fun j hm hj=> ?_⟩
 ·unfold Shares
  have e:=pick_sum hlen hz
  rw [e]
  have q1:pickM m (quoL t (sumZ ws) ws)=quoL t (sumZ ws) (pickM m ws):=pick_map _ m ws
  have q2:pickM m (remL t (sumZ ws) ws)=remL t (sumZ ws) (pickM m ws):=pick_map _ m ws
  have q3:sumZ (pickM m (quoL t (sumZ ws) ws))=sumZ (quoL t (sumZ ws) ws):=pick_sum (by simp [quoL,hlen]) hzq
  rw [←q1, ←q2,q3]
  exact a
 ·rw [b j hm]
  have hq:j<(quoL t (sumZ ws) ws).length:=by rw [←Dist.len h]; exact hj
  have:=hzq j _ hm (List.getElem?_eq_getElem hq)
  rw [List.getElem?_eq_getElem hq,this]
end Go.Proofs.YtfkpghdmljjegaaGreat
namespace Go.Proofs.YtfkpghdmljjegaaGreat
structure Order where
 shipper:Int
 node:Int
 amount:Int
 cls:Int
def Order.cells (x:Order):List Value:=[.int .i64 x.shipper,.int .i64 x.node,.int .i64 x.amount,.int .i64 x.cls]
theorem order_len (x:Order):x.cells.length=4:=rfl
theorem order_one (y:Order):∀u∈y.cells,u.oneCell'=true:=by intro u hu; simp [Order.cells] at hu; rcases hu with rfl | rfl | rfl | rfl <;> rfl
theorem order_info:(Tryz.prog.info? 199).map (fun i=>(i.zero,i.size,i.bytes))=some (some (.agg #[.int .i64 0,.int .i64 0,.int .i64 0,.int .i64 0]),4,32):=by kernel_rfl
def sgn (x:Reading):Int:=if x.amount<0 then -1 else 1
def absZ (z:Int):Int:=if z<0 then -z else z
def matchB (x:Reading) (o:Order):Bool:=o.node==x.node&&((decide (0<o.amount)&&decide (0<x.amount))||(decide (o.amount<0)&&decide (x.amount<0)))
def wt (x:Reading) (o:Order):Int:=if o.node=x.node then (if 0<sgn x*o.amount then sgn x*o.amount else 0) else 0
def wts (os:List Order) (x:Reading):List Int:=os.map (wt x)
theorem wt_yes {x:Reading} {o:Order} (h:matchB x o=true):wt x o=absZ o.amount∧0<wt x o:=by
 simp only [matchB,Bool.and_eq_true,Bool.or_eq_true,beq_iff_eq,decide_eq_true_eq] at h
 obtain ⟨h1,h2⟩:=h
 unfold wt absZ
 rw [if_pos h1]
 rcases h2 with ⟨a,b⟩ | ⟨a,b⟩
 ·have e:sgn x=1:=by unfold sgn; rw [if_neg (by omega)]
  rw [e,Int.one_mul,if_pos a,if_neg (by omega)]
  exact ⟨rfl,a⟩
 ·have e:sgn x= -1:=by unfold sgn; rw [if_pos b]
  rw [e,if_pos (by omega),if_pos a]
  omega
theorem wt_no {x:Reading} {o:Order} (h:matchB x o=false) (hx:x.amount≠0):wt x o=0:=by
 unfold wt
 split
 ·rename_i h1
  have h2:¬((0<o.amount∧0<x.amount)∨(o.amount<0∧x.amount<0)):=by
   intro h3
   have:matchB x o=true:=by simp only [matchB,Bool.and_eq_true,Bool.or_eq_true,beq_iff_eq,decide_eq_true_eq]; exact ⟨h1,h3⟩
   rw [this] at h; cases h
  unfold sgn
  split
  ·rw [if_neg (by omega)]
  ·rw [if_neg (by omega)]
 ·rfl
theorem wt_nonneg (x:Reading) (o:Order):0≤wt x o:=by unfold wt; split <;> (try split) <;> omega
theorem wts_nonneg (os:List Order) (x:Reading):∀z∈wts os x,0≤z:=by
 intro z hz
 obtain ⟨o,_,rfl⟩:=List.mem_map.1 hz
 exact wt_nonneg x o
theorem wts_pos {os:List Order} {x:Reading} {o:Order} (ho:o∈os) (h:matchB x o=true):0<sumZ (wts os x):=by
 induction os with
 | nil=>cases ho
 | cons a os ih=>
  have h0:=sumZ_nonneg (wts_nonneg os x)
  have h1:=wt_nonneg x a
  show 0<wt x a+sumZ (wts os x)
  rcases List.mem_cons.1 ho with rfl | ho
  ·have:=(wt_yes h).2; omega
  ·have:=ih ho; omega
theorem wts_zero {os:List Order} {x:Reading} (hx:x.amount≠0) (h:∀o∈os,matchB x o=false):sumZ (wts os x)=0:=by
 induction os with
 | nil=>rfl
 | cons a os ih=>
  show wt x a+sumZ (wts os x)=0
  rw [wt_no (h a (by simp)) hx,ih (fun o ho=>h o (by simp [ho]))]; rfl
def addS (s:Int) (g sh:List Int):List Int:=List.zipWith (fun a b=>a+s*b) g sh
theorem addS_len {s:Int} {g sh:List Int} (h:sh.length=g.length):(addS s g sh).length=g.length:=by simp [addS,h]
theorem addS_at {s:Int} {g sh:List Int} {i:Nat} {a b:Int} (ha:g[i]? =some a) (hb:sh[i]? =some b):(addS s g sh)[i]? =some (a+s*b):=by simp [addS,List.getElem?_zipWith,ha,hb]
inductive Alloc (os:List Order):List Int→List Reading→List Int→Prop
 | nil (g:List Int):Alloc os g [] g
 | skip {g g':List Int} {x:Reading} {rs:List Reading} (hz:sumZ (wts os x)=0) (h:Alloc os g rs g'):Alloc os g (x::rs) g'
 | add {g g' sh:List Int} {x:Reading} {rs:List Reading} (hs:0<sumZ (wts os x)) (hd:Shares (absZ x.amount) (wts os x) sh) (h:Alloc os (addS (sgn x) g sh) rs g'):Alloc os g (x::rs) g'
theorem Alloc.uniq {os:List Order} {g g1 g2:List Int} {rs:List Reading} (h:Alloc os g rs g1) (h':Alloc os g rs g2):g1=g2:=by
 induction h with
 | nil=>cases h'; rfl
 | skip hz h ih=>
  cases h' with
  | skip _ h'=>exact ih h'
  | add hs _ _=>omega
 | add hs hd h ih=>
  cases h' with
  | skip hz _=>omega
  | add _ hd' h'=>
   obtain rfl:=hd.uniq hd'
   exact ih h'
def unalL (os:List Order):Nat→List Reading→List Int
 | _,[]=>[]
 | k,x::rs=>if sumZ (wts os x)=0 then (k:Int)::unalL os (k+1) rs else unalL os (k+1) rs
theorem unal_snoc (os:List Order) (x:Reading):∀(k:Nat) (rs:List Reading),unalL os k (rs++[x])=unalL os k rs++if sumZ (wts os x)=0 then [((k+rs.length:Nat):Int)] else []
 | k,[]=>by simp [unalL]
 | k,y::rs=>by
  have ih:=unal_snoc os x (k+1) rs
  simp only [List.cons_append,unalL,ih,List.length_cons]
  rw [show k+1+rs.length=k+(rs.length+1) by omega]
  split <;> simp
theorem unal_take {os:List Order} {rs:List Reading} {k:Nat} {x:Reading} (h:rs[k]? =some x):unalL os 0 (rs.take (k+1))=unalL os 0 (rs.take k)++if sumZ (wts os x)=0 then [(k:Int)] else []:=by
 have hk:=(List.getElem?_eq_some_iff.1 h).1
 rw [List.take_add_one,h]
 have:=unal_snoc os x 0 (rs.take k)
 rw [List.length_take,Nat.min_eq_left (by omega),Nat.zero_add] at this
 exact this
theorem unal_len (os:List Order):∀(k:Nat) (rs:List Reading),(unalL os k rs).length≤rs.length
 | _,[]=>by simp [unalL]
 | k,x::rs=>by
  have:=unal_len os (k+1) rs
  simp only [unalL,List.length_cons]
  split
  ·simp; omega
  ·omega
theorem alloc_step {os:List Order} {g g2 shf:List Int} {x:Reading} (hx:x.amount≠0) (hg:g.length=os.length) (hg2:g2.length=os.length) (hs:0<sumZ (wts os x))
  (hf:∀(i:Nat),(os.map (matchB x))[i]? =some true→g[i]? =some 0)
  (hsh:Shares (absZ x.amount) (pickM (os.map (matchB x)) (wts os x)) shf)
  (h1:∀i:Nat,(os.map (matchB x))[i]? =some false→g2[i]? =g[i]?)
  (h2:∀i:Nat,(os.map (matchB x))[i]? =some true→∃v,shf[rankM (os.map (matchB x)) i]? =some v∧g2[i]? =some (sgn x*v)):
  ∃sh,Shares (absZ x.amount) (wts os x) sh∧g2=addS (sgn x) g sh:=by
 obtain ⟨sh,hsh0⟩:=Shares.ex (absZ x.amount) hs
 have hl:sh.length=g.length:=by rw [hsh0.len,hg]; simp [wts]
 have hml:(os.map (matchB x)).length=os.length:=by simp
 obtain ⟨hp,hz⟩:=hsh0.pick (m:=os.map (matchB x)) (by simp [wts]) (fun j y hm hy=>by
  rw [List.getElem?_map] at hm
  rw [wts,List.getElem?_map] at hy
  cases ho:os[j]? with
  | none=>rw [ho] at hm; cases hm
  | some o=>
   rw [ho] at hm hy
   simp at hm hy
   rw [←hy]; exact wt_no hm hx) hs
 obtain rfl:=hp.uniq hsh
 refine ⟨sh,hsh0,List.ext_getElem? fun i=> ?_⟩
 by_cases hi:i<os.length
 ·have hgi:=List.getElem?_eq_getElem (l:=g) (i:=i) (by omega)
  have hsi:=List.getElem?_eq_getElem (l:=sh) (i:=i) (by omega)
  cases hm:(os.map (matchB x))[i]? with
  | none=>rw [List.getElem?_eq_none_iff] at hm; omega
  | some c=>
   cases c with
   | false=>
    have h0:=hz i hm (by omega)
    rw [h1 i hm,addS_at hgi h0,hgi]; simp
   | true=>
    obtain ⟨v,hv,hv2⟩:=h2 i hm
    rw [pick_at hm (by omega)] at hv
    rw [hv2,addS_at (hf i hm) hv]; simp
 ·rw [List.getElem?_eq_none (by omega),List.getElem?_eq_none (by rw [addS_len hl]; omega)]
end Go.Proofs.YtfkpghdmljjegaaGreat
namespace Go.Proofs.YtfkpghdmljjegaaGreat
open Go.RowKit
theorem amt_step {nb:Nat} {L:List Nomination} {h:Int} {k:Nat} {x:Nomination} (hk:L[k]? =some x):amtL nb (L.take (k+1)) h=if x.hour=h then (amtL nb (L.take k) h).set x.contract.toNat x.amount else amtL nb (L.take k) h:=by
 rw [amtL_take hk]; rfl
set_option maxHeartbeats 1000000 in
theorem c_l21Amounts (A:Option Addr) (n c:Nat) (B:Option Addr) (m d:Nat) (L:List Nomination) (w:World) (hL:SliceOf w 4 Nomination.cells B m d L) (hn:n≤100000) (hin:∀x∈L,0≤x.contract∧x.contract<n) (h:Int):
  Calls Tryz.prog 177 #[.slice A n c,.slice B m d,.int .i64 h] w (RetI (fun E=>E=amtL n L h) w):=by
 have hmk:=fun W=>run_make_flat (P:=Tryz.prog) 24 2 _ _ 1 8 Tryz.underlying24 int_info (f:=intC) 0 rfl rfl rfl (by omega) n (by omega) (by omega) W
 have HIN:=hide hin
 have hmx:=hL.max
 have hcp:=hL.cap
 clear hin
 go_enter Tryz.func177,Tryz.ntmps177
 go_wp2_with fail
 go_loopw [8] (fun i wr=>∃k:Nat,k≤m∧i= .int .i64 k∧RowOf wr w.heap.size 2 intC (amtL n (L.take k) h)∧Ext w wr) (fun i _=>m-(intOf i).toNat)
 case atStart=>exact ⟨0,Nat.zero_le _,rfl,Row.newG _ _ (by simp),Ext.alloc _ _⟩
 case round=>
  obtain ⟨k,hk,rfl,hR,hx⟩:=hrel
  obtain ⟨E,HE⟩:∃E,Hid (amtL n (L.take k) h=E):=⟨_,hide rfl⟩
  have hel:E.length=n:=by rw [←HE.out]; exact amtL_len _
  rw [HE.out] at hR
  have hle:=hR.lt
  by_cases hlt:k<m
  ·obtain ⟨b,off,x,rfl,hb,hxk,hc⟩:=(hL.ext hx).get hlt
   have hc0:=hc 0 _ rfl
   have hc1:=hc 1 _ rfl
   have hc2:=hc 2 _ rfl
   have hc3:=hc 3 _ rfl
   clear hc
   simp only [Nat.add_zero] at hc0
   have hxi:=HIN.out x (List.mem_of_getElem? hxk)
   obtain ⟨y,hy⟩:∃y:Nat,x.contract=y:=⟨x.contract.toNat,by omega⟩
   have hyn:y<n:=by omega
   rw [hy] at hc0
   have HST:=hide (amt_step (nb:=n) (h:=h) hxk)
   clear hxk hxi
   cases e0:(x.hour==h)
   ·have HS1:=hide (show amtL n (L.take (k+1)) h=E by rw [HST.out,if_neg (by simpa using e0)]; exact HE.out)
    clear HST HE
    go_wp2_with fail
    go_roundw
    case rel=>exact ⟨k+1,by omega,by go_num,by rw [HS1.out]; exact hR,hx⟩
    case measure=>simp [intOf]; omega
   ·have HS1:=hide (show amtL n (L.take (k+1)) h=E.set y x.amount by rw [HST.out,if_pos (by simpa using e0),HE.out,hy,Int.toNat_natCast])
    clear HST HE
    obtain ⟨u,hu⟩:=hR.there intC_len (i:=y) (by omega) (j:=0) (by omega)
    simp only [Nat.mul_one,Nat.add_zero] at hu
    have hf:=hR.frozen y
    have hN:=RowOf.set0 (hR.ext (Ext.refl _).drew) (fun x=>⟨_,rfl⟩) (d:=y) (by omega) x.amount (.int .i64 x.amount) rfl
    have hx2:=hx.drew.setCell (p:=⟨w.heap.size,y,none⟩) (by simp) (.int .i64 x.amount)
    clear hR hx
    go_wp2_with fail
    refine wp_region_phZ [(b,off+k*4),(b,off+k*4+3)] [] [0,1,2,3,4,5,6,7,8,9,10,11] 12 (by kernel_rfl) (by kernel_rfl) (by intro c a w d v h; cases d <;> exact h) ?_
    simp only [wpPhZ,pickL,nthO]
    repeat (go_big_quiet_step (fail))
    refine wpQuiet_nil ?_
    set_option maxRecDepth 20000 in
    go_wp2_with fail
    go_roundw
    case rel=>exact ⟨k+1,by omega,by go_num,by rw [HS1.out]; exact hN,hx2⟩
    case measure=>simp [intOf]; omega
  ·have HS1:=hide (show E=amtL n L h by rw [←HE.out,List.take_of_length_le (by rw [←hL.len]; omega)])
   go_wp2_with fail
   go_ret
   have hO:=OwnL.of_row hR intC_len (base:=w.heap.size) (by omega) (by omega)
   rw [hel] at hO
   exact ⟨_,E,rfl,hO,HS1,hx⟩
set_option maxHeartbeats 1000000 in
theorem c_amountsIn (A:Option Addr) (n c:Nat) (B:Option Addr) (m d:Nat) (L:List Nomination) (w:World) (hL:SliceOf w 4 Nomination.cells B m d L) (hn:n≤100000) (hin:∀x∈L,0≤x.contract∧x.contract<n) (h:Int):
  Calls Tryz.prog 217 #[.slice A n c,.slice B m d,.int .i64 h] w (RetI (fun E=>E=amtL n L h) w):=by
 have hmk:=fun W=>run_make_flat (P:=Tryz.prog) 24 2 _ _ 1 8 Tryz.underlying24 int_info (f:=intC) 0 rfl rfl rfl (by omega) n (by omega) (by omega) W
 have HIN:=hide hin
 have hmx:=hL.max
 have hcp:=hL.cap
 clear hin
 go_enter Tryz.func217,Tryz.ntmps217
 go_wp2_with fail
 go_loopw [15] (fun i wr=>∃k:Nat,k≤m∧i= .int .i64 k∧RowOf wr w.heap.size 2 intC (amtL n (L.take k) h)∧Ext w wr) (fun i _=>m-(intOf i).toNat)
 case atStart=>exact ⟨0,Nat.zero_le _,rfl,Row.newG _ _ (by simp),Ext.alloc _ _⟩
 case round=>
  obtain ⟨k,hk,rfl,hR,hx⟩:=hrel
  obtain ⟨E,HE⟩:∃E,Hid (amtL n (L.take k) h=E):=⟨_,hide rfl⟩
  have hel:E.length=n:=by rw [←HE.out]; exact amtL_len _
  rw [HE.out] at hR
  have hle:=hR.lt
  by_cases hlt:k<m
  ·obtain ⟨b,off,x,rfl,hb,hxk,hc⟩:=(hL.ext hx).get hlt
   have hc0:=hc 0 _ rfl
   have hc1:=hc 1 _ rfl
   have hc2:=hc 2 _ rfl
   have hc3:=hc 3 _ rfl
   clear hc
   simp only [Nat.add_zero] at hc0
   have hxi:=HIN.out x (List.mem_of_getElem? hxk)
   obtain ⟨y,hy⟩:∃y:Nat,x.contract=y:=⟨x.contract.toNat,by omega⟩
   have hyn:y<n:=by omega
   rw [hy] at hc0
   have HST:=hide (amt_step (nb:=n) (h:=h) hxk)
   clear hxk hxi
   cases e0:(x.hour==h)
   ·have HS1:=hide (show amtL n (L.take (k+1)) h=E by rw [HST.out,if_neg (by simpa using e0)]; exact HE.out)
    clear HST HE
    go_wp2_with fail
    go_roundw
    case rel=>exact ⟨k+1,by omega,by go_num,by rw [HS1.out]; exact hR.ext (Ext.alloc _ _),hx.and_alloc _⟩
    case measure=>simp [intOf]; omega
   ·have HS1:=hide (show amtL n (L.take (k+1)) h=E.set y x.amount by rw [HST.out,if_pos (by simpa using e0),HE.out,hy,Int.toNat_natCast])
    clear HST HE
    obtain ⟨u,hu⟩:=hR.there intC_len (i:=y) (by omega) (j:=0) (by omega)
    simp only [Nat.mul_one,Nat.add_zero] at hu
    have hf:=hR.frozen y
    go_wp2_with fail
    go_roundw
    case rel=>exact ⟨k+1,by omega,by go_num,by rw [HS1.out]; exact (RowOf.set0 hR (fun x=>⟨_,rfl⟩) (d:=y) (by omega) x.amount (.int .i64 x.amount) rfl).ext (Ext.alloc _ _),(hx.setCell (p:=⟨w.heap.size,y,none⟩) (by simp) (.int .i64 x.amount)).and_alloc _⟩
    case measure=>simp [intOf]; omega
  ·have HS1:=hide (show E=amtL n L h by rw [←HE.out,List.take_of_length_le (by rw [←hL.len]; omega)])
   go_wp2_with fail
   go_ret
   have hO:=OwnL.of_row hR intC_len (base:=w.heap.size) (by omega) (by omega)
   rw [hel] at hO
   exact ⟨_,E,rfl,hO,HS1,hx⟩
end Go.Proofs.YtfkpghdmljjegaaGreat
namespace Go.Proofs.YtfkpghdmljjegaaGreat
open Go.RowKit
theorem zip_step {α β γ:Type} {f:α→β→γ} {xs:List α} {ys:List β} {k:Nat} {x:α} {y:β} (hx:xs[k]? =some x) (hy:ys[k]? =some y):(List.zipWith f xs ys).take (k+1)=(List.zipWith f xs ys).take k++[f x y]:=by
 rw [List.take_add_one,List.getElem?_zipWith,hx,hy]; rfl
theorem same_grown {bs:List (Nat×Nat)} {wr W w2:World} {v:Value} (hxa:Ext wr W) (hg:W.grownBy w2 v.ownBlock) (h:∀p∈bs,p.1<wr.heap.size∧∀j,v.ownBlock=some j→p.1≠j):SameC bs wr w2:=by
 intro p hp
 obtain ⟨h1,h2⟩:=h p hp
 have h3:=hxa.size
 exact (World.cell?_of_block (w:=W) (hg.block p.1 (by omega) (fun e=>h2 p.1 e.symm rfl))).trans (hxa.cell _ _ h1)
set_option maxHeartbeats 1000000 in
theorem c_l31Transports (A:Option Addr) (n c:Nat) (xs:List Contract) (B:Option Addr) (m d:Nat) (L:List Nomination) (w:World) (hs:SliceOf w 8 Contract.cells A n c xs) (hL:SliceOf w 4 Nomination.cells B m d L) (hn:n≤100000) (hin:∀x∈L,0≤x.contract∧x.contract<n) (h:Int):
  Calls Tryz.prog 101 #[.slice A n c,.slice B m d,.int .i64 h] w (RetT (fun E=>E=trnL xs L h) w):=by
 have HLN:=hide hs.len
 go_enter Tryz.func101,Tryz.ntmps101
 go_wp2_with fail
 refine (c_l21Amounts A n c B m d L w hL hn hin h).mono ?_
 rintro e w1 ⟨v1,am,rfl,ho1,HE,hx1⟩
 have hal:am.length=n:=by rw [HE.out]; exact amtL_len _
 obtain ⟨A4,c4,rfl,hs4⟩:=ho1.sl intC_len (by omega)
 rw [hal] at hs4
 rw [hal]
 have HTL:Hid (List.zipWith trnOf xs am=trnL xs L h):=hide (by unfold trnL; rw [HE.out, ←HLN.out])
 have hs1:=hs.ext hx1
 have hO0:OwnL (w1.alloc (.cells #[] 201)) w1.heap.size 201 4 Trn.cells (.slice (some ⟨w1.heap.size,0,none⟩) 0 0) []:=own_new w1 w1.heap.size _ _ _ _ rfl (Nat.le_refl _)
 have hw1:=hx1.size
 clear ho1 hin hs hL
 go_wp2_with fail
 go_loopw [8,9] (fun v i wr=>∃(k:Nat) (T:List Trn),k≤n∧i= .int .i64 k∧T.length=k∧Hid (T=(List.zipWith trnOf xs am).take k)∧OwnL wr w1.heap.size 201 4 Trn.cells v T∧Ext w1 wr) (fun _ i _=>n-(intOf i).toNat)
 case atStart=>exact ⟨0,[],Nat.zero_le _,rfl,rfl,hide rfl,hO0,Ext.alloc _ _⟩
 case round=>
  clear hO0
  obtain ⟨k,T,hk,rfl,hTk,HT,ho,hx⟩:=hrel
  by_cases hlt:k<n
  ·obtain ⟨b,off,x,hA,hb,hxk,hc⟩:=(hs1.ext hx).get hlt
   have hc1:=hc 1 _ rfl
   have hc2:=hc 2 _ rfl
   have hc4:=hc 4 _ rfl
   clear hc
   subst hA
   obtain ⟨ba,oa,a,hB,hba,hak,hca⟩:=(hs4.ext hx).get hlt
   have hca0:=hca 0 _ rfl
   clear hca
   subst hB
   simp only [Nat.add_zero,Nat.mul_one] at hca0
   have hbw:b<w1.heap.size:=hs1.blk (b:=b) (by unfold blkOf; rw [if_neg (by omega)]; rfl)
   have hbaw:ba<w1.heap.size:=hs4.blk (b:=ba) (by unfold blkOf; rw [if_neg (by omega)]; rfl)
   have hxw:=hx.size
   have HST:Hid ((List.zipWith trnOf xs am).take (k+1)=T++[⟨x.entry,x.exit,a,x.cls⟩]):=hide (by rw [zip_step hxk hak, ←HT.out]; rfl)
   have HOB:Hid (∀j,u8.ownBlock=some j→w1.heap.size≤j):=hide (fun j hj=>ho.block_le hj)
   clear hxk hak
   go_wp2_with fail
   refine wp_region_phC [(b,off+k*8+1),(b,off+k*8+2),(ba,oa+k),(b,off+k*8+4)] [([0,1,2,3,4,5,6,7,8,9,10,11,12,13,14,15,16,17,18,19,20],21),([],22)] [23] (by kernel_rfl) (by kernel_rfl) (by intro c a w d v h; cases d <;> exact h) ?_
   simp only [wpPhC,pickL,nthO]
   repeat (go_big_quiet_step (fail))
   refine wpQuiet_nil ?_
   go_wp2_with fail
   obtain ⟨W,HW⟩:∃W,Hid ((wr.alloc (.cells #[.int .i64 x.entry,.int .i64 x.exit,.int .i64 a,.int .i64 x.cls] 201)).drew=W):=⟨_,hide rfl⟩
   rw [HW.out]
   have hxa:Ext wr W:=by rw [←HW.out]; exact ((Ext.refl wr).and_alloc _).drew
   have hxz:=hxa.size
   have hWn:SliceOf W 4 Trn.cells (some ⟨wr.heap.size,0,none⟩) 1 1 [⟨x.entry,x.exit,a,x.cls⟩]:=by rw [←HW.out]; exact (new_trn wr ⟨x.entry,x.exit,a,x.cls⟩ rfl).ext (Ext.refl _).drew
   refine ⟨SameC.of_ext hxa (by simp; omega),wpQuiet_nil ?_⟩
   go_wp2_with (at_builtin; go_must (refine wpList_append_where rfl _ _ 118 rfl w1.heap.size 201 _ 4 32 Tryz.underlying118 trn_info rfl (by decide) Trn.cells trn_len trn_one _ T rfl (ho.ext hxa) wr.heap.size 0 1 1 [⟨x.entry,x.exit,a,x.cls⟩] rfl hWn (by omega) (by omega) (by omega) ?_))
   intro v2 w2 ho2 hg2 _
   have hx2:=(hx.trans hxa).grown hg2 (fun k hk=>ho.block_le hk)
   have hsm:=same_grown (bs:=[(b,off+k*8+1),(b,off+k*8+2),(ba,oa+k),(b,off+k*8+4)]) hxa hg2 (by
    intro p hp
    simp only [List.mem_cons,List.not_mem_nil,or_false] at hp
    rcases hp with rfl | rfl | rfl | rfl <;> exact ⟨by show _<_; omega,fun j hj=>by have:=HOB.out j hj; show _≠j; omega⟩)
   rw [←HST.out] at ho2
   clear ho hg2 hxa hc1 hc2 hc4 hca0
   go_wp2_with fail
   refine ⟨hsm,?_⟩
   repeat (go_big_quiet_step (fail))
   refine wpQuiet_nil ?_
   go_wp2_with fail
   go_roundw
   case rel=>exact ⟨k+1,_,by omega,by go_num,by rw [HST.out]; simp; omega,hide rfl,ho2,hx2⟩
   case measure=>simp [intOf]; omega
  ·go_wp2_with fail
   go_ret
   refine ⟨_,T,rfl,ho.lowG (by omega),hide ?_,hx1.trans hx⟩
   rw [HT.out,List.take_of_length_le (by rw [List.length_zipWith, ←HLN.out,hal]; omega)]
   exact HTL.out
end Go.Proofs.YtfkpghdmljjegaaGreat
