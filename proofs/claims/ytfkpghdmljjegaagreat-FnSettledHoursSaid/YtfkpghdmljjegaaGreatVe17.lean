/-
  Sharing out a total by weights: the greatest rests first.
-/
import Derived.Test.YtfkpghdmljjegaaGreatVe00
import Derived.Test.YtfkpghdmljjegaaGreatVe06
import Derived.Test.YtfkpghdmljjegaaGreatVe03
namespace Go.Proofs.YtfkpghdmljjegaaGreat
def sumZ:List Int→Int
 | []=>0
 | x::l=>x+sumZ l
theorem sumZ_append (a b:List Int):sumZ (a++b)=sumZ a+sumZ b:=by
 induction a with
 | nil=>simp [sumZ]
 | cons x a ih=>simp only [List.cons_append,sumZ,ih]; omega
theorem sumZ_set:∀(l:List Int) (b:Nat) (z v:Int),l[b]? =some z→sumZ (l.set b v)=sumZ l-z+v
 | [],b,z,v,h=>by simp at h
 | x::l,0,z,v,h=>by simp at h; subst h; simp only [List.set_cons_zero,sumZ]; omega
 | x::l,b+1,z,v,h=>by
  have ih:=sumZ_set l b z v (by simpa using h)
  simp only [List.set_cons_succ,sumZ,ih]
  omega
theorem sumZ_take {l:List Int} {k:Nat} {z:Int} (h:l[k]? =some z):sumZ (l.take (k+1))=sumZ (l.take k)+z:=by
 rw [List.take_add_one,h,sumZ_append]; simp [sumZ]
theorem sumZ_nonneg:∀ {l:List Int},(∀z∈l,0≤z)→0≤sumZ l
 | [],_=>by simp [sumZ]
 | x::l,h=>by
  have h1:=h x (by simp)
  have h2:=sumZ_nonneg (l:=l) (fun z hz=>h z (by simp [hz]))
  simp only [sumZ]; omega
structure Best (l:List Int) (b:Nat) (z:Int):Prop where
 at_:l[b]? =some z
 all:∀(j:Nat) (y:Int),l[j]? =some y→y≤z
 first:∀(j:Nat) (y:Int),j<b→l[j]? =some y→y<z
theorem Best.uniq {l:List Int} {b b':Nat} {z z':Int} (h:Best l b z) (h':Best l b' z'):b=b'∧z=z':=by
 have e1:=h.all b' z' h'.at_
 have e2:=h'.all b z h.at_
 obtain rfl:z=z':=by omega
 refine ⟨?_,rfl⟩
 rcases Nat.lt_trichotomy b b' with hlt | rfl | hlt
 ·have:=h'.first b z hlt h.at_; omega
 ·rfl
 ·have:=h.first b' z hlt h'.at_; omega
inductive Dist:Nat→List Int→List Int→List Int→Prop
 | zero (o r:List Int):Dist 0 o r o
 | step {k:Nat} {o r o':List Int} {b:Nat} {z y:Int} (hb:Best r b z) (hy:o[b]? =some y) (h:Dist k (o.set b (y+1)) (r.set b (-1)) o'):Dist (k+1) o r o'
theorem Dist.uniq {k:Nat} {o r o1 o2:List Int} (h:Dist k o r o1) (h':Dist k o r o2):o1=o2:=by
 induction h with
 | zero=>cases h'; rfl
 | step hb hy h ih=>
  cases h' with
  | step hb' hy' h'=>
   obtain ⟨rfl,rfl⟩:=hb.uniq hb'
   rw [hy] at hy'
   obtain rfl:=Option.some.inj hy'
   exact ih h'
theorem Dist.len {k:Nat} {o r o':List Int} (h:Dist k o r o'):o'.length=o.length:=by
 induction h with
 | zero=>rfl
 | step _ _ _ ih=>rw [ih,List.length_set]
theorem Dist.sum {k:Nat} {o r o':List Int} (h:Dist k o r o'):sumZ o'=sumZ o+k:=by
 induction h with
 | zero=>simp
 | step _ hy _ ih=>rw [ih,sumZ_set _ _ _ _ hy]; omega
def sumP:List Int→Int
 | []=>0
 | x::l=>(if 0≤x then x else 0)+sumP l
theorem sumP_set:∀(l:List Int) (b:Nat) (z:Int),l[b]? =some z→0≤z→sumP (l.set b (-1))=sumP l-z
 | [],b,z,h,_=>by simp at h
 | x::l,0,z,h,h0=>by simp at h; subst h; simp only [List.set_cons_zero,sumP]; rw [if_pos h0,if_neg (by omega)]; omega
 | x::l,b+1,z,h,h0=>by
  have ih:=sumP_set l b z (by simpa using h) h0
  simp only [List.set_cons_succ,sumP,ih]
  omega
theorem sumP_pos:∀ {l:List Int},0<sumP l→∃(j:Nat) (y:Int),l[j]? =some y∧0<y
 | [],h=>by simp [sumP] at h
 | x::l,h=>by
  by_cases hx:0<x
  ·exact ⟨0,x,rfl,hx⟩
  ·simp only [sumP] at h
   obtain ⟨j,y,hj,hy⟩:=sumP_pos (l:=l) (by split at h <;> omega)
   exact ⟨j+1,y,by simpa using hj,hy⟩
theorem sumP_all:∀ {l:List Int},(∀z∈l,0≤z)→sumP l=sumZ l
 | [],_=>rfl
 | x::l,h=>by
  simp only [sumP,sumZ]
  rw [if_pos (h x (by simp)),sumP_all (l:=l) (fun z hz=>h z (by simp [hz]))]
theorem Best.ex:∀ {l:List Int},l≠[]→∃b z,Best l b z
 | [x],_=>⟨0,x,rfl,fun j y h=>by cases j with | zero=>simp at h; omega | succ j=>simp at h,fun j y h=>absurd h (by omega)⟩
 | x::x'::l,_=>by
  obtain ⟨b,z,hb⟩:=Best.ex (l:=x'::l) (by simp)
  by_cases hx:z≤x
  ·refine ⟨0,x,rfl,fun j y h=> ?_,fun j y h=>absurd h (by omega)⟩
   cases j with
   | zero=>simp at h; omega
   | succ j=>have:=hb.all j y (by simpa using h); omega
  ·refine ⟨b+1,z,by simpa using hb.at_,fun j y h=> ?_,fun j y hj h=> ?_⟩
   ·cases j with
    | zero=>simp at h; omega
    | succ j=>exact hb.all j y (by simpa using h)
   ·cases j with
    | zero=>simp at h; omega
    | succ j=>exact hb.first j y (by omega) (by simpa using h)
theorem Best.one {l:List Int} {x:Int} (h:l[0]? =some x):Best (l.take 1) 0 x:=by
 cases l with
 | nil=>simp at h
 | cons a l=>simp at h; subst h; exact ⟨rfl,fun j y hj=>by cases j with | zero=>simp at hj; omega | succ j=>simp at hj,fun j y hj _=>by omega⟩
theorem take_old {l:List Int} {j i:Nat} {y:Int} (h:(l.take (j+1))[i]? =some y):(i<j∧(l.take j)[i]? =some y)∨(i=j∧l[j]? =some y):=by
 rw [List.getElem?_take] at h
 split at h
 ·rcases Nat.lt_or_ge i j with hlt | hge
  ·exact .inl ⟨hlt,by rw [List.getElem?_take,if_pos hlt]; exact h⟩
  ·obtain rfl:i=j:=by omega
   exact .inr ⟨rfl,h⟩
 ·cases h
theorem Best.take_gt {l:List Int} {j b:Nat} {z y:Int} (h:Best (l.take j) b z) (hy:l[j]? =some y) (hgt:z<y):Best (l.take (j+1)) j y:=by
 refine ⟨by rw [List.getElem?_take,if_pos (by omega)]; exact hy,fun i v hv=> ?_,fun i v hi hv=> ?_⟩
 ·rcases take_old hv with ⟨_,h1⟩ | ⟨_,h1⟩
  ·have:=h.all i v h1; omega
  ·rw [hy] at h1; have:=Option.some.inj h1; omega
 ·rcases take_old hv with ⟨_,h1⟩ | ⟨h0,_⟩
  ·have:=h.all i v h1; omega
  ·omega
theorem Best.take_le {l:List Int} {j b:Nat} {z y:Int} (h:Best (l.take j) b z) (hy:l[j]? =some y) (hle:y≤z):Best (l.take (j+1)) b z:=by
 have hb:=(List.getElem?_eq_some_iff.1 h.at_).1
 rw [List.length_take] at hb
 have h0:=h.at_
 rw [List.getElem?_take,if_pos (by omega)] at h0
 refine ⟨by rw [List.getElem?_take,if_pos (by omega)]; exact h0,fun i v hv=> ?_,fun i v hi hv=> ?_⟩
 ·rcases take_old hv with ⟨_,h1⟩ | ⟨_,h1⟩
  ·exact h.all i v h1
  ·rw [hy] at h1; have:=Option.some.inj h1; omega
 ·rcases take_old hv with ⟨_,h1⟩ | ⟨h2,_⟩
  ·exact h.first i v hi h1
  ·omega
def pickM:List Bool→List Int→List Int
 | true::m,x::l=>x::pickM m l
 | false::m,_::l=>pickM m l
 | _,_=>[]
def rankM:List Bool→Nat→Nat
 | _,0=>0
 | true::m,b+1=>rankM m b+1
 | false::m,b+1=>rankM m b
 | [],_+1=>0
theorem pick_at:∀ {m:List Bool} {l:List Int} {b:Nat},m[b]? =some true→b<l.length→(pickM m l)[rankM m b]? =l[b]?
 | [],l,b,h,_=>by simp at h
 | m0::m,[],b,_,h=>by simp at h
 | true::m,x::l,0,_,_=>rfl
 | false::m,x::l,0,h,_=>by simp at h
 | true::m,x::l,b+1,h,hl=>by
  have:=pick_at (m:=m) (l:=l) (b:=b) (by simpa using h) (by simpa using hl)
  simpa [pickM,rankM] using this
 | false::m,x::l,b+1,h,hl=>by
  have:=pick_at (m:=m) (l:=l) (b:=b) (by simpa using h) (by simpa using hl)
  simpa [pickM,rankM] using this
theorem pick_set:∀ {m:List Bool} {l:List Int} {b:Nat} (v:Int),m[b]? =some true→pickM m (l.set b v)=(pickM m l).set (rankM m b) v
 | [],l,b,v,h=>by simp at h
 | m0::m,[],b,v,_=>by cases m0 <;> simp [pickM]
 | true::m,x::l,0,v,_=>rfl
 | false::m,x::l,0,v,h=>by simp at h
 | true::m,x::l,b+1,v,h=>by
  have:=pick_set (m:=m) (l:=l) (b:=b) v (by simpa using h)
  simp [pickM,rankM,this]
 | false::m,x::l,b+1,v,h=>by
  have:=pick_set (m:=m) (l:=l) (b:=b) v (by simpa using h)
  simp [pickM,rankM,this]
theorem pick_from:∀ {m:List Bool} {l:List Int} {j:Nat} {y:Int},(pickM m l)[j]? =some y→∃i,m[i]? =some true∧l[i]? =some y∧rankM m i=j
 | [],l,j,y,h=>by simp [pickM] at h
 | m0::m,[],j,y,h=>by cases m0 <;> simp [pickM] at h
 | true::m,x::l,0,y,h=>⟨0,rfl,by simpa [pickM] using h,rfl⟩
 | true::m,x::l,j+1,y,h=>by
  obtain ⟨i,h1,h2,h3⟩:=pick_from (m:=m) (l:=l) (j:=j) (y:=y) (by simpa [pickM] using h)
  exact ⟨i+1,by simpa using h1,by simpa using h2,by simp [rankM,h3]⟩
 | false::m,x::l,j,y,h=>by
  obtain ⟨i,h1,h2,h3⟩:=pick_from (m:=m) (l:=l) (j:=j) (y:=y) (by simpa [pickM] using h)
  exact ⟨i+1,by simpa using h1,by simpa using h2,by simp [rankM,h3]⟩
theorem rank_lt:∀ {m:List Bool} {i b:Nat},m[i]? =some true→rankM m i<rankM m b→i<b
 | [],i,b,h,_=>by simp at h
 | m0::m,i,0,_,h=>by simp [rankM] at h
 | m0::m,0,b+1,_,_=>by omega
 | true::m,i+1,b+1,h,hr=>by
  have:=rank_lt (m:=m) (i:=i) (b:=b) (by simpa using h) (by simpa [rankM] using hr)
  omega
 | false::m,i+1,b+1,h,hr=>by
  have:=rank_lt (m:=m) (i:=i) (b:=b) (by simpa using h) (by simpa [rankM] using hr)
  omega
theorem Best.pick {m:List Bool} {l:List Int} {b:Nat} {z:Int} (h:Best l b z) (hm:m[b]? =some true):Best (pickM m l) (rankM m b) z:=by
 have hl:=(List.getElem?_eq_some_iff.1 h.at_).1
 refine ⟨by rw [pick_at hm hl]; exact h.at_,fun j y hj=> ?_,fun j y hj hy=> ?_⟩
 ·obtain ⟨i,_,h2,_⟩:=pick_from hj
  exact h.all i y h2
 ·obtain ⟨i,h1,h2,h3⟩:=pick_from hy
  exact h.first i y (rank_lt h1 (by rw [h3]; exact hj)) h2
theorem Dist.pick {k:Nat} {o r o':List Int} (h:Dist k o r o') {m:List Bool} {s:Int} (hlen:r.length=m.length) (hz:∀(j:Nat) (y:Int),m[j]? =some false→r[j]? =some y→y=0)
  (hs:∀(j:Nat) (y:Int),r[j]? =some y→y<s) (hsum:(k:Int)*s≤sumP r) (hs0:0<s):
  Dist k (pickM m o) (pickM m r) (pickM m o')∧∀j:Nat,m[j]? =some false→o'[j]? =o[j]? :=by
 induction h with
 | zero o r=>exact ⟨Dist.zero _ _,fun j _=>rfl⟩
 | @step k o r o' b z y hb hy h ih=>
  have hpos:0<sumP r:=by
   have:s≤((k+1:Nat):Int)*s:=by
    have h1:(0:Int)≤(k:Int)*s:=Int.mul_nonneg (by omega) (by omega)
    rw [Int.natCast_succ,Int.add_mul,Int.one_mul]; omega
   omega
  obtain ⟨j,v,hj,hv⟩:=sumP_pos hpos
  have hzp:0<z:=by have:=hb.all j v hj; omega
  have hbl:=(List.getElem?_eq_some_iff.1 hb.at_).1
  have hmb:m[b]? =some true:=by
   cases hc:m[b]? with
   | none=>rw [List.getElem?_eq_none_iff] at hc; omega
   | some c=>
    cases c with
    | true=>rfl
    | false=>have:=hz b z hc hb.at_; omega
  have hol:b<o.length:=(List.getElem?_eq_some_iff.1 hy).1
  obtain ⟨i1,i2⟩:=ih (by rw [List.length_set]; exact hlen) (fun j y hm hr=>by
    rw [List.getElem?_set] at hr
    split at hr
    ·rename_i e; subst e; rw [hmb] at hm; cases hm
    ·exact hz j y hm hr) (fun j y hr=>by
    rw [List.getElem?_set] at hr
    split at hr
    ·cases hr; omega
    ·exact hs j y hr) (by
    rw [sumP_set r b z hb.at_ (by omega)]
    have:=hs b z hb.at_
    rw [Int.natCast_succ,Int.add_mul,Int.one_mul] at hsum
    omega)
  refine ⟨?_,fun j hm=> ?_⟩
  ·rw [pick_set _ hmb,pick_set _ hmb] at i1
   exact Dist.step (hb.pick hmb) (by rw [pick_at hmb hol]; exact hy) i1
  ·rw [i2 j hm,List.getElem?_set,if_neg (fun e=>by subst e; rw [hmb] at hm; cases hm)]
theorem Dist.ex:∀(k:Nat) (o r:List Int),r≠[]→o.length=r.length→∃o',Dist k o r o'
 | 0,o,r,_,_=>⟨o,.zero _ _⟩
 | k+1,o,r,hr,hl=>by
  obtain ⟨b,z,hb⟩:=Best.ex hr
  have hbl:=(List.getElem?_eq_some_iff.1 hb.at_).1
  obtain ⟨o',h⟩:=Dist.ex k (o.set b (o[b]+1)) (r.set b (-1)) (by intro e; have:=congrArg List.length e; rw [List.length_set] at this; simp at this; exact hr this) (by rw [List.length_set,List.length_set]; exact hl)
  exact ⟨o',.step hb (List.getElem?_eq_getElem (by omega)) h⟩
def quoL (t s:Int) (ws:List Int):List Int:=ws.map fun w=>t*w/s
def remL (t s:Int) (ws:List Int):List Int:=ws.map fun w=>t*w % s
theorem quo_rem (t s:Int):∀ws:List Int,t*sumZ ws=s*sumZ (quoL t s ws)+sumZ (remL t s ws)
 | []=>by simp [sumZ,quoL,remL]
 | w::ws=>by
  have ih:=quo_rem t s ws
  have h:=Int.mul_ediv_add_emod (t*w) s
  simp only [quoL,remL,List.map_cons,sumZ] at *
  rw [Int.mul_add,Int.mul_add,ih]
  omega
def Shares (t:Int) (ws o:List Int):Prop:=Dist (t-sumZ (quoL t (sumZ ws) ws)).toNat (quoL t (sumZ ws) ws) (remL t (sumZ ws) ws) o
theorem rem_nonneg {t s:Int} (hs:0<s) (ws:List Int):∀z∈remL t s ws,0≤z∧z<s:=by
 intro z hz
 obtain ⟨w,_,rfl⟩:=List.mem_map.1 hz
 exact ⟨Int.emod_nonneg _ (by omega),Int.emod_lt_of_pos _ hs⟩
theorem left_facts {t:Int} {ws:List Int} (hs:0<sumZ ws):0≤t-sumZ (quoL t (sumZ ws) ws)∧(t-sumZ (quoL t (sumZ ws) ws))*sumZ ws=sumZ (remL t (sumZ ws) ws):=by
 have h:=quo_rem t (sumZ ws) ws
 have e:(t-sumZ (quoL t (sumZ ws) ws))*sumZ ws=sumZ (remL t (sumZ ws) ws):=by
  rw [Int.sub_mul,Int.mul_comm (sumZ (quoL t (sumZ ws) ws))]; omega
 refine ⟨?_,e⟩
 have h0:=sumZ_nonneg (l:=remL t (sumZ ws) ws) (fun z hz=>(rem_nonneg hs ws z hz).1)
 rcases Int.lt_or_le (t-sumZ (quoL t (sumZ ws) ws)) 0 with hlt | hge
 ·have:(t-sumZ (quoL t (sumZ ws) ws))*sumZ ws<0:=Int.mul_neg_of_neg_of_pos hlt hs
  omega
 ·exact hge
theorem Shares.uniq {t:Int} {ws o o':List Int} (h:Shares t ws o) (h':Shares t ws o'):o=o':=Dist.uniq h h'
theorem Shares.len {t:Int} {ws o:List Int} (h:Shares t ws o):o.length=ws.length:=by rw [Dist.len h]; simp [quoL]
theorem Shares.sum {t:Int} {ws o:List Int} (h:Shares t ws o) (hs:0<sumZ ws):sumZ o=t:=by
 rw [Dist.sum h]; have:=(left_facts (t:=t) hs).1; omega
theorem Shares.ex (t:Int) {ws:List Int} (hs:0<sumZ ws):∃o,Shares t ws o:=by
 refine Dist.ex _ _ _ ?_ (by simp [quoL,remL])
 cases ws with
 | nil=>simp [sumZ] at hs
 | cons w ws=>simp [remL]
theorem pick_map (f:Int→Int):∀(m:List Bool) (l:List Int),pickM m (l.map f)=(pickM m l).map f
 | [],l=>by cases l <;> rfl
 | m0::m,[]=>by cases m0 <;> rfl
 | true::m,x::l=>by simp [pickM,pick_map f m l]
 | false::m,x::l=>by simp [pickM,pick_map f m l]
theorem pick_sum:∀ {m:List Bool} {l:List Int},l.length=m.length→(∀(j:Nat) (y:Int),m[j]? =some false→l[j]? =some y→y=0)→sumZ (pickM m l)=sumZ l
 | [],[],_,_=>rfl
 | [],x::l,h,_=>by simp at h
 | m0::m,[],h,_=>by simp at h
 | true::m,x::l,h,hz=>by
  simp only [pickM,sumZ]
  rw [pick_sum (m:=m) (l:=l) (by simpa using h) (fun j y h1 h2=>hz (j+1) y (by simpa using h1) (by simpa using h2))]
 | false::m,x::l,h,hz=>by
  simp only [pickM,sumZ]
  rw [pick_sum (m:=m) (l:=l) (by simpa using h) (fun j y h1 h2=>hz (j+1) y (by simpa using h1) (by simpa using h2)),hz 0 x rfl rfl]
  omega
theorem Shares.pick {t:Int} {ws o:List Int} (h:Shares t ws o) {m:List Bool} (hlen:ws.length=m.length) (hz:∀(j:Nat) (y:Int),m[j]? =some false→ws[j]? =some y→y=0) (hs:0<sumZ ws):
  Shares t (pickM m ws) (pickM m o)∧∀j:Nat,m[j]? =some false→j<o.length→o[j]? =some 0:=by
 obtain ⟨h0,h1⟩:=left_facts (t:=t) hs
 have hzq:∀(j:Nat) (y:Int),m[j]? =some false→(quoL t (sumZ ws) ws)[j]? =some y→y=0:=fun j y hm hj=>by
  rw [quoL,List.getElem?_map] at hj
  cases hw:ws[j]? with
  | none=>rw [hw] at hj; cases hj
  | some w=>rw [hw] at hj; have:=hz j w hm hw; subst this; simp at hj; exact hj.symm
 obtain ⟨a,b⟩:=Dist.pick h (m:=m) (s:=sumZ ws) (by simp [remL,hlen]) (fun j y hm hj=>by
   rw [remL,List.getElem?_map] at hj
   cases hw:ws[j]? with
   | none=>rw [hw] at hj; cases hj
   | some w=>rw [hw] at hj; have:=hz j w hm hw; subst this; simp at hj; exact hj.symm)
  (fun j y hj=>(rem_nonneg hs ws y (List.mem_of_getElem? hj)).2)
  (by rw [sumP_all (fun z hz=>(rem_nonneg hs ws z hz).1), ←h1,Int.toNat_of_nonneg h0]; exact Int.le_refl _) hs
 refine ⟨?_,fun j hm hj=> ?_⟩
 ·unfold Shares
  have e:=pick_sum hlen hz
  rw [e]
  have q1:pickM m (quoL t (sumZ ws) ws)=quoL t (sumZ ws) (pickM m ws):=pick_map _ m ws
  have q2:pickM m (remL t (sumZ ws) ws)=remL t (sumZ ws) (pickM m ws):=pick_map _ m ws
  have q3:sumZ (pickM m (quoL t (sumZ ws) ws))=sumZ (quoL t (sumZ ws) ws):=pick_sum (by simp [quoL,hlen]) hzq
  rw [←q1, ←q2,q3]
  exact a
 ·rw [b j hm]
  have hq:j<(quoL t (sumZ ws) ws).length:=by rw [←Dist.len h]; exact hj
  have:=hzq j _ hm (List.getElem?_eq_getElem hq)
  rw [List.getElem?_eq_getElem hq,this]
end Go.Proofs.YtfkpghdmljjegaaGreat
namespace Go.Proofs.YtfkpghdmljjegaaGreat
structure Order where
 shipper:Int
 node:Int
 amount:Int
 cls:Int
def Order.cells (x:Order):List Value:=[.int .i64 x.shipper,.int .i64 x.node,.int .i64 x.amount,.int .i64 x.cls]
theorem order_len (x:Order):x.cells.length=4:=rfl
theorem order_one (y:Order):∀u∈y.cells,u.oneCell'=true:=by intro u hu; simp [Order.cells] at hu; rcases hu with rfl | rfl | rfl | rfl <;> rfl
theorem order_info:(Tryz.prog.info? 199).map (fun i=>(i.zero,i.size,i.bytes))=some (some (.agg #[.int .i64 0,.int .i64 0,.int .i64 0,.int .i64 0]),4,32):=by kernel_rfl
def sgn (x:Reading):Int:=if x.amount<0 then -1 else 1
def absZ (z:Int):Int:=if z<0 then -z else z
def matchB (x:Reading) (o:Order):Bool:=o.node==x.node&&((decide (0<o.amount)&&decide (0<x.amount))||(decide (o.amount<0)&&decide (x.amount<0)))
def wt (x:Reading) (o:Order):Int:=if o.node=x.node then (if 0<sgn x*o.amount then sgn x*o.amount else 0) else 0
def wts (os:List Order) (x:Reading):List Int:=os.map (wt x)
theorem wt_yes {x:Reading} {o:Order} (h:matchB x o=true):wt x o=absZ o.amount∧0<wt x o:=by
 simp only [matchB,Bool.and_eq_true,Bool.or_eq_true,beq_iff_eq,decide_eq_true_eq] at h
 obtain ⟨h1,h2⟩:=h
 unfold wt absZ
 rw [if_pos h1]
 rcases h2 with ⟨a,b⟩ | ⟨a,b⟩
 ·have e:sgn x=1:=by unfold sgn; rw [if_neg (by omega)]
  rw [e,Int.one_mul,if_pos a,if_neg (by omega)]
  exact ⟨rfl,a⟩
 ·have e:sgn x= -1:=by unfold sgn; rw [if_pos b]
  rw [e,if_pos (by omega),if_pos a]
  omega
theorem wt_no {x:Reading} {o:Order} (h:matchB x o=false) (hx:x.amount≠0):wt x o=0:=by
 unfold wt
 split
 ·rename_i h1
  have h2:¬((0<o.amount∧0<x.amount)∨(o.amount<0∧x.amount<0)):=by
   intro h3
   have:matchB x o=true:=by simp only [matchB,Bool.and_eq_true,Bool.or_eq_true,beq_iff_eq,decide_eq_true_eq]; exact ⟨h1,h3⟩
   rw [this] at h; cases h
  unfold sgn
  split
  ·rw [if_neg (by omega)]
  ·rw [if_neg (by omega)]
 ·rfl
theorem wt_nonneg (x:Reading) (o:Order):0≤wt x o:=by unfold wt; split <;> (try split) <;> omega
theorem wts_nonneg (os:List Order) (x:Reading):∀z∈wts os x,0≤z:=by
 intro z hz
 obtain ⟨o,_,rfl⟩:=List.mem_map.1 hz
 exact wt_nonneg x o
theorem wts_pos {os:List Order} {x:Reading} {o:Order} (ho:o∈os) (h:matchB x o=true):0<sumZ (wts os x):=by
 induction os with
 | nil=>cases ho
 | cons a os ih=>
  have h0:=sumZ_nonneg (wts_nonneg os x)
  have h1:=wt_nonneg x a
  show 0<wt x a+sumZ (wts os x)
  rcases List.mem_cons.1 ho with rfl | ho
  ·have:=(wt_yes h).2; omega
  ·have:=ih ho; omega
theorem wts_zero {os:List Order} {x:Reading} (hx:x.amount≠0) (h:∀o∈os,matchB x o=false):sumZ (wts os x)=0:=by
 induction os with
 | nil=>rfl
 | cons a os ih=>
  show wt x a+sumZ (wts os x)=0
  rw [wt_no (h a (by simp)) hx,ih (fun o ho=>h o (by simp [ho]))]; rfl
def addS (s:Int) (g sh:List Int):List Int:=List.zipWith (fun a b=>a+s*b) g sh
theorem addS_len {s:Int} {g sh:List Int} (h:sh.length=g.length):(addS s g sh).length=g.length:=by simp [addS,h]
theorem addS_at {s:Int} {g sh:List Int} {i:Nat} {a b:Int} (ha:g[i]? =some a) (hb:sh[i]? =some b):(addS s g sh)[i]? =some (a+s*b):=by simp [addS,List.getElem?_zipWith,ha,hb]
theorem addS_sum {s:Int}:∀ {g sh:List Int},sh.length=g.length→sumZ (addS s g sh)=sumZ g+s*sumZ sh
 | [],[],_=>by simp [addS,sumZ]
 | [],_::_,h=>by simp at h
 | _::_,[],h=>by simp at h
 | a::g,b::sh,h=>by
  have ih:=addS_sum (s:=s) (g:=g) (sh:=sh) (by simpa using h)
  simp only [addS,List.zipWith_cons_cons,sumZ] at *
  rw [ih,Int.mul_add]; omega
inductive Alloc (os:List Order):List Int→List Reading→List Int→Prop
 | nil (g:List Int):Alloc os g [] g
 | skip {g g':List Int} {x:Reading} {rs:List Reading} (hz:sumZ (wts os x)=0) (h:Alloc os g rs g'):Alloc os g (x::rs) g'
 | add {g g' sh:List Int} {x:Reading} {rs:List Reading} (hs:0<sumZ (wts os x)) (hd:Shares (absZ x.amount) (wts os x) sh) (h:Alloc os (addS (sgn x) g sh) rs g'):Alloc os g (x::rs) g'
theorem Alloc.uniq {os:List Order} {g g1 g2:List Int} {rs:List Reading} (h:Alloc os g rs g1) (h':Alloc os g rs g2):g1=g2:=by
 induction h with
 | nil=>cases h'; rfl
 | skip hz h ih=>
  cases h' with
  | skip _ h'=>exact ih h'
  | add hs _ _=>omega
 | add hs hd h ih=>
  cases h' with
  | skip hz _=>omega
  | add _ hd' h'=>
   obtain rfl:=hd.uniq hd'
   exact ih h'
def allocd (os:List Order):List Reading→Int
 | []=>0
 | x::rs=>(if sumZ (wts os x)=0 then 0 else x.amount)+allocd os rs
theorem sgn_abs (x:Reading):sgn x*absZ x.amount=x.amount:=by unfold sgn absZ; split <;> omega
theorem Alloc.law {os:List Order} {g g':List Int} {rs:List Reading} (h:Alloc os g rs g') (hg:g.length=os.length):g'.length=os.length∧sumZ g'=sumZ g+allocd os rs:=by
 induction h with
 | nil=>exact ⟨hg,by simp [allocd]⟩
 | skip hz h ih=>
  obtain ⟨a,b⟩:=ih hg
  exact ⟨a,by rw [b]; simp only [allocd]; rw [if_pos hz]; omega⟩
 | @add g g' sh x rs hs hd h ih=>
  have hl:sh.length=g.length:=by rw [hd.len,hg]; simp [wts]
  obtain ⟨a,b⟩:=ih (by rw [addS_len hl]; exact hg)
  refine ⟨a,?_⟩
  rw [b,addS_sum hl,hd.sum hs,sgn_abs]
  simp only [allocd]
  rw [if_neg (by omega)]; omega
def unalL (os:List Order):Nat→List Reading→List Int
 | _,[]=>[]
 | k,x::rs=>if sumZ (wts os x)=0 then (k:Int)::unalL os (k+1) rs else unalL os (k+1) rs
theorem unal_snoc (os:List Order) (x:Reading):∀(k:Nat) (rs:List Reading),unalL os k (rs++[x])=unalL os k rs++if sumZ (wts os x)=0 then [((k+rs.length:Nat):Int)] else []
 | k,[]=>by simp [unalL]
 | k,y::rs=>by
  have ih:=unal_snoc os x (k+1) rs
  simp only [List.cons_append,unalL,ih,List.length_cons]
  rw [show k+1+rs.length=k+(rs.length+1) by omega]
  split <;> simp
theorem unal_take {os:List Order} {rs:List Reading} {k:Nat} {x:Reading} (h:rs[k]? =some x):unalL os 0 (rs.take (k+1))=unalL os 0 (rs.take k)++if sumZ (wts os x)=0 then [(k:Int)] else []:=by
 have hk:=(List.getElem?_eq_some_iff.1 h).1
 rw [List.take_add_one,h]
 have:=unal_snoc os x 0 (rs.take k)
 rw [List.length_take,Nat.min_eq_left (by omega),Nat.zero_add] at this
 exact this
theorem unal_len (os:List Order):∀(k:Nat) (rs:List Reading),(unalL os k rs).length≤rs.length
 | _,[]=>by simp [unalL]
 | k,x::rs=>by
  have:=unal_len os (k+1) rs
  simp only [unalL,List.length_cons]
  split
  ·simp; omega
  ·omega
theorem alloc_step {os:List Order} {g g2 shf:List Int} {x:Reading} (hx:x.amount≠0) (hg:g.length=os.length) (hg2:g2.length=os.length) (hs:0<sumZ (wts os x))
  (hf:∀(i:Nat),(os.map (matchB x))[i]? =some true→g[i]? =some 0)
  (hsh:Shares (absZ x.amount) (pickM (os.map (matchB x)) (wts os x)) shf)
  (h1:∀i:Nat,(os.map (matchB x))[i]? =some false→g2[i]? =g[i]?)
  (h2:∀i:Nat,(os.map (matchB x))[i]? =some true→∃v,shf[rankM (os.map (matchB x)) i]? =some v∧g2[i]? =some (sgn x*v)):
  ∃sh,Shares (absZ x.amount) (wts os x) sh∧g2=addS (sgn x) g sh:=by
 obtain ⟨sh,hsh0⟩:=Shares.ex (absZ x.amount) hs
 have hl:sh.length=g.length:=by rw [hsh0.len,hg]; simp [wts]
 have hml:(os.map (matchB x)).length=os.length:=by simp
 obtain ⟨hp,hz⟩:=hsh0.pick (m:=os.map (matchB x)) (by simp [wts]) (fun j y hm hy=>by
  rw [List.getElem?_map] at hm
  rw [wts,List.getElem?_map] at hy
  cases ho:os[j]? with
  | none=>rw [ho] at hm; cases hm
  | some o=>
   rw [ho] at hm hy
   simp at hm hy
   rw [←hy]; exact wt_no hm hx) hs
 obtain rfl:=hp.uniq hsh
 refine ⟨sh,hsh0,List.ext_getElem? fun i=> ?_⟩
 by_cases hi:i<os.length
 ·have hgi:=List.getElem?_eq_getElem (l:=g) (i:=i) (by omega)
  have hsi:=List.getElem?_eq_getElem (l:=sh) (i:=i) (by omega)
  cases hm:(os.map (matchB x))[i]? with
  | none=>rw [List.getElem?_eq_none_iff] at hm; omega
  | some c=>
   cases c with
   | false=>
    have h0:=hz i hm (by omega)
    rw [h1 i hm,addS_at hgi h0,hgi]; simp
   | true=>
    obtain ⟨v,hv,hv2⟩:=h2 i hm
    rw [pick_at hm (by omega)] at hv
    rw [hv2,addS_at (hf i hm) hv]; simp
 ·rw [List.getElem?_eq_none (by omega),List.getElem?_eq_none (by rw [addS_len hl]; omega)]
end Go.Proofs.YtfkpghdmljjegaaGreat
namespace Go.Proofs.YtfkpghdmljjegaaGreat
def endB (ps:List Pipe) (x:Int) (i:Nat):Bool:=match ps[i]? with | some p=>p.src==x||p.dst==x | none=>false
def atN (ps:List Pipe) (x:Int) (k:Nat):List Nat:=(List.range k).filter (endB ps x)
def atI (ps:List Pipe) (x:Int) (k:Nat):List Int:=(atN ps x k).map fun i:Nat=>(i:Int)
def atL (ps:List Pipe) (x:Int):List Int:=atI ps x ps.length
theorem atN_succ (ps:List Pipe) (x:Int) (k:Nat):atN ps x (k+1)=atN ps x k++if endB ps x k=true then [k] else []:=by
 unfold atN
 rw [List.range_succ,List.filter_append]
 cases h:endB ps x k <;> simp [h]
theorem atI_yes {ps:List Pipe} {x:Int} {k:Nat} (h:endB ps x k=true):atI ps x (k+1)=atI ps x k++[(k:Int)]:=by
 unfold atI; rw [atN_succ,if_pos h,List.map_append]; rfl
theorem atI_no {ps:List Pipe} {x:Int} {k:Nat} (h:endB ps x k=false):atI ps x (k+1)=atI ps x k:=by
 unfold atI; rw [atN_succ,if_neg (by rw [h]; decide),List.append_nil]
theorem atL_mem {ps:List Pipe} {x z:Int} (h:z∈atL ps x):∃(k:Nat) (p:Pipe),z=k∧ps[k]? =some p∧(p.src=x∨p.dst=x):=by
 obtain ⟨k,hk,rfl⟩:=List.mem_map.1 h
 have h2:=(List.mem_filter.1 hk).2
 unfold endB at h2
 split at h2
 ·rename_i p hp
  refine ⟨k,p,rfl,hp,?_⟩
  simpa using h2
 ·cases h2
def othE (p:Pipe) (x:Int):Int:=if p.src=x then p.dst else p.src
theorem oth_sum {p:Pipe} {x:Int} (h:p.src=x∨p.dst=x):othE p x=p.src+p.dst-x:=by
 unfold othE; split <;> omega
theorem oth_end (p:Pipe) (x:Int):p.src=othE p x∨p.dst=othE p x:=by
 unfold othE; split <;> omega
theorem oth_oth {p:Pipe} {x:Int} (h:p.src=x∨p.dst=x):othE p (othE p x)=x:=by
 have h1:=oth_sum h
 have h2:=oth_sum (oth_end p x)
 omega
def EndsN (N:Nat) (ps:List Pipe):Prop:=∀p∈ps,(0≤p.src∧p.src<N)∧(0≤p.dst∧p.dst<N)∧p.src≠p.dst
theorem EndsN.oth {N:Nat} {ps:List Pipe} (he:EndsN N ps) {k:Nat} {p:Pipe} (hk:ps[k]? =some p) (x:Int):∃y:Nat,othE p x=y∧y<N:=by
 have:=he p (List.mem_of_getElem? hk)
 unfold othE
 split
 ·exact ⟨p.dst.toNat,by omega,by omega⟩
 ·exact ⟨p.src.toNat,by omega,by omega⟩
def anyR (_:Nat) (_:Int):Bool:=true
structure Sst where
 seen:List Bool
 en:List Int
 E:List Int
def visit (ps:List Pipe) (room:Nat→Int→Bool) (q:Int) (s:Sst) (z:Int):Sst:=
 match ps[z.toNat]? with
 | none=>s
 | some p=>if s.seen[(othE p q).toNat]? =some false∧room z.toNat q=true then ⟨s.seen.set (othE p q).toNat true,s.en.set (othE p q).toNat z,s.E++[othE p q]⟩ else s
def visits (ps:List Pipe) (room:Nat→Int→Bool) (q:Int) (s:Sst):Sst:=(atL ps q).foldl (visit ps room q) s
def srchF (ps:List Pipe) (room:Nat→Int→Bool):Nat→Nat→Sst→Sst
 | 0,_,s=>s
 | f+1,k,s=>match s.E[k]? with | none=>s | some q=>srchF ps room f (k+1) (visits ps room q s)
structure Okay (N P:Nat) (s:Sst):Prop where
 sl:s.seen.length=N
 el:s.en.length=N
 cnt:s.E.length=s.seen.count true
 inn:∀z∈s.E,∃k:Nat,z=k∧k<N
 enb:∀z∈s.en,-1≤z∧z<P
theorem count_set_T {l:List Bool} {d:Nat} (hd:l[d]? =some false):(l.set d true).count true=l.count true+1:=by
 obtain ⟨h,he⟩:=List.getElem?_eq_some_iff.1 hd
 rw [List.count_set h,he]
 simp
theorem Okay.le {N P:Nat} {s:Sst} (h:Okay N P s):s.E.length≤N:=by rw [h.cnt, ←h.sl]; exact List.count_le_length
theorem Okay.visit1 {N P:Nat} {ps:List Pipe} {room:Nat→Int→Bool} {q z:Int} {s:Sst} (h:Okay N P s) (he:EndsN N ps) (hP:ps.length≤P) (hz:z∈atL ps q):Okay N P (visit ps room q s z):=by
 obtain ⟨k,p,rfl,hk,hq⟩:=atL_mem hz
 unfold visit
 rw [Int.toNat_natCast,hk]
 obtain ⟨y,hy,hyN⟩:=he.oth hk q
 simp only [hy,Int.toNat_natCast]
 have hkl:=(List.getElem?_eq_some_iff.1 hk).1
 split
 ·rename_i hc
  refine ⟨by simp [h.sl],by simp [h.el],?_,fun z hz=> ?_,fun z hz=> ?_⟩
  ·rw [List.length_append,h.cnt,count_set_T hc.1]; rfl
  ·rcases List.mem_append.1 hz with hz | hz
   ·exact h.inn z hz
   ·obtain rfl:=List.mem_singleton.1 hz; exact ⟨y,rfl,hyN⟩
  ·rcases List.mem_or_eq_of_mem_set hz with hz | rfl
   ·exact h.enb z hz
   ·omega
 ·exact h
theorem Okay.folds {N P:Nat} {ps:List Pipe} {room:Nat→Int→Bool} {q:Int} (he:EndsN N ps) (hP:ps.length≤P):∀ {L:List Int} {s:Sst},Okay N P s→(∀z∈L,z∈atL ps q)→Okay N P (L.foldl (visit ps room q) s)
 | [],_,h,_=>h
 | z::L,s,h,hL=>by
  rw [List.foldl_cons]
  exact Okay.folds he hP (h.visit1 he hP (hL z (by simp))) (fun y hy=>hL y (by simp [hy]))
theorem Okay.visitA {N P:Nat} {ps:List Pipe} {room:Nat→Int→Bool} {q:Int} {s:Sst} (h:Okay N P s) (he:EndsN N ps) (hP:ps.length≤P):Okay N P (visits ps room q s):=Okay.folds he hP h (fun _ hz=>hz)
theorem Okay.srchA {N P:Nat} {ps:List Pipe} {room:Nat→Int→Bool} (he:EndsN N ps) (hP:ps.length≤P):∀ {f k:Nat} {s:Sst},Okay N P s→Okay N P (srchF ps room f k s)
 | 0,_,_,h=>h
 | f+1,k,s,h=>by
  simp only [srchF]
  split
  ·exact h
  ·exact Okay.srchA he hP (h.visitA he hP)
theorem visit_no {ps:List Pipe} {room:Nat→Int→Bool} {q:Int} {s:Sst} {k:Nat} {p:Pipe} (hk:ps[k]? =some p) (h:¬(s.seen[(othE p q).toNat]? =some false∧room k q=true)):visit ps room q s k=s:=by
 unfold visit; rw [Int.toNat_natCast,hk]; simp only; rw [if_neg h]
theorem visit_yes {ps:List Pipe} {room:Nat→Int→Bool} {q:Int} {s:Sst} {k:Nat} {p:Pipe} (hk:ps[k]? =some p) (h:s.seen[(othE p q).toNat]? =some false) (hr:room k q=true):visit ps room q s k=⟨s.seen.set (othE p q).toNat true,s.en.set (othE p q).toNat k,s.E++[othE p q]⟩:=by
 unfold visit; rw [Int.toNat_natCast,hk]; simp only; rw [if_pos ⟨h,hr⟩]
theorem srchF_step {ps:List Pipe} {room:Nat→Int→Bool} {f k:Nat} {s:Sst} {q:Int} (hk:s.E[k]? =some q) (hf:k<f):srchF ps room (f-k) k s=srchF ps room (f-(k+1)) (k+1) (visits ps room q s):=by
 obtain ⟨m,hm⟩:∃m,f-k=m+1:=⟨f-k-1,by omega⟩
 rw [hm,show f-(k+1)=m by omega]
 simp only [srchF,hk]
theorem srchF_end {ps:List Pipe} {room:Nat→Int→Bool} {f k:Nat} {s:Sst} (hk:s.E.length≤k):srchF ps room f k s=s:=by
 cases f with
 | zero=>rfl
 | succ f=>simp only [srchF,List.getElem?_eq_none hk]
theorem fold_step {ps:List Pipe} {room:Nat→Int→Bool} {q z:Int} {s:Sst} {L:List Int} {j:Nat} (h:L[j]? =some z):(L.take (j+1)).foldl (visit ps room q) s=visit ps room q ((L.take j).foldl (visit ps room q) s) z:=by
 rw [List.take_add_one,h,List.foldl_append]; rfl
def start (N:Nat) (e:Int) (q:Nat):Sst:=⟨(List.replicate N false).set q true,List.replicate N e,[(q:Int)]⟩
theorem start_ok {N P q:Nat} {e:Int} (h:q<N) (he: -1≤e∧e<P):Okay N P (start N e q):=by
 refine ⟨by simp [start],by simp [start],?_,fun z hz=> ?_,fun z hz=> ?_⟩
 ·simp only [start,List.length_singleton]
  rw [count_set_T (by rw [List.getElem?_replicate,if_pos h])]
  simp [List.count_replicate]
 ·obtain rfl:=List.mem_singleton.1 hz; exact ⟨q,rfl,h⟩
 ·have:=List.eq_of_mem_replicate hz; omega
def srch (ps:List Pipe) (room:Nat→Int→Bool) (N:Nat) (e:Int) (q:Nat):Sst:=srchF ps room N 0 (start N e q)
theorem srch_ok {ps:List Pipe} {room:Nat→Int→Bool} {N P q:Nat} {e:Int} (h:q<N) (he: -1≤e∧e<P) (hE:EndsN N ps) (hP:ps.length≤P):Okay N P (srch ps room N e q):=(start_ok h he).srchA hE hP
end Go.Proofs.YtfkpghdmljjegaaGreat
