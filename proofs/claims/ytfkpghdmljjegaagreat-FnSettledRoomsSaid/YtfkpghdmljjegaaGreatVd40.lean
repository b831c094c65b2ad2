/-
  Allocating, of the program: matching, and the places that match.
-/
import Derived.Test.YtfkpghdmljjegaaGreatVd32
import Derived.Test.YtfkpghdmljjegaaGreatVd06
import Derived.Test.YtfkpghdmljjegaaGreatVd00
import Derived.Test.YtfkpghdmljjegaaGreatVd08
import Derived.Test.YtfkpghdmljjegaaGreatVd35
import Derived.Test.YtfkpghdmljjegaaGreatVd17
import Derived.Test.YtfkpghdmljjegaaGreatVd39
namespace Go.Proofs.YtfkpghdmljjegaaGreat
open Go.RowKit
theorem abs_eq (z:Int):absI z=absZ z:=rfl
theorem match_ways (x:Reading) (o:Order):((o.node==x.node)=false∧Hid (matchB x o=false))∨((o.node==x.node)=true∧decide (0<o.amount)=true∧decide (0<x.amount)=true∧Hid (matchB x o=true))∨
  ((o.node==x.node)=true∧decide (0<o.amount)=true∧decide (0<x.amount)=false∧decide (o.amount<0)=false∧Hid (matchB x o=false))∨
  ((o.node==x.node)=true∧decide (0<o.amount)=false∧decide (o.amount<0)=true∧decide (x.amount<0)=true∧Hid (matchB x o=true))∨
  ((o.node==x.node)=true∧decide (0<o.amount)=false∧decide (o.amount<0)=true∧decide (x.amount<0)=false∧Hid (matchB x o=false))∨
  ((o.node==x.node)=true∧decide (0<o.amount)=false∧decide (o.amount<0)=false∧Hid (matchB x o=false)):=by
 unfold matchB Hid
 have h:decide (0<o.amount)=true→decide (o.amount<0)=false:=by intro h; rw [decide_eq_true_eq] at h; rw [decide_eq_false_iff_not]; omega
 cases ho:decide (0<o.amount)
 ·cases (o.node==x.node) <;> cases decide (0<x.amount) <;> cases decide (o.amount<0) <;> cases decide (x.amount<0) <;> simp
 ·rw [h ho]
  cases (o.node==x.node) <;> cases decide (0<x.amount) <;> cases decide (x.amount<0) <;> simp
set_option maxHeartbeats 1000000 in
theorem c_matches (o:Order) (x:Reading) (w:World):
  Calls Tryz.prog 252 #[.agg #[.int .i64 o.shipper,.int .i64 o.node,.int .i64 o.amount,.int .i64 o.cls],.agg #[.int .i64 x.node,.int .i64 x.amount]] w (Ret (.bool (matchB x o)) w):=by
 have hx:Ext w ((w.alloc (.cells o.cells.toArray 199)).alloc (.cells x.cells.toArray 176)):=(Ext.alloc _ _).and_alloc _
 rcases match_ways x o with ⟨h1,H⟩ | ⟨h1,h2,h3,H⟩ | ⟨h1,h2,h3,h4,H⟩ | ⟨h1,h2,h3,h4,H⟩ | ⟨h1,h2,h3,h4,H⟩ | ⟨h1,h2,h3,H⟩ <;>
 ·rw [H.out]
  go_enter Tryz.func252,Tryz.ntmps252
  go_wp2_with fail
  go_ret
  exact Ret.bool rfl hx
def posM:Nat→List Bool→List Int
 | _,[]=>[]
 | k,true::m=>(k:Int)::posM (k+1) m
 | k,false::m=>posM (k+1) m
theorem pos_snoc (b:Bool):∀(k:Nat) (m:List Bool),posM k (m++[b])=posM k m++if b=true then [((k+m.length:Nat):Int)] else []
 | k,[]=>by cases b <;> simp [posM]
 | k,true::m=>by
  have ih:=pos_snoc b (k+1) m
  simp only [List.cons_append,posM,ih,List.length_cons]
  rw [show k+1+m.length=k+(m.length+1) by omega]
 | k,false::m=>by
  have ih:=pos_snoc b (k+1) m
  simp only [List.cons_append,posM,ih,List.length_cons]
  rw [show k+1+m.length=k+(m.length+1) by omega]
theorem pick_snoc (b:Bool) (z:Int):∀ {m:List Bool} {l:List Int},m.length=l.length→pickM (m++[b]) (l++[z])=pickM m l++if b=true then [z] else []
 | [],[],_=>by cases b <;> simp [pickM]
 | [],_::_,h=>by simp at h
 | _::_,[],h=>by simp at h
 | true::m,x::l,h=>by
  have ih:=pick_snoc b z (m:=m) (l:=l) (by simpa using h)
  simp only [List.cons_append,pickM,ih]
 | false::m,x::l,h=>by
  have ih:=pick_snoc b z (m:=m) (l:=l) (by simpa using h)
  simp only [List.cons_append,pickM,ih]
theorem pos_at:∀ {m:List Bool} {k j:Nat} {p:Int},(posM k m)[j]? =some p→∃i:Nat,p=((k+i:Nat):Int)∧m[i]? =some true∧rankM m i=j
 | [],k,j,p,h=>by simp [posM] at h
 | true::m,k,0,p,h=>by
  simp [posM] at h
  exact ⟨0,by rw [←h]; simp,rfl,rfl⟩
 | true::m,k,j+1,p,h=>by
  obtain ⟨i,h1,h2,h3⟩:=pos_at (m:=m) (k:=k+1) (j:=j) (p:=p) (by simpa [posM] using h)
  exact ⟨i+1,by rw [h1]; congr 1; omega,by simpa using h2,by simp [rankM,h3]⟩
 | false::m,k,j,p,h=>by
  obtain ⟨i,h1,h2,h3⟩:=pos_at (m:=m) (k:=k+1) (j:=j) (p:=p) (by simpa [posM] using h)
  exact ⟨i+1,by rw [h1]; congr 1; omega,by simpa using h2,by simp [rankM,h3]⟩
theorem pos_len:∀ {m:List Bool} {l:List Int} {k:Nat},m.length=l.length→(posM k m).length=(pickM m l).length
 | [],[],_,_=>rfl
 | [],_::_,_,h=>by simp at h
 | _::_,[],_,h=>by simp at h
 | true::m,x::l,k,h=>by simp only [posM,pickM,List.length_cons]; rw [pos_len (k:=k+1) (m:=m) (l:=l) (by simpa using h)]
 | false::m,x::l,k,h=>by simp only [posM,pickM]; rw [pos_len (k:=k+1) (m:=m) (l:=l) (by simpa using h)]
theorem rank_inj {m:List Bool} {i j:Nat} (hi:m[i]? =some true) (hj:m[j]? =some true) (h:rankM m i=rankM m j):i=j:=by
 induction m generalizing i j with
 | nil=>simp at hi
 | cons b m ih=>
  cases i with
  | zero=>
   cases j with
   | zero=>rfl
   | succ j=>cases b <;> simp [rankM] at hi h
  | succ i=>
   cases j with
   | zero=>cases b <;> simp [rankM] at hj h
   | succ j=>
    have:i=j:=ih (by simpa using hi) (by simpa using hj) (by cases b <;> simpa [rankM] using h)
    omega
def marks (os:List Order) (x:Reading):List Bool:=os.map (matchB x)
theorem marks_len (os:List Order) (x:Reading):(marks os x).length=os.length:=by simp [marks]
theorem marks_at {os:List Order} {x:Reading} {i:Nat} {o:Order} (h:os[i]? =some o):(marks os x)[i]? =some (matchB x o):=by simp [marks,h]
theorem marks_take {os:List Order} {x:Reading} {k:Nat} {o:Order} (h:os[k]? =some o):marks (os.take (k+1)) x=marks (os.take k) x++[matchB x o]:=by
 unfold marks; rw [List.take_add_one,h,List.map_append]; rfl
theorem places_take {os:List Order} {x:Reading} {k:Nat} {o:Order} (h:os[k]? =some o):posM 0 (marks (os.take (k+1)) x)=posM 0 (marks (os.take k) x)++if matchB x o=true then [(k:Int)] else []:=by
 have hk:=(List.getElem?_eq_some_iff.1 h).1
 rw [marks_take h,pos_snoc,marks_len,List.length_take,Nat.min_eq_left (by omega),Nat.zero_add]
theorem weights_take {os:List Order} {x:Reading} {k:Nat} {o:Order} (h:os[k]? =some o):pickM (marks (os.take (k+1)) x) (wts (os.take (k+1)) x)=pickM (marks (os.take k) x) (wts (os.take k) x)++if matchB x o=true then [absI o.amount] else []:=by
 rw [marks_take h,show wts (os.take (k+1)) x=wts (os.take k) x++[wt x o] by unfold wts; rw [List.take_add_one,h,List.map_append]; rfl,pick_snoc _ _ (by simp [marks,wts])]
 cases hm:matchB x o
 ·rfl
 ·rw [if_pos rfl,if_pos rfl,(wt_yes hm).1]; rfl
def Sep (rs:List Reading):Prop:=∀(j k:Nat) (y x:Reading),j<k→rs[j]? =some y→rs[k]? =some x→clash y x=false
theorem sep_of {nn:Int} {rs:List Reading} (h:readsB nn rs=true):Sep rs:=by
 intro j k y x hjk hj hk
 unfold readsB at h
 rw [Bool.and_eq_true,List.all_eq_true] at h
 have h1:=h.2 k (List.mem_range.2 (List.getElem?_eq_some_iff.1 hk).1)
 rw [readOk_at hk,Bool.and_eq_true] at h1
 have h2:=h1.2
 simp only [Bool.not_eq_true',hasR,List.any_eq_false] at h2
 have h3:=h2 y (List.mem_of_getElem? (i:=j) (by rw [List.getElem?_take,if_pos hjk]; exact hj))
 simpa using h3
theorem reads_mem {nn:Int} {rs:List Reading} (h:readsB nn rs=true):∀x∈rs,(-30000≤x.amount∧x.amount≤30000)∧x.amount≠0:=by
 intro x hx
 obtain ⟨k,hk⟩:=List.getElem?_of_mem hx
 unfold readsB at h
 rw [Bool.and_eq_true,List.all_eq_true] at h
 have h1:=h.2 k (List.mem_range.2 (List.getElem?_eq_some_iff.1 hk).1)
 rw [readOk_at hk,Bool.and_eq_true] at h1
 have h2:=h1.1
 simp only [readB,Bool.and_eq_true,inB_true,Bool.not_eq_true',beq_eq_false_iff_ne] at h2
 exact ⟨h2.1.2,h2.2⟩
theorem match_clash {x y:Reading} {o:Order} (h1:matchB x o=true) (h2:matchB y o=true):clash y x=true:=by
 simp only [matchB,clash,Bool.and_eq_true,Bool.or_eq_true,beq_iff_eq,decide_eq_true_eq] at *
 obtain ⟨a,b⟩:=h1
 obtain ⟨c,d⟩:=h2
 refine ⟨by omega,?_⟩
 rcases b with b | b <;> rcases d with d | d
 ·rw [decide_eq_true d.2,decide_eq_true b.2]
 ·omega
 ·omega
 ·rw [decide_eq_false (by omega),decide_eq_false (by omega)]
def Free (os:List Order) (rs:List Reading) (k:Nat) (g:List Int):Prop:=∀(i:Nat) (o:Order),os[i]? =some o→(∀(j:Nat) (y:Reading),j<k→rs[j]? =some y→matchB y o=false)→g[i]? =some 0
theorem Free.hf {os:List Order} {rs:List Reading} {k:Nat} {g:List Int} {x:Reading} (h:Free os rs k g) (hs:Sep rs) (hx:rs[k]? =some x):∀i:Nat,(marks os x)[i]? =some true→g[i]? =some 0:=by
 intro i hi
 unfold marks at hi
 rw [List.getElem?_map] at hi
 cases ho:os[i]? with
 | none=>rw [ho] at hi; cases hi
 | some o=>
  rw [ho] at hi
  have hm:matchB x o=true:=by simpa using hi
  refine h i o ho fun j y hj hy=> ?_
  cases hc:matchB y o with
  | false=>rfl
  | true=>have:=match_clash hm hc; rw [hs j k y x hj hy hx] at this; cases this
structure Laid (m:List Bool) (s:Int) (shf g:List Int) (j:Nat) (g2:List Int):Prop where
 len:g2.length=g.length
 no:∀i:Nat,m[i]? =some false→g2[i]? =g[i]?
 yes:∀i:Nat,m[i]? =some true→rankM m i<j→∃v,shf[rankM m i]? =some v∧g2[i]? =some (s*v)
theorem Laid.start (m:List Bool) (s:Int) (shf g:List Int):Laid m s shf g 0 g:=⟨rfl,fun _ _=>rfl,fun i _ h=>absurd h (by omega)⟩
theorem Laid.next {m:List Bool} {s:Int} {shf g g2:List Int} {j i:Nat} {v:Int} (h:Laid m s shf g j g2) (hm:m[i]? =some true) (hr:rankM m i=j) (hv:shf[j]? =some v) (hl:i<g.length):Laid m s shf g (j+1) (g2.set i (s*v)):=by
 refine ⟨by rw [List.length_set]; exact h.len,fun p hp=> ?_,fun p hp hpj=> ?_⟩
 ·rw [List.getElem?_set,if_neg (fun e=>by subst e; rw [hm] at hp; cases hp)]
  exact h.no p hp
 ·rw [List.getElem?_set]
  by_cases e:i=p
  ·subst e
   rw [if_pos rfl,if_pos (by rw [h.len]; exact hl)]
   exact ⟨v,by rw [hr]; exact hv,rfl⟩
  ·rw [if_neg e]
   refine h.yes p hp ?_
   have:rankM m p≠j:=fun e2=>e (rank_inj hm hp (by rw [hr,e2]))
   omega
theorem rank_count:∀ {m:List Bool} {l:List Int} {i:Nat},m.length=l.length→m[i]? =some true→rankM m i<(pickM m l).length
 | [],_,i,_,h=>by simp at h
 | _::_,[],_,h,_=>by simp at h
 | true::m,x::l,0,_,_=>by simp [rankM,pickM]
 | false::m,x::l,0,_,h=>by simp at h
 | true::m,x::l,i+1,hl,h=>by
  have:=rank_count (m:=m) (l:=l) (i:=i) (by simpa using hl) (by simpa using h)
  simpa [rankM,pickM] using this
 | false::m,x::l,i+1,hl,h=>by
  have:=rank_count (m:=m) (l:=l) (i:=i) (by simpa using hl) (by simpa using h)
  simpa [rankM,pickM] using this
theorem Laid.step {os:List Order} {rs:List Reading} {k:Nat} {x:Reading} {g g2 shf:List Int} (h:Laid (marks os x) (sgn x) shf g shf.length g2) (hF:Free os rs k g) (hSep:Sep rs) (hx:rs[k]? =some x) (hx0:x.amount≠0) (hg:g.length=os.length)
  (hs:0<sumZ (wts os x)) (hsh:Shares (absZ x.amount) (pickM (marks os x) (wts os x)) shf):
  (∃sh,Shares (absZ x.amount) (wts os x) sh∧g2=addS (sgn x) g sh)∧Free os rs (k+1) g2:=by
 have hml:(marks os x).length=(wts os x).length:=by simp [marks,wts]
 refine ⟨alloc_step hx0 hg (by rw [h.len,hg]) hs (hF.hf hSep hx) hsh h.no (fun i hi=>h.yes i hi (by rw [hsh.len]; exact rank_count hml hi)),?_⟩
 intro i o ho hno
 rw [h.no i (by rw [marks_at ho,hno k x (by omega) hx])]
 exact hF i o ho fun j y hj hy=>hno j y (by omega) hy
theorem Free.skip {os:List Order} {rs:List Reading} {k:Nat} {g:List Int} (h:Free os rs k g):Free os rs (k+1) g:=fun i o ho hno=>h i o ho fun j y hj hy=>hno j y (by omega) hy
theorem Free.start (os:List Order) (rs:List Reading):Free os rs 0 (List.replicate os.length 0):=fun i o ho _=>by
 rw [List.getElem?_replicate,if_pos (List.getElem?_eq_some_iff.1 ho).1]
theorem pos_nil {os:List Order} {x:Reading} (hx:x.amount≠0) (h:posM 0 (marks os x)=[]):sumZ (wts os x)=0:=by
 refine wts_zero hx fun o ho=> ?_
 cases hm:matchB x o with
 | false=>rfl
 | true=>
  exfalso
  obtain ⟨i,hi⟩:=List.getElem?_of_mem ho
  have h1:=rank_count (m:=marks os x) (l:=wts os x) (i:=i) (by simp [marks,wts]) (by rw [marks_at hi,hm])
  rw [←pos_len (k:=0) (by simp [marks,wts]),h] at h1
  cases h1
theorem pos_some {os:List Order} {x:Reading} (h:posM 0 (marks os x)≠[]):0<sumZ (wts os x)∧0<sumZ (pickM (marks os x) (wts os x)):=by
 obtain ⟨p,hp⟩:∃p,(posM 0 (marks os x))[0]? =some p:=by
  cases hc:posM 0 (marks os x) with
  | nil=>exact absurd hc h
  | cons a l=>exact ⟨a,rfl⟩
 obtain ⟨i,_,hi,_⟩:=pos_at hp
 unfold marks at hi
 rw [List.getElem?_map] at hi
 cases ho:os[i]? with
 | none=>rw [ho] at hi; cases hi
 | some o=>
  rw [ho] at hi
  have h1:=wts_pos (List.mem_of_getElem? ho) (by simpa using hi:matchB x o=true)
  refine ⟨h1,?_⟩
  by_cases hx:x.amount=0
  ·exfalso
   have hm:matchB x o=true:=by simpa using hi
   simp only [matchB,Bool.and_eq_true,Bool.or_eq_true,decide_eq_true_eq] at hm
   omega
  rw [pick_sum (by simp [marks,wts]) (fun j y hm hy=> ?_)]
  ·exact h1
  ·unfold marks at hm
   rw [List.getElem?_map] at hm
   rw [wts,List.getElem?_map] at hy
   cases ho:os[j]? with
   | none=>rw [ho] at hm; cases hm
   | some o=>
    rw [ho] at hm hy
    simp at hm hy
    rw [←hy]; exact wt_no hm hx
end Go.Proofs.YtfkpghdmljjegaaGreat
namespace Go.Proofs.YtfkpghdmljjegaaGreat
open Go.RowKit
theorem post_one (y:Posting):∀u∈y.cells,u.oneCell'=true:=by intro u hu; simp [Posting.cells] at hu; rcases hu with rfl | rfl | rfl | rfl <;> rfl
end Go.Proofs.YtfkpghdmljjegaaGreat
namespace Go.Proofs.YtfkpghdmljjegaaGreat
open Go.RowKit
structure NBoxL (w:World) (b:Nat) (A1 A2:Option Addr) (n1 c1 n2 c2:Nat):Prop where
 lt:b<w.heap.size
 x0:w.cell? ⟨b,0,none⟩=some (.slice A1 n1 c1)
 x1:w.cell? ⟨b,1,none⟩=some (.slice A2 n2 c2)
theorem NBoxL.ext {w w':World} {b:Nat} {A1 A2:Option Addr} {n1 c1 n2 c2:Nat} (h:NBoxL w b A1 A2 n1 c1 n2 c2) (hx:Ext w w'):NBoxL w' b A1 A2 n1 c1 n2 c2:=
 ⟨Nat.lt_of_lt_of_le h.lt hx.size,(hx.cell _ _ h.lt).trans h.x0,(hx.cell _ _ h.lt).trans h.x1⟩
theorem NBoxL.new (w:World) (A1 A2:Option Addr) (n1 c1 n2 c2:Nat) (t:TypeId):NBoxL (w.alloc (.cells #[.slice A1 n1 c1,.slice A2 n2 c2] t)) w.heap.size A1 A2 n1 c1 n2 c2:=by
 have hR:=Row.new w t [.slice A1 n1 c1,.slice A2 n2 c2]
 exact ⟨by simp,hR.cell 0,hR.cell 1⟩
theorem blk_is {g n b:Nat} (h:blkOf (some ⟨g,0,none⟩) n=some b):b=g:=by
 unfold blkOf at h
 split at h
 ·cases h
 ·simpa using h.symm
end Go.Proofs.YtfkpghdmljjegaaGreat
