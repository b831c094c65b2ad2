/-
  Routing, in plain Lean: what a search leaves is a tree; a path back to its root; sending along it.
-/
import Derived.Test.YtfkpghdmljjegaaGreatVe17
namespace Go.Proofs.YtfkpghdmljjegaaGreat
structure Tree (ps:List Pipe) (room:Nat→Int→Bool) (q0:Int) (s:Sst):Prop where
 hd:s.E[0]? =some q0
 nn:∀x∈s.E,0≤x
 mem:∀x:Nat,(x:Int)∈s.E→s.seen[x]? =some true
 up:∀(i:Nat) (x:Int),0<i→s.E[i]? =some x→∃(k:Nat) (p:Pipe) (j:Nat),s.en[x.toNat]? =some (k:Int)∧ps[k]? =some p∧(p.src=x∨p.dst=x)∧j<i∧s.E[j]? =some (othE p x)∧room k (othE p x)=true
section
variable {ps:List Pipe} {room:Nat→Int→Bool} {q0:Int} {s:Sst} {N P:Nat}
theorem Tree.visit1 (h:Tree ps room q0 s) (ho:Okay N P s) (he:EndsN N ps) {q z:Int} (hz:z∈atL ps q) {j:Nat} (hj:s.E[j]? =some q):Tree ps room q0 (visit ps room q s z)∧(visit ps room q s z).E[j]? =some q:=by
 obtain ⟨k,p,rfl,hk,hq⟩:=atL_mem hz
 obtain ⟨y,hy,hyN⟩:=he.oth hk q
 by_cases hc:s.seen[(othE p q).toNat]? =some false∧room k q=true
 ·rw [visit_yes hk hc.1 hc.2]
  have hs:=hc.1
  rw [hy,Int.toNat_natCast] at hs ⊢
  have hjl:=(List.getElem?_eq_some_iff.1 hj).1
  have hne:∀x∈s.E,x.toNat≠y:=fun x hx e=>by
   have h0:=h.nn x hx
   have h1:=h.mem y (by rw [←e,Int.toNat_of_nonneg h0]; exact hx)
   rw [hs] at h1; cases h1
  refine ⟨⟨?_,fun x hx=> ?_,fun x hx=> ?_,fun i x hi hx=> ?_⟩,?_⟩
  ·rw [List.getElem?_append_left (by omega)]; exact h.hd
  ·rcases List.mem_append.1 hx with hx | hx
   ·exact h.nn x hx
   ·obtain rfl:=List.mem_singleton.1 hx; omega
  ·rcases List.mem_append.1 hx with hx | hx
   ·have h1:=h.mem x hx
    have h2:=hne x hx
    rw [Int.toNat_natCast] at h2
    rw [List.getElem?_set_ne (Ne.symm h2)]; exact h1
   ·have:=List.mem_singleton.1 hx
    obtain rfl:x=y:=by omega
    rw [List.getElem?_set_self (by rw [ho.sl]; exact hyN)]
  ·rcases Nat.lt_or_ge i s.E.length with hl | hl
   ·rw [List.getElem?_append_left hl] at hx
    obtain ⟨k',p',j',h1,h2,h3,h4,h5,h6⟩:=h.up i x hi hx
    refine ⟨k',p',j',?_,h2,h3,h4,by rw [List.getElem?_append_left (by omega)]; exact h5,h6⟩
    rw [List.getElem?_set_ne (Ne.symm (hne x (List.mem_of_getElem? hx)))]; exact h1
   ·rw [List.getElem?_append_right hl] at hx
    have hi0:i-s.E.length=0:=by
     rcases Nat.eq_zero_or_pos (i-s.E.length) with h0 | h0
     ·exact h0
     ·rw [List.getElem?_eq_none (by simp; omega)] at hx; cases hx
    rw [hi0] at hx
    obtain rfl:(y:Int)=x:=by simpa using hx
    have e2:othE p (y:Int)=q:=by rw [←hy]; exact oth_oth hq
    refine ⟨k,p,j,?_,hk,by rw [←hy]; exact oth_end p q,by omega,?_,?_⟩
    ·rw [Int.toNat_natCast,List.getElem?_set_self (by rw [ho.el]; exact hyN)]
    ·rw [e2,List.getElem?_append_left hjl]; exact hj
    ·rw [e2]; exact hc.2
  ·rw [List.getElem?_append_left hjl]; exact hj
 ·rw [visit_no hk hc]; exact ⟨h,hj⟩
theorem Tree.folds (he:EndsN N ps) (hP:ps.length≤P) {q:Int} {j:Nat}:∀ {L:List Int} {s:Sst},Tree ps room q0 s→Okay N P s→s.E[j]? =some q→(∀z∈L,z∈atL ps q)→Tree ps room q0 (L.foldl (visit ps room q) s)
 | [],_,h,_,_,_=>h
 | z::L,s,h,ho,hj,hL=>by
  rw [List.foldl_cons]
  obtain ⟨h1,h2⟩:=h.visit1 ho he (hL z (by simp)) hj
  exact Tree.folds he hP h1 (ho.visit1 he hP (hL z (by simp))) h2 (fun y hy=>hL y (by simp [hy]))
theorem Tree.srchA (he:EndsN N ps) (hP:ps.length≤P):∀ {f k:Nat} {s:Sst},Tree ps room q0 s→Okay N P s→Tree ps room q0 (srchF ps room f k s)
 | 0,_,_,h,_=>h
 | f+1,k,s,h,ho=>by
  simp only [srchF]
  cases hk:s.E[k]? with
  | none=>exact h
  | some q=>exact Tree.srchA he hP (Tree.folds he hP h ho hk (fun _ hz=>hz)) (ho.visitA he hP)
theorem start_tree {e:Int} {q:Nat} (hq:q<N):Tree ps room q (start N e q):=by
 refine ⟨rfl,fun x hx=> ?_,fun x hx=> ?_,fun i x hi hx=> ?_⟩
 ·obtain rfl:=List.mem_singleton.1 hx; omega
 ·have:=List.mem_singleton.1 hx
  obtain rfl:x=q:=by omega
  simp only [start]
  rw [List.getElem?_set_self (by simp; exact hq)]
 ·simp only [start] at hx
  rw [List.getElem?_eq_none (by simp; omega)] at hx; cases hx
theorem srch_tree {e:Int} {q:Nat} (hq:q<N) (he: -1≤e∧e<P) (hE:EndsN N ps) (hP:ps.length≤P):Tree ps room q (srch ps room N e q):=Tree.srchA hE hP (start_tree hq) (start_ok hq he)
theorem idx_le {l:List Int} {j:Nat} {x:Int} (h:l[j]? =some x):l.idxOf x≤j:=by
 induction l generalizing j with
 | nil=>simp at h
 | cons a l ih=>
  rw [List.idxOf_cons]
  cases j with
  | zero=>simp at h; subst h; simp
  | succ j=>
   have:=ih (j:=j) (by simpa using h)
   cases hb:(a==x)
   ·simp only [cond_false]; omega
   ·simp
theorem idx_at {l:List Int} {x:Int} (h:x∈l):l[l.idxOf x]? =some x:=by
 induction l with
 | nil=>cases h
 | cons a l ih=>
  rw [List.idxOf_cons]
  cases hb:(a==x)
  ·simp only [cond_false,List.getElem?_cons_succ]
   rcases List.mem_cons.1 h with rfl | h
   ·simp at hb
   ·exact ih h
  ·simp only [cond_true,List.getElem?_cons_zero]
   rw [show a=x by simpa using hb]
theorem Tree.up2 (h:Tree ps room q0 s) {x:Int} (hx:x∈s.E) (hne:x≠q0):∃(k:Nat) (p:Pipe),s.en[x.toNat]? =some (k:Int)∧ps[k]? =some p∧(p.src=x∨p.dst=x)∧othE p x∈s.E∧s.E.idxOf (othE p x)<s.E.idxOf x∧room k (othE p x)=true:=by
 have h1:=idx_at hx
 have h0:0<s.E.idxOf x:=by
  rcases Nat.eq_zero_or_pos (s.E.idxOf x) with h0 | h0
  ·rw [h0,h.hd] at h1; exact absurd (Option.some.inj h1).symm hne
  ·exact h0
 obtain ⟨k,p,j,a,b,c,d,e,f⟩:=h.up _ x h0 h1
 exact ⟨k,p,a,b,c,List.mem_of_getElem? e,Nat.lt_of_le_of_lt (idx_le e) d,f⟩
structure Stp where
 pipe:Nat
 up:Int
 to:Int
inductive Pth (ps:List Pipe) (en:List Int) (q:Int):Int→List Stp→Prop
 | nil:Pth ps en q q []
 | cons {x:Int} {k:Nat} {p:Pipe} {L:List Stp} (hne:x≠q) (he:en[x.toNat]? =some (k:Int)) (hp:ps[k]? =some p) (h:Pth ps en q (othE p x) L):Pth ps en q x (⟨k,othE p x,x⟩::L)
def pathF (ps:List Pipe) (en:List Int) (q:Int):Nat→Int→List Stp
 | 0,_=>[]
 | f+1,x=>if x=q then [] else match en[x.toNat]? with
  | none=>[]
  | some k=>match ps[k.toNat]? with
   | none=>[]
   | some p=>⟨k.toNat,othE p x,x⟩::pathF ps en q f (othE p x)
theorem Pth.eq {en:List Int} {q x:Int} {L:List Stp} (h:Pth ps en q x L):∀ {f:Nat},L.length≤f→pathF ps en q f x=L:=by
 induction h with
 | nil=>
  intro f _
  cases f with
  | zero=>rfl
  | succ f=>simp only [pathF,if_true]
 | @cons x k p L hne he hp h ih=>
  intro f hf
  cases f with
  | zero=>simp at hf
  | succ f=>
   simp only [pathF,if_neg hne,he,Int.toNat_natCast,hp]
   rw [ih (by simp at hf; exact hf)]
structure Good (ps:List Pipe) (room:Nat→Int→Bool) (E:List Int) (m:Nat) (e:Stp):Prop where
 pip:∃p,ps[e.pipe]? =some p∧(p.src=e.to∨p.dst=e.to)∧othE p e.to=e.up
 room_:room e.pipe e.up=true
 lt:E.idxOf e.up<E.idxOf e.to
 le:E.idxOf e.to≤m
 m1:e.up∈E
 m2:e.to∈E
theorem Tree.path (h:Tree ps room q0 s):∀(m:Nat) (x:Int),x∈s.E→s.E.idxOf x≤m→∃L,Pth ps s.en q0 x L∧L.length≤m∧(L.map Stp.pipe).Nodup∧∀e∈L,Good ps room s.E m e
 | 0,x,hx,hm=>by
  have h1:=idx_at hx
  rw [show s.E.idxOf x=0 by omega,h.hd] at h1
  obtain rfl:=Option.some.inj h1
  exact ⟨[],.nil,by simp,by simp,fun e he=>by cases he⟩
 | m+1,x,hx,hm=>by
  by_cases hne:x=q0
  ·subst hne; exact ⟨[],.nil,by simp,by simp,fun e he=>by cases he⟩
  ·obtain ⟨k,p,a,b,c,d,e,f⟩:=h.up2 hx hne
   obtain ⟨L,h1,h2,h3,h4⟩:=Tree.path h (s.E.idxOf x-1) (othE p x) d (by omega)
   refine ⟨⟨k,othE p x,x⟩::L,.cons hne a b h1,by simp; omega,?_,fun y hy=> ?_⟩
   ·rw [List.map_cons,List.nodup_cons]
    refine ⟨fun hk=> ?_,h3⟩
    obtain ⟨y,hy,hyk⟩:=List.mem_map.1 hk
    obtain ⟨⟨p',g1,g2,g3⟩,_,g4,g5,_,_⟩:=h4 y hy
    simp only at hyk
    rw [hyk,b] at g1
    obtain rfl:=Option.some.inj g1
    have hxx:x=y.to∨x=y.up:=by
     rw [←g3]
     unfold othE
     split <;> omega
    rcases hxx with rfl | rfl <;> omega
   ·rcases List.mem_cons.1 hy with rfl | hy
    ·exact ⟨⟨p,b,c,rfl⟩,f,e,hm,d,hx⟩
    ·have g:=h4 y hy
     exact ⟨g.pip,g.room_,g.lt,by have:=g.le; omega,g.m1,g.m2⟩
 termination_by m=>m
 decreasing_by omega
end
structure Rst where
 fl:List Int
 lf:List Int
def roomZ (ps:List Pipe) (fl:List Int) (k:Nat) (q:Int):Int:=match ps[k]?,fl[k]? with
 | some p,some f=>if p.src=q then p.limit-f else p.limit+f
 | _,_=>0
def hasRm (ps:List Pipe) (fl:List Int) (k:Nat) (q:Int):Bool:=decide (0<roomZ ps fl k q)
theorem roomZ_at {ps:List Pipe} {fl:List Int} {k:Nat} {p:Pipe} {f:Int} (h:ps[k]? =some p) (hf:fl[k]? =some f) (q:Int):roomZ ps fl k q=if p.src=q then p.limit-f else p.limit+f:=by
 unfold roomZ; rw [h,hf]
def minA (ps:List Pipe) (fl:List Int) (a:Int) (L:List Stp):Int:=L.foldl (fun a e=>if roomZ ps fl e.pipe e.up<a then roomZ ps fl e.pipe e.up else a) a
def turnS (ps:List Pipe) (a:Int) (e:Stp) (f:Int):Int:=match ps[e.pipe]? with | some p=>if p.src=e.up then f+a else f-a | none=>f
def addA (ps:List Pipe) (a:Int) (fl:List Int) (L:List Stp):List Int:=L.foldl (fun fl e=>fl.set e.pipe (turnS ps a e ((fl[e.pipe]?).getD 0))) fl
theorem addA_len {ps:List Pipe} {a:Int} {L:List Stp} {fl:List Int}:(addA ps a fl L).length=fl.length:=by
 unfold addA
 induction L generalizing fl with
 | nil=>rfl
 | cons e L ih=>simp only [List.foldl_cons]; rw [ih,List.length_set]
theorem addA_cons {ps:List Pipe} {a:Int} {e:Stp} {L:List Stp} {fl:List Int}:addA ps a fl (e::L)=addA ps a (fl.set e.pipe (turnS ps a e ((fl[e.pipe]?).getD 0))) L:=rfl
theorem addA_snoc {ps:List Pipe} {a:Int} {e:Stp} {L:List Stp} {fl:List Int}:addA ps a fl (L++[e])=(addA ps a fl L).set e.pipe (turnS ps a e (((addA ps a fl L)[e.pipe]?).getD 0)):=by
 unfold addA; rw [List.foldl_append]; rfl
theorem addA_far {ps:List Pipe} {a:Int} {L:List Stp} {fl:List Int} {k:Nat} (h:k ∉ L.map Stp.pipe):(addA ps a fl L)[k]? =fl[k]? :=by
 induction L generalizing fl with
 | nil=>rfl
 | cons e L ih=>
  simp only [List.map_cons,List.mem_cons,not_or] at h
  rw [addA_cons,ih h.2,List.getElem?_set_ne (Ne.symm h.1)]
theorem addA_at {ps:List Pipe} {a:Int} {L:List Stp} {fl:List Int} {e:Stp} {f:Int} (hn:(L.map Stp.pipe).Nodup) (he:e∈L) (hf:fl[e.pipe]? =some f):(addA ps a fl L)[e.pipe]? =some (turnS ps a e f):=by
 induction L generalizing fl with
 | nil=>cases he
 | cons e' L ih=>
  rw [List.map_cons,List.nodup_cons] at hn
  rw [addA_cons]
  rcases List.mem_cons.1 he with rfl | he
  ·rw [addA_far hn.1,List.getElem?_set_self (List.getElem?_eq_some_iff.1 hf).1,hf]; rfl
  ·have hne:e'.pipe≠e.pipe:=fun h=>hn.1 (by rw [h]; exact List.mem_map_of_mem he)
   exact ih hn.2 he (by rw [List.getElem?_set_ne hne]; exact hf)
theorem minA_le {ps:List Pipe} {fl:List Int} {a:Int} {L:List Stp}:minA ps fl a L≤a∧∀e∈L,minA ps fl a L≤roomZ ps fl e.pipe e.up:=by
 unfold minA
 induction L generalizing a with
 | nil=>exact ⟨Int.le_refl _,fun e he=>by cases he⟩
 | cons e' L ih=>
  simp only [List.foldl_cons]
  have h0:(if roomZ ps fl e'.pipe e'.up<a then roomZ ps fl e'.pipe e'.up else a)≤a∧(if roomZ ps fl e'.pipe e'.up<a then roomZ ps fl e'.pipe e'.up else a)≤roomZ ps fl e'.pipe e'.up:=by split <;> omega
  obtain ⟨h1,h2⟩:=ih (a:=if roomZ ps fl e'.pipe e'.up<a then roomZ ps fl e'.pipe e'.up else a)
  refine ⟨Int.le_trans h1 h0.1,fun e he=> ?_⟩
  rcases List.mem_cons.1 he with rfl | he
  ·exact Int.le_trans h1 h0.2
  ·exact h2 e he
theorem minA_pos {ps:List Pipe} {fl:List Int} {a:Int} {L:List Stp} (ha:0<a) (h:∀e∈L,0<roomZ ps fl e.pipe e.up):0<minA ps fl a L:=by
 unfold minA
 induction L generalizing a with
 | nil=>exact ha
 | cons e' L ih=>
  simp only [List.foldl_cons]
  refine ih ?_ (fun e he=>h e (by simp [he]))
  have:=h e' (by simp)
  split <;> omega
def tgt (lf E:List Int):Option Int:=E.find? fun z=>decide ((lf[z.toNat]?).getD 0<0)
def zAt (l:List Int) (i:Nat):Int:=(l[i]?).getD 0
def sendZ (ps:List Pipe) (N q:Nat) (s:Rst) (z:Int):Rst:=
 let L:=pathF ps (srch ps (hasRm ps s.fl) N 0 q).en q N z
 let a:=minA ps s.fl (if -(zAt s.lf z.toNat)<zAt s.lf q then -(zAt s.lf z.toNat) else zAt s.lf q) L
 ⟨addA ps a s.fl L,(s.lf.set q (zAt s.lf q-a)).set z.toNat (zAt s.lf z.toNat+a)⟩
def sendN (ps:List Pipe) (N q:Nat) (s:Rst):Option Rst:=(tgt s.lf (srch ps (hasRm ps s.fl) N 0 q).E).map (sendZ ps N q s)
def oneS (ps:List Pipe) (N:Nat) (s:Rst):Option Rst:=(List.range N).findSome? fun i=>if 0<zAt s.lf i then sendN ps N i s else none
inductive Route (ps:List Pipe) (N:Nat):Rst→Rst→Prop
 | done {s:Rst} (h:oneS ps N s=none):Route ps N s s
 | step {s s' t:Rst} (h:oneS ps N s=some s') (r:Route ps N s' t):Route ps N s t
theorem Route.uniq {ps:List Pipe} {N:Nat} {s t t':Rst} (h:Route ps N s t) (h':Route ps N s t'):t=t':=by
 induction h with
 | done h=>
  cases h' with
  | done=>rfl
  | step h1 _=>rw [h] at h1; cases h1
 | step h _ ih=>
  cases h' with
  | done h1=>rw [h] at h1; cases h1
  | step h1 r=>rw [h] at h1; cases h1; exact ih r
end Go.Proofs.YtfkpghdmljjegaaGreat
namespace Go.Proofs.YtfkpghdmljjegaaGreat
structure RInv (ps:List Pipe) (N:Nat) (s:Rst):Prop where
 fl:s.fl.length=ps.length
 lf:s.lf.length=N
 bd:∀(k:Nat) (p:Pipe) (f:Int),ps[k]? =some p→s.fl[k]? =some f→ -p.limit≤f∧f≤p.limit
 lb:∀z∈s.lf,-30000≤z∧z≤30000
structure PipesN (N:Nat) (ps:List Pipe):Prop where
 ends:EndsN N ps
 lim:∀p∈ps,1≤p.limit∧p.limit≤30000
 n24:N≤24
 p40:ps.length≤40
def pos0 (x:Int):Int:=if 0<x then x else 0
def posS:List Int→Int
 | []=>0
 | x::l=>pos0 x+posS l
theorem posS_nn:∀l:List Int,0≤posS l
 | []=>Int.le_refl _
 | x::l=>by
  have:=posS_nn l
  simp only [posS,pos0]
  split <;> omega
theorem posS_set:∀ {l:List Int} {i:Nat} {x:Int} (v:Int),l[i]? =some x→posS (l.set i v)=posS l-pos0 x+pos0 v
 | [],i,x,v,h=>by simp at h
 | y::l,0,x,v,h=>by simp at h; subst h; simp only [List.set_cons_zero,posS]; omega
 | y::l,i+1,x,v,h=>by
  have:=posS_set (l:=l) v (by simpa using h)
  simp only [List.set_cons_succ,posS]; omega
section
variable {ps:List Pipe} {N q:Nat} {s:Rst}
def rs (ps:List Pipe) (N q:Nat) (s:Rst):Sst:=srch ps (hasRm ps s.fl) N 0 q
theorem rs_ok1 (hP:PipesN N ps) (hq:q<N):Okay N (ps.length+1) (rs ps N q s):=srch_ok hq ⟨by omega,by omega⟩ hP.ends (by omega)
theorem rs_tree (hP:PipesN N ps) (hq:q<N):Tree ps (hasRm ps s.fl) q (rs ps N q s):=srch_tree hq (P:=ps.length+1) ⟨by omega,by omega⟩ hP.ends (by omega)
structure Tgt (ps:List Pipe) (N q:Nat) (s:Rst) (t:Nat) (lq lt:Int) (L:List Stp):Prop where
 tN:t<N
 ne:t≠q
 fq:s.lf[q]? =some lq
 ft:s.lf[t]? =some lt
 neg:lt<0
 path:Pth ps (rs ps N q s).en q t L
 len:L.length<N
 nod:(L.map Stp.pipe).Nodup
 good:∀e∈L,Good ps (hasRm ps s.fl) (rs ps N q s).E N e
 eq:pathF ps (rs ps N q s).en q N t=L
theorem find_tgt {lf E:List Int} {z:Int} (h:tgt lf E=some z):z∈E∧(lf[z.toNat]?).getD 0<0:=by
 have h1:=List.find?_some h
 exact ⟨List.mem_of_find?_eq_some h,by simpa using h1⟩
theorem tgt_of (hI:RInv ps N s) (hP:PipesN N ps) (hq:q<N) {lq:Int} (hlq:s.lf[q]? =some lq) (h0:0<lq) {z:Int} (h:tgt s.lf (rs ps N q s).E=some z):∃(t:Nat) (lt:Int) (L:List Stp),z=t∧Tgt ps N q s t lq lt L:=by
 obtain ⟨h1,h2⟩:=find_tgt h
 have ho:=rs_ok1 (s:=s) hP hq
 obtain ⟨t,rfl,ht⟩:=ho.inn z h1
 rw [Int.toNat_natCast] at h2
 obtain ⟨lt,hlt⟩:∃lt,s.lf[t]? =some lt:=⟨_,List.getElem?_eq_getElem (by rw [hI.lf]; exact ht)⟩
 rw [hlt,Option.getD_some] at h2
 have hm:=idx_at h1
 have hlen:=ho.le
 have hml:=(List.getElem?_eq_some_iff.1 hm).1
 obtain ⟨L,p1,p2,p3,p4⟩:=(rs_tree (s:=s) hP hq).path ((rs ps N q s).E.idxOf (t:Int)) t h1 (Nat.le_refl _)
 refine ⟨t,lt,L,rfl,ht,?_,hlq,hlt,h2,p1,by omega,p3,fun e he=> ?_,p1.eq (by omega)⟩
 ·rintro rfl
  rw [hlq] at hlt
  have:=Option.some.inj hlt
  omega
 ·have g:=p4 e he
  exact ⟨g.pip,g.room_,g.lt,by have:=g.le; omega,g.m1,g.m2⟩
def amtS (ps:List Pipe) (s:Rst) (lq lt:Int) (L:List Stp):Int:=minA ps s.fl (if -lt<lq then -lt else lq) L
theorem Tgt.send {t:Nat} {lq lt:Int} {L:List Stp} (h:Tgt ps N q s t lq lt L):sendZ ps N q s t=⟨addA ps (amtS ps s lq lt L) s.fl L,(s.lf.set q (lq-amtS ps s lq lt L)).set t (lt+amtS ps s lq lt L)⟩:=by
 have e:=h.eq
 unfold rs at e
 have e1:zAt s.lf q=lq:=by unfold zAt; rw [h.fq]; rfl
 have e2:zAt s.lf t=lt:=by unfold zAt; rw [h.ft]; rfl
 unfold sendZ amtS
 simp only [Int.toNat_natCast,e,e1,e2]
theorem Tgt.amt {t:Nat} {lq lt:Int} {L:List Stp} (h:Tgt ps N q s t lq lt L) (h0:0<lq):0<amtS ps s lq lt L∧amtS ps s lq lt L≤lq∧amtS ps s lq lt L≤ -lt:=by
 have hn:=h.neg
 have h1:0<amtS ps s lq lt L:=by
  refine minA_pos (by split <;> omega) (fun e he=> ?_)
  have:=(h.good e he).room_
  simpa [hasRm] using this
 have h2:amtS ps s lq lt L≤(if -lt<lq then -lt else lq):=minA_le.1
 refine ⟨h1,?_,?_⟩ <;> split at h2 <;> omega
theorem Good.at {room:Nat→Int→Bool} {E:List Int} {m:Nat} {e:Stp} (h:Good ps room E m e):∃p,ps[e.pipe]? =some p∧(p.src=e.to∨p.dst=e.to)∧othE p e.to=e.up:=h.pip
theorem Tgt.fl_bd {t:Nat} {lq lt:Int} {L:List Stp} (h:Tgt ps N q s t lq lt L) (hI:RInv ps N s) (h0:0<lq):∀(k:Nat) (p:Pipe) (f:Int),ps[k]? =some p→(addA ps (amtS ps s lq lt L) s.fl L)[k]? =some f→ -p.limit≤f∧f≤p.limit:=by
 intro k p f hp hf
 by_cases hk:k∈L.map Stp.pipe
 ·obtain ⟨e,he,rfl⟩:=List.mem_map.1 hk
  obtain ⟨f0,hf0⟩:∃f0,s.fl[e.pipe]? =some f0:=⟨_,List.getElem?_eq_getElem (by rw [hI.fl]; exact (List.getElem?_eq_some_iff.1 hp).1)⟩
  rw [addA_at h.nod he hf0] at hf
  have hf:=Option.some.inj hf
  have hb:=hI.bd _ p f0 hp hf0
  have ha:=h.amt h0
  have hm:amtS ps s lq lt L≤roomZ ps s.fl e.pipe e.up:=minA_le.2 e he
  rw [roomZ_at hp hf0] at hm
  unfold turnS at hf
  rw [hp] at hf
  simp only at hf
  split at hm
  ·rename_i h1; rw [if_pos h1] at hf; omega
  ·rename_i h1; rw [if_neg h1] at hf; omega
 ·rw [addA_far hk] at hf
  exact hI.bd k p f hp hf
theorem Tgt.keeps {t:Nat} {lq lt:Int} {L:List Stp} (h:Tgt ps N q s t lq lt L) (hI:RInv ps N s) (h0:0<lq):RInv ps N (sendZ ps N q s t)∧posS (sendZ ps N q s t).lf<posS s.lf:=by
 have ha:=h.amt h0
 have hq1:=hI.lb lq (List.mem_of_getElem? h.fq)
 have ht1:=hI.lb lt (List.mem_of_getElem? h.ft)
 have hn:=h.neg
 rw [h.send]
 refine ⟨⟨by simp only; rw [addA_len,hI.fl],by simp [hI.lf],h.fl_bd hI h0,fun z hz=> ?_⟩,?_⟩
 ·rcases List.mem_or_eq_of_mem_set hz with hz | rfl
  ·rcases List.mem_or_eq_of_mem_set hz with hz | rfl
   ·exact hI.lb z hz
   ·omega
  ·omega
 ·simp only
  rw [posS_set (x:=lt) _ (by rw [List.getElem?_set_ne (Ne.symm h.ne)]; exact h.ft),posS_set (x:=lq) _ h.fq]
  simp only [pos0]
  split <;> split <;> split <;> split <;> omega
theorem oneS_of {s':Rst} (h:oneS ps N s=some s') (hI:RInv ps N s) (hP:PipesN N ps):∃(q t:Nat) (lq lt:Int) (L:List Stp),q<N∧0<lq∧Tgt ps N q s t lq lt L∧s'=sendZ ps N q s t:=by
 obtain ⟨q,hq,h1⟩:=List.exists_of_findSome?_eq_some h
 have hqN:q<N:=by simpa using hq
 split at h1
 ·rename_i h0
  obtain ⟨lq,hlq⟩:∃lq,s.lf[q]? =some lq:=⟨_,List.getElem?_eq_getElem (by rw [hI.lf]; exact hqN)⟩
  have e:zAt s.lf q=lq:=by unfold zAt; rw [hlq]; rfl
  rw [e] at h0
  unfold sendN at h1
  cases ht:tgt s.lf (srch ps (hasRm ps s.fl) N 0 q).E with
  | none=>rw [ht] at h1; cases h1
  | some z=>
   rw [ht] at h1
   obtain ⟨t,lt,L,rfl,hT⟩:=tgt_of hI hP hqN hlq h0 (show tgt s.lf (rs ps N q s).E=some z from ht)
   exact ⟨q,t,lq,lt,L,hqN,h0,hT,(Option.some.inj h1).symm⟩
 ·cases h1
theorem oneS_keeps {s':Rst} (h:oneS ps N s=some s') (hI:RInv ps N s) (hP:PipesN N ps):RInv ps N s'∧posS s'.lf<posS s.lf:=by
 obtain ⟨q,t,lq,lt,L,_,h0,hT,rfl⟩:=oneS_of h hI hP
 exact hT.keeps hI h0
theorem Route.ex (hP:PipesN N ps):∀(m:Nat) {s:Rst},RInv ps N s→posS s.lf<m→∃t,Route ps N s t
 | 0,s,_,hm=>by have:=posS_nn s.lf; omega
 | m+1,s,hI,hm=>by
  cases h:oneS ps N s with
  | none=>exact ⟨s,.done h⟩
  | some s'=>
   obtain ⟨h1,h2⟩:=oneS_keeps h hI hP
   obtain ⟨t,ht⟩:=Route.ex hP m h1 (by omega)
   exact ⟨t,.step h ht⟩
theorem Route.inv {t:Rst} (h:Route ps N s t) (hI:RInv ps N s) (hP:PipesN N ps):RInv ps N t∧oneS ps N t=none:=by
 induction h with
 | done h=>exact ⟨hI,h⟩
 | step h _ ih=>exact ih (oneS_keeps h hI hP).1
end
def rst0 (ps:List Pipe) (sup:List Int):Rst:=⟨List.replicate ps.length 0,sup⟩
theorem rst0_inv {ps:List Pipe} {N:Nat} {sup:List Int} (hP:PipesN N ps) (hl:sup.length=N) (hb:∀z∈sup,-30000≤z∧z≤30000):RInv ps N (rst0 ps sup):=by
 refine ⟨by simp [rst0],hl,fun k p f hp hf=> ?_,hb⟩
 have h1:=hP.lim p (List.mem_of_getElem? hp)
 have:=List.eq_of_mem_replicate (List.mem_of_getElem? hf)
 omega
open Classical in
noncomputable def routed (ps:List Pipe) (N:Nat) (sup:List Int):Rst:=if h:∃t,Route ps N (rst0 ps sup) t then Classical.choose h else rst0 ps sup
theorem routed_eq {ps:List Pipe} {N:Nat} {sup:List Int} {t:Rst} (h:Route ps N (rst0 ps sup) t):routed ps N sup=t:=by
 unfold routed
 rw [dif_pos ⟨t,h⟩]
 exact (Classical.choose_spec (p:=fun t=>Route ps N (rst0 ps sup) t) ⟨t,h⟩).uniq h
theorem routed_route {ps:List Pipe} {N:Nat} {sup:List Int} (hP:PipesN N ps) (hl:sup.length=N) (hb:∀z∈sup,-30000≤z∧z≤30000):Route ps N (rst0 ps sup) (routed ps N sup):=by
 obtain ⟨t,ht⟩:=Route.ex hP (posS sup+1).toNat (rst0_inv hP hl hb) (by have:=posS_nn sup; simp only [rst0]; omega)
 rw [routed_eq ht]; exact ht
end Go.Proofs.YtfkpghdmljjegaaGreat
