/-
  append onto an empty slice that was just made: nothing that was there turns.
-/
import Derived.Test.YtinindjjapblcaaGreatDoorWa01
import Derived.Test.YtinindjjapblcaaGreatDoorWa03
import Derived.Test.YtinindjjapblcaaGreatDoorWa02
namespace Go.Proofs.YtinindjjapblcaaGreatDoor
open Go.RowKit
section
variable {P:Program}
theorem run_append_zero (w:World) (t ty e:TypeId) (i:TypeInfo) (ht:P.underlying t=some (.slice e)) (hi:P.info? e=some i) (g:Nat) (A:Option Addr) (c:Nat):
  (Builtin.append_ #[t,t] ty #[.slice (some ⟨g,0,none⟩) 0 0,.slice A 0 c]).run P w= .ok (.slice (some ⟨g,0,none⟩) 0 0) w:=by
 cases A <;> simp [Builtin.append_,run_underlying ht,sizeOf,typeInfo,hi,Builtin.lenOf,Builtin.firstCells,storeCells,loadCells,loadCellsFrom]
theorem wpList_append_fresh {α:Type} {ops:Array Oper} {rest:List Oper} {o:Oper} {a:Act} {Q:Exit→Act→World→Prop} {w:World} (hgd:o.guard=none) (s x:Operand) (t:TypeId)
  (ho:o.op= .call {callee:= .builtin .append,args:= #[s,x],argTypes:= #[t,t]}) (base:Nat) (e:TypeId) (z:Value) (size bytes:Nat) (ht:P.underlying t=some (.slice e))
  (hi:(P.info? e).map (fun i=>(i.zero,i.size,i.bytes))=some (some z,size,bytes)) (hzs:z.cells.size=size) (hsz:0<size) (f:α→List Value) (hf:∀y,(f y).length=size) (_:∀y,∀u∈f y,u.oneCell'=true)
  (g:Nat) (hs:a.eval s= .slice (some ⟨g,0,none⟩) 0 0) (hr:Row w g e []) (hbg:base≤g) (A:Option Addr) (m c:Nat) (ys:List α) (hx:a.eval x= .slice A m c) (hsrc:SliceOf w size f A m c ys)
  (hlen:m≤1000000000) (hb:bytes≤10000) (hbase:base≤w.heap.size)
  (h:∀v' w',OwnL w' base e size f v' ys→Ext w w'→wpList P ops Q rest (a.put o.dst v') w'):wpList P ops Q (o::rest) a w:=by
 have hown:OwnL w base e size f (.slice (some ⟨g,0,none⟩) 0 0) []:=⟨by simp,.inr ⟨g,0,#[],rfl,hbg,hr,by simp,by simp,by simp,by simp⟩⟩
 by_cases hm:m=0
 ·subst hm
  have hys:ys=[]:=List.eq_nil_of_length_eq_zero hsrc.1.symm
  subst hys
  obtain ⟨i,hi1,_⟩:=info_parts hi
  exact Lib.wpList_append_run w hgd s x t t ho _ (.slice A 0 c) hs hx _ w (run_append_zero w t o.type e i ht hi1 g A c) (h _ w hown (Ext.refl _))
 ·obtain ⟨i,hi1,hi2,hi3,hi4⟩:=info_parts hi
  obtain ⟨hm1,hc1,hc2,hc3⟩:=hsrc
  obtain ⟨b,off,rfl,hbl,hc⟩:=hc3 (by omega)
  have hnews:∀j u,(ys.flatMap f)[j]? =some u→w.cell? ((⟨b,off,none⟩:Addr).add j)=some u:=by
   intro j u hu
   have hj:j<(ys.flatMap f).length:=(List.getElem?_eq_some_iff.1 hu).1
   rw [flat_len hf] at hj
   have hadd:(Addr.add ⟨b,off,none⟩ j)=⟨b,off+j,none⟩:=by unfold Addr.add; split <;> simp_all
   rw [hadd]
   have hq:j/size<ys.length:=by
    apply Nat.div_lt_of_lt_mul; rw [Nat.mul_comm]; exact hj
   have hy:ys[j/size]? =some ys[j/size]:=List.getElem?_eq_getElem hq
   have hr:j % size<(f ys[j/size]).length:=by rw [hf]; exact Nat.mod_lt _ hsz
   have hu':(f ys[j/size])[j % size]? =some ((f ys[j/size])[j % size]):=List.getElem?_eq_getElem hr
   have hfl:=flat_get hf hy hu'
   have hjj:j/size*size+j % size=j:=by rw [Nat.mul_comm]; exact Nat.div_add_mod j size
   rw [hjj] at hfl
   rw [hfl] at hu
   injection hu with hu
   rw [←hu]
   have:=hc _ _ hy _ _ hu'
   rw [Nat.add_assoc,hjj] at this
   exact this
  have hl:(ys.flatMap f).length=m*i.size:=by rw [flat_len hf,hm1,hi3]
  have hmm:m*i.bytes≤1000000000*10000:=Nat.mul_le_mul hlen (by rw [hi4]; exact hb)
  have hge:=grownCap_ge w m 0 e
  have hcm:=grownCap_le_maxLen w m 0 e (by simp only [maxLen]; omega)
  have hr:=run_append_grow (P:=P) w t o.type e i z ht hi1 hi2 ⟨g,0,none⟩ 0 0 [] (by simp) (by intro j u hu; simp at hu) ⟨b,off,none⟩ m c (ys.flatMap f) hl hnews (by omega) (by omega) (growslice_fits (by omega) (by rw [Nat.zero_add]; omega))
  simp only [Nat.zero_add] at hr
  refine Lib.wpList_append_run w hgd s x t t ho _ (.slice (some ⟨b,off,none⟩) m c) hs hx _ _ hr (h _ _ ⟨by rw [hl,hi3,hm1],.inr ⟨w.heap.size,_,_,by rw [←hm1],hbase,heap_alloc_new w.drew _,by omega,hcm,?_,?_⟩⟩ ((Ext.refl w).drew.and_alloc _))
  ·simp only [Array.size_append,List.size_toArray,size_zeroCells,hzs,hl,hi3,List.length_nil,Nat.zero_add, ←Nat.add_mul]
   congr 1
   omega
  ·simp only [Array.toList_append,List.nil_append]
   rw [←hm1, ←hi3, ←hl]
   exact List.take_left
theorem src_cells {α:Type} {w:World} {size:Nat} {f:α→List Value} {b off m c:Nat} {ys:List α} (hf:∀y,(f y).length=size) (hsz:0<size) (hsrc:SliceOf w size f (some ⟨b,off,none⟩) m c ys):
  ∀j u,(ys.flatMap f)[j]? =some u→w.cell? ((⟨b,off,none⟩:Addr).add j)=some u:=by
 intro j u hu
 have hj:j<(ys.flatMap f).length:=(List.getElem?_eq_some_iff.1 hu).1
 rw [flat_len hf] at hj
 have hadd:(Addr.add ⟨b,off,none⟩ j)=⟨b,off+j,none⟩:=by unfold Addr.add; split <;> simp_all
 rw [hadd]
 have hq:j/size<ys.length:=by
  apply Nat.div_lt_of_lt_mul; rw [Nat.mul_comm]; exact hj
 have hy:ys[j/size]? =some ys[j/size]:=List.getElem?_eq_getElem hq
 have hr:j % size<(f ys[j/size]).length:=by rw [hf]; exact Nat.mod_lt _ hsz
 have hu':(f ys[j/size])[j % size]? =some ((f ys[j/size])[j % size]):=List.getElem?_eq_getElem hr
 have hfl:=flat_get hf hy hu'
 have hjj:j/size*size+j % size=j:=by rw [Nat.mul_comm]; exact Nat.div_add_mod j size
 rw [hjj] at hfl
 rw [hfl] at hu
 injection hu with hu
 rw [←hu]
 obtain ⟨x,hx,hc⟩:=hsrc.at_ (k:=j/size) (by rw [hsrc.1]; exact hq)
 rw [hy] at hx
 injection hx with hx
 subst hx
 have:=hc _ _ hu'
 rw [Nat.add_assoc,hjj] at this
 exact this
theorem run_append_where (w:World) (base:Nat) (t ty e:TypeId) (i:TypeInfo) (z:Value) (ht:P.underlying t=some (.slice e)) (hi:P.info? e=some i) (hz:i.zero=some z)
  (v:Value) (n:Nat) (xs:List Value) (hown:w.ownsRow base e i.size v n xs) (a:Addr) (m c:Nat) (news:List Value) (hl:news.length=m*i.size) (hnews:∀j u,news[j]? =some u→w.cell? (a.add j)=some u) (h1:∀u∈news,u.oneCell'=true)
  (h63:n+m≤maxLen) (hbytes:(n+m)*i.bytes≤140737488355328) (v':Value) (w':World) (h:(Builtin.append_ #[t,t] ty #[v,.slice (some a) m c]).run P w= .ok v' w'):
  ∀k,v'.ownBlock=some k→v.ownBlock=some k∨w.heap.size≤k:=by
 have hsmall:n+m≤9223372036854775807:=by simp only [maxLen] at h63; omega
 intro k hk
 rcases hown.2 with ⟨rfl,rfl⟩ | ⟨g,cap,cur,rfl,hbg,hg,hnc,hcm,hcs,htake⟩
 ·by_cases hm:m=0
  ·subst hm
   have hr:(Builtin.append_ #[t,t] ty #[.slice none 0 0,.slice (some a) 0 c]).run P w= .ok (.slice none 0 0) w:=by
    simp [Builtin.append_,run_underlying ht,sizeOf,typeInfo,hi,Builtin.lenOf,Builtin.firstCells,loadCells,loadCellsFrom]
   rw [hr] at h
   injection h with h _
   subst h
   cases hk
  ·have hr:=run_append_nil (P:=P) w t ty e i z ht hi hz a m c news hl hnews (by omega) (by omega) (by have hb:=hbytes; simp only [Nat.zero_add] at hb; omega)
   rw [hr] at h
   injection h with h _
   subst h
   simp [Value.ownBlock] at hk
   right; omega
 ·by_cases hroom:n+m≤cap
  ·have hfit:n*i.size+news.length≤cur.size:=by rw [hl,hcs, ←Nat.add_mul]; exact Nat.mul_le_mul_right _ hroom
   have hr:=run_append_room (P:=P) w t ty e i ht hi g n cap cur hg a m c news hl hnews h1 hroom hfit
   rw [hr] at h
   injection h with h _
   subst h
   left; exact hk
  ·have holds:∀j u,xs[j]? =some u→w.cell? ((⟨g,0,none⟩:Addr).add j)=some u:=hown.cells (g:=g) rfl
   have hr:=run_append_grow (P:=P) w t ty e i z ht hi hz ⟨g,0,none⟩ n cap xs hown.1 holds a m c news hl hnews (by omega) (by omega) (growslice_fits (by omega) hbytes)
   rw [hr] at h
   injection h with h _
   subst h
   simp [Value.ownBlock] at hk
   right; omega
theorem wpList_append_where {α:Type} {ops:Array Oper} {rest:List Oper} {o:Oper} {a:Act} {Q:Exit→Act→World→Prop} {w:World} (hgd:o.guard=none) (s x:Operand) (t:TypeId)
  (ho:o.op= .call {callee:= .builtin .append,args:= #[s,x],argTypes:= #[t,t]}) (base:Nat) (e:TypeId) (z:Value) (size bytes:Nat) (ht:P.underlying t=some (.slice e))
  (hi:(P.info? e).map (fun i=>(i.zero,i.size,i.bytes))=some (some z,size,bytes)) (hzs:z.cells.size=size) (hsz:0<size) (f:α→List Value) (hf:∀y,(f y).length=size) (h1:∀y,∀u∈f y,u.oneCell'=true)
  (v:Value) (L:List α) (hs:a.eval s=v) (hown:OwnL w base e size f v L) (b off m c:Nat) (ys:List α) (hx:a.eval x= .slice (some ⟨b,off,none⟩) m c) (hsrc:SliceOf w size f (some ⟨b,off,none⟩) m c ys)
  (hlen:L.length+m≤1000000000) (hb:bytes≤10000) (hbase:base≤w.heap.size)
  (h:∀v' w',OwnL w' base e size f v' (L++ys)→w.grownBy w' v.ownBlock→(∀k,v'.ownBlock=some k→v.ownBlock=some k∨w.heap.size≤k)→wpList P ops Q rest (a.put o.dst v') w'):wpList P ops Q (o::rest) a w:=by
 obtain ⟨i,hi1,hi2,hi3,hi4⟩:=info_parts hi
 have hnews:=src_cells hf hsz hsrc
 have hl:(ys.flatMap f).length=m*size:=by rw [flat_len hf,hsrc.1]
 have hone:∀u∈ys.flatMap f,u.oneCell'=true:=fun u hu=>by
  obtain ⟨y,_,hy⟩:=List.mem_flatMap.1 hu
  exact h1 y u hy
 have hby:(L.length+m)*bytes≤140737488355328:=by
  have:(L.length+m)*bytes≤1000000000*10000:=Nat.mul_le_mul hlen hb
  omega
 have h63:L.length+m≤maxLen:=by simp only [maxLen]; omega
 obtain ⟨v',w',hr,h2,h3,_⟩:=run_append_own (P:=P) w base t o.type e i z size bytes ht hi1 hi2 hi3 hi4 hzs hsz v L.length (L.flatMap f) hown ⟨b,off,none⟩ m c (ys.flatMap f) hl hnews hone h63 hby hbase
 refine Lib.wpList_append_run w hgd s x t t ho v (.slice (some ⟨b,off,none⟩) m c) hs hx v' w' hr (h v' w' ?_ h3 (run_append_where w base t o.type e i z ht hi1 hi2 v L.length (L.flatMap f) (by rw [hi3]; exact hown) ⟨b,off,none⟩ m c (ys.flatMap f) (by rw [hi3]; exact hl) hnews hone h63 (by rw [hi4]; exact hby) v' w' hr))
 unfold OwnL
 rw [List.length_append,List.flatMap_append, ←hsrc.1]
 exact h2
end
end Go.Proofs.YtinindjjapblcaaGreatDoor
namespace Go.Proofs.YtinindjjapblcaaGreatDoor
open Go.RowKit
theorem own_new {α:Type} (W:World) (base:Nat) (t:TypeId) (size:Nat) (f:α→List Value) (g:Nat) (hg:g=W.heap.size) (hb:base≤g):OwnL (W.alloc (.cells #[] t)) base t size f (.slice (some ⟨g,0,none⟩) 0 0) []:=by
 subst hg; exact OwnL.empty W base t size f hb
end Go.Proofs.YtinindjjapblcaaGreatDoor
namespace Go.Proofs.YtinindjjapblcaaGreatDoor
open Go.RowKit
theorem int_one' (y:Int):∀u∈intC y,u.oneCell'=true:=by intro u hu; simp [intC] at hu; subst hu; rfl
def EndsIn (N:Nat) (ps:List Pipe):Prop:=∀p∈ps,0≤p.src∧p.src<N∧0≤p.dst∧p.dst<N
theorem netB_facts {ns:List Node} {ps:List Pipe} (h:netB ns ps=true):EndsIn ns.length ps∧1≤ns.length∧ns.length≤24∧ps.length≤40:=by
 simp only [netB,Bool.and_eq_true,decide_eq_true_eq] at h
 obtain ⟨⟨⟨⟨h1,h2⟩,h3⟩,-⟩,h5⟩:=h
 refine ⟨fun p hp=> ?_,h1,h2,h3⟩
 have:=List.all_eq_true.1 h5 p hp
 simp only [pipeB,Bool.and_eq_true,inB_true] at this
 omega
def AtB (ps:List Pipe) (x:Int) (E:List Int):Prop:=∀z∈E,∃(k:Nat) (p:Pipe),z=k∧ps[k]? =some p∧(p.src=x∨p.dst=x)
theorem AtB.nil {ps:List Pipe} {x:Int}:AtB ps x []:=fun z hz=>by cases hz
theorem AtB.snoc {ps:List Pipe} {x:Int} {E:List Int} (h:AtB ps x E) {k:Nat} {p:Pipe} (hk:ps[k]? =some p) (hp:p.src=x∨p.dst=x):AtB ps x (E++[(k:Int)]):=by
 intro z hz
 rcases List.mem_append.1 hz with hz | hz
 ·exact h z hz
 ·obtain rfl:=List.mem_singleton.1 hz; exact ⟨k,p,rfl,hk,hp⟩
def RetI (Q:List Int→Prop) (w:World) (e:Ending) (w':World):Prop:=
 ∃v E,e= .returned v∧OwnL w' w.heap.size 2 1 intC v E∧Hid (Q E)∧Ext w w'
theorem OwnL.lowG {α:Type} {w:World} {base base':Nat} {e:TypeId} {size:Nat} {f:α→List Value} {v:Value} {L:List α} (h:OwnL w base e size f v L) (hb:base'≤base):OwnL w base' e size f v L:=by
 obtain ⟨h1,h2⟩:=h
 refine ⟨h1,?_⟩
 rcases h2 with h2 | ⟨k,cap,cur,hv,hb',r⟩
 ·exact .inl h2
 ·exact .inr ⟨k,cap,cur,hv,by omega,r⟩
def RetB (w:World) (e:Ending) (w':World):Prop:=∃b:Bool,e= .returned (.bool b)∧Ext w w'
def RetN (N:Nat) (w:World) (e:Ending) (w':World):Prop:=∃y:Nat,e= .returned (.int .i64 (y:Int))∧y<N∧Ext w w'
set_option maxHeartbeats 1000000 in
theorem c_l02At (A1 A2:Option Addr) (n1 c1 n2 c2:Nat) (ps:List Pipe) (w:World) (hs2:SliceOf w 5 Pipe.cells A2 n2 c2 ps) (x:Int) (m2:n2≤1048576):
  Calls Tryz.prog 227 #[.agg #[.slice A1 n1 c1,.slice A2 n2 c2],.int .i64 x] w (RetI (fun E=>AtB ps x E∧E.length≤n2) w):=by
 have hB:=Row.new w 27 [.slice A1 n1 c1,.slice A2 n2 c2]
 have hx0:Ext w (w.alloc (.cells #[.slice A1 n1 c1,.slice A2 n2 c2] 27)):=Ext.alloc _ _
 go_enter Tryz.func227,Tryz.ntmps227
 go_wp2_with fail
 go_loopw [5,6] (fun v i wr=>∃(k:Nat) (E:List Int),k≤n2∧i= .int .i64 k∧E.length≤k∧Hid (AtB ps x E)∧OwnL wr (w.heap.size+1) 2 1 intC v E∧Ext (w.alloc (.cells #[.slice A1 n1 c1,.slice A2 n2 c2] 27)) wr) (fun _ i _=>n2-(intOf i).toNat)
 case atStart=>exact ⟨0,[],Nat.zero_le _,rfl,by simp,hide AtB.nil,own_new (w.alloc (.cells #[.slice A1 n1 c1,.slice A2 n2 c2] 27)) (w.heap.size+1) _ _ _ _ (by simp) (by omega),Ext.alloc _ _⟩
 case round=>
  obtain ⟨k,E,hk,rfl,hE,HE,hown,hx⟩:=hrel
  have hxz:=hx.size
  have hbl:=(hB.ext hx).lt
  have hb1:=(hB.ext hx).cell 1
  simp at hb1 hxz
  by_cases hlt:k<n2
  ·obtain ⟨b,off,p,rfl,hb,hxk,hc⟩:=(hs2.ext (hx0.trans hx)).get hlt
   have HK:=hide hxk
   clear hxk
   have hc0:=hc 0 _ rfl
   have hc1:=hc 1 _ rfl
   clear hc
   simp only [Nat.add_zero] at hc0
   cases e0:(p.src==x)
   ·cases e1:(p.dst==x)
    ·go_wp2_with fail
     go_roundw
     case rel=>exact ⟨k+1,E,by omega,by go_num,by omega,HE,hown,hx⟩
     case measure=>simp [intOf]; omega
    ·have HN:=hide (AtB.snoc HE.out HK.out (.inr (by simpa using e1)))
     go_wp2_with (at_builtin; go_must (refine wpList_append_one rfl _ _ 137 rfl (w.heap.size+1) 2 _ 1 8 Tryz.underlying137 int_info rfl (by decide) intC intC_len int_one' _ _ rfl (hown.ext (Ext.alloc _ _)) _ (k:Int) rfl _ rfl (by first | rfl | simp) (by omega) (by omega) (by omega) ?_))
     intro v1 w4 hown4 hext4
     have hx4:=hext4 _ (by simp) (hx.and_alloc _)
     go_wp2_with fail
     go_roundw
     case rel=>exact ⟨k+1,_,by omega,by go_num,by simp; omega,HN,hown4,hx4⟩
     case measure=>simp [intOf]; omega
   ·have HN:=hide (AtB.snoc HE.out HK.out (.inl (by simpa using e0)))
    go_wp2_with (at_builtin; go_must (refine wpList_append_one rfl _ _ 137 rfl (w.heap.size+1) 2 _ 1 8 Tryz.underlying137 int_info rfl (by decide) intC intC_len int_one' _ _ rfl (hown.ext (Ext.alloc _ _)) _ (k:Int) rfl _ rfl (by first | rfl | simp) (by omega) (by omega) (by omega) ?_))
    intro v1 w4 hown4 hext4
    have hx4:=hext4 _ (by simp) (hx.and_alloc _)
    go_wp2_with fail
    go_roundw
    case rel=>exact ⟨k+1,_,by omega,by go_num,by simp; omega,HN,hown4,hx4⟩
    case measure=>simp [intOf]; omega
  ·obtain rfl:n2=k:=by omega
   go_wp2_with fail
   go_ret
   exact ⟨_,E,rfl,hown.lowG (by omega),hide ⟨HE.out,hE⟩,hx0.trans hx⟩
set_option maxHeartbeats 1000000 in
theorem c_l02Other (A1 A2:Option Addr) (n1 c1 n2 c2:Nat) (ps:List Pipe) (w:World) (hs2:SliceOf w 5 Pipe.cells A2 n2 c2 ps) (N:Nat) (hN:N≤1048576) (he:EndsIn N ps) (k:Nat) (p:Pipe) (hk:ps[k]? =some p) (x:Int) (hx:p.src=x∨p.dst=x):
  Calls Tryz.prog 228 #[.agg #[.slice A1 n1 c1,.slice A2 n2 c2],.int .i64 k,.int .i64 x] w (RetN N w):=by
 obtain ⟨W,HW⟩:∃W,Hid ((w.alloc (.cells #[.slice A1 n1 c1,.slice A2 n2 c2] 27))=W):=⟨_,hide rfl⟩
 have hB:Row W w.heap.size 27 [.slice A1 n1 c1,.slice A2 n2 c2]:=by rw [←HW.out]; exact Row.new w 27 [.slice A1 n1 c1,.slice A2 n2 c2]
 have hx0:Ext w W:=by rw [←HW.out]; exact Ext.alloc _ _
 have hkl:k<n2:=by rw [hs2.len]; exact (List.getElem?_eq_some_iff.1 hk).1
 obtain ⟨b,off,p',rfl,hb,hk',hc⟩:=(hs2.ext hx0).get hkl
 have hb1:=hB.cell 1
 simp at hb1
 have hbl:=hB.lt
 obtain rfl:p'=p:=by rw [hk] at hk'; exact (Option.some.inj hk').symm
 have hc0:=hc 0 _ rfl
 have hc1:=hc 1 _ rfl
 clear hc hk'
 simp only [Nat.add_zero] at hc0
 obtain ⟨h1,h2,h3,h4⟩:=he _ (List.mem_of_getElem? hk)
 clear hk
 have e1:IntKind.i64.wrap (p'.src+p'.dst)=p'.src+p'.dst:=IntWalk.i64_in _ (by omega)
 have e2:IntKind.i64.wrap (p'.src+p'.dst-x)=p'.src+p'.dst-x:=IntWalk.i64_in _ (by rcases hx with h | h <;> omega)
 have HX:=hide hx
 clear hx
 go_enter Tryz.func228,Tryz.ntmps228
 go_wp2_with fail
 rw [HW.out]
 refine wp_region_later (by kernel_rfl) (by kernel_rfl) ?_
 repeat (go_big_quiet_step (fail))
 refine wpQuiet_nil ?_
 intro w1 hx1
 go_wp2_with fail
 go_ret
 refine ⟨(p'.src+p'.dst-x).toNat,?_,by rcases HX.out with h | h <;> omega,hx0.trans hx1⟩
 rw [Int.toNat_of_nonneg (by rcases HX.out with h | h <;> omega)]; rfl
set_option maxHeartbeats 1000000 in
theorem c_l02Has (A:Option Addr) (n c:Nat) (L:List Int) (x:Int) (w:World) (hL:SliceOf w 1 intC A n c L) (hn:n≤1048576):
  Calls Tryz.prog 205 #[.slice A n c,.int .i64 x] w (RetB w):=by
 go_enter Tryz.func205,Tryz.ntmps205
 go_wp2_with fail
 go_loop [5] (fun i=>∃k:Nat,k≤n∧i= .int .i64 k) (fun i=>n-(intOf i).toNat)
 case atStart=>exact ⟨0,Nat.zero_le _,rfl⟩
 case round=>
  obtain ⟨k,hk,rfl⟩:=hrel
  by_cases hlt:k<n
  ·obtain ⟨b,off,z,rfl,hb,hxk,hc⟩:=hL.get hlt
   have hc0:=hc 0 _ rfl
   clear hc hxk
   simp only [Nat.add_zero,Nat.mul_one] at hc0
   cases e0:(z==x)
   ·go_wp2_with fail
    go_round
    case rel=>exact ⟨k+1,by omega,by go_num⟩
    case measure=>simp [intOf]; omega
   ·go_wp2_with fail
    go_ret
    exact ⟨true,rfl,Ext.refl _⟩
  ·obtain rfl:n=k:=by omega
   go_wp2_with fail
   go_ret
   exact ⟨false,rfl,Ext.refl _⟩
end Go.Proofs.YtinindjjapblcaaGreatDoor
namespace Go.Proofs.YtinindjjapblcaaGreatDoor
open Go.RowKit
theorem Row.newG {W:World} {g:Nat} (t:TypeId) (cs:List Value) (hg:g=W.heap.size):Row (W.alloc (.cells cs.toArray t)) g t cs:=by subst hg; exact Row.new W t cs
def boolC (b:Bool):List Value:=[.bool b]
theorem boolC_len (b:Bool):(boolC b).length=1:=rfl
theorem bool_info:(Tryz.prog.info? 4).map (fun i=>(i.zero,i.size,i.bytes))=some (some (.bool false),1,1):=by kernel_rfl
theorem OwnL.of_row {α:Type} {w:World} {base g:Nat} {t:TypeId} {size:Nat} {f:α→List Value} {xs:List α} (h:RowOf w g t f xs) (hf:∀x,(f x).length=size) (hb:base≤g) (hm:xs.length≤1048576):OwnL w base t size f (.slice (some ⟨g,0,none⟩) xs.length xs.length) xs:=by
 have hl:=flat_len (xs:=xs) hf
 refine ⟨hl,.inr ⟨g,xs.length,_,rfl,hb,h,Nat.le_refl _,by simp [maxLen]; omega,by simp [hl],?_⟩⟩
 rw [List.toList_toArray,List.take_of_length_le (by rw [hl]; exact Nat.le_refl _)]
theorem OwnL.sl {α:Type} {w:World} {base:Nat} {t:TypeId} {size:Nat} {f:α→List Value} {v:Value} {L:List α} (h:OwnL w base t size f v L) (hf:∀x,(f x).length=size) (hs:0<size):∃A c,v= .slice A L.length c∧SliceOf w size f A L.length c L:=by
 obtain ⟨A,c,g,hv,_,hn,hc,ho⟩:=h.own hf hs
 exact ⟨A,c,hv,ho.slice hf hn hc⟩
theorem RowOf.set0 {α:Type} {w:World} {g:Nat} {t:TypeId} {f:α→List Value} {L:List α} (h:RowOf w g t f L) (hf:∀x,∃u,f x=[u]) {d:Nat} (hd:d<L.length) (y:α) (u:Value) (hu:f y=[u]):RowOf (w.setCell ⟨g,d,none⟩ u) g t f (L.set d y):=by
 have hl:∀x,(f x).length=1:=fun x=>by obtain ⟨u,hu⟩:=hf x; rw [hu]; rfl
 have h1:=RowOf.put h hl hd y
 rw [hu,Nat.mul_one] at h1
 exact h1
theorem OwnL.farK {α:Type} {w:World} {base:Nat} {e:TypeId} {size:Nat} {f:α→List Value} {v:Value} {L:List α} (h:OwnL w base e size f v L) {p:Addr} (hp:p.block<base) (u:Value):OwnL (w.setCell p u) base e size f v L:=
 h.only ((Only.refl p.block w).setCell rfl u) hp
def InN (N:Nat) (E:List Int):Prop:=∀z∈E,∃k:Nat,z=k∧k<N
theorem InN.snoc {N:Nat} {E:List Int} (h:InN N E) {k:Nat} (hk:k<N):InN N (E++[(k:Int)]):=by
 intro z hz
 rcases List.mem_append.1 hz with hz | hz
 ·exact h z hz
 ·obtain rfl:=List.mem_singleton.1 hz; exact ⟨k,rfl,hk⟩
def EntB (P:Nat) (en:List Int):Prop:=∀z∈en,-1≤z∧z<P
theorem EntB.set {P:Nat} {en:List Int} (h:EntB P en) (d:Nat) {z:Int} (h1: -1≤z) (h2:z<P):EntB P (en.set d z):=by
 intro y hy
 rcases List.mem_or_eq_of_mem_set hy with hy | rfl
 ·exact h y hy
 ·exact ⟨h1,h2⟩
structure Sch (N P lo:Nat) (w0 wr:World) (gs ge:Nat) (l:List Bool) (en:List Int) (v:Value) (E:List Int):Prop where
 seen:RowOf wr gs 4 boolC l
 ent:RowOf wr ge 2 intC en
 own:OwnL wr lo 2 1 intC v E
 ext:Ext w0 wr
 l0:w0.heap.size≤ge
 l1:ge<gs
 l2:gs<lo
 ll:l.length=N
 el:en.length=N
 cnt:E.length=l.count true
 inn:InN N E
 enb:EntB P en
theorem count_set_true {l:List Bool} {d:Nat} (hd:l[d]? =some false):(l.set d true).count true=l.count true+1:=by
 obtain ⟨h,he⟩:=List.getElem?_eq_some_iff.1 hd
 rw [List.count_set h,he]
 simp
section
variable {N P lo gs ge:Nat} {w0 wr wr':World} {l:List Bool} {en:List Int} {v v':Value} {E:List Int}
theorem Sch.more (h:Sch N P lo w0 wr gs ge l en v E) (hx:Ext wr wr'):Sch N P lo w0 wr' gs ge l en v E:=
 ⟨h.seen.ext hx,h.ent.ext hx,h.own.ext hx,h.ext.trans hx,h.l0,h.l1,h.l2,h.ll,h.el,h.cnt,h.inn,h.enb⟩
theorem Sch.le (h:Sch N P lo w0 wr gs ge l en v E):E.length≤N:=by rw [h.cnt, ←h.ll]; exact List.count_le_length
theorem Sch.add (h:Sch N P lo w0 wr gs ge l en v E) {d:Nat} (hd:l[d]? =some false) (hdN:d<N) {z:Int} (h1: -1≤z) (h2:z<P)
  {W3:World} (hx3:Ext ((wr.setCell ⟨gs,d,none⟩ (.bool true)).setCell ⟨ge,d,none⟩ (.int .i64 z)) W3) (hg:W3.grownBy wr' v.ownBlock)
  (ho:OwnL wr' lo 2 1 intC v' (E++[(d:Int)])):Sch N P lo w0 wr' gs ge (l.set d true) (en.set d z) v' (E++[(d:Int)]):=by
 have hl1:=h.l1
 have hl2:=h.l2
 have hl0:=h.l0
 have hb:=fun k (hk:v.ownBlock=some k)=>h.own.block_le hk
 have s1:=RowOf.set0 h.seen (fun x=>⟨_,rfl⟩) (d:=d) (by rw [h.ll]; exact hdN) true (.bool true) rfl
 have s2:=s1.far (p:=⟨ge,d,none⟩) (by show gs≠ge; omega) (.int .i64 z)
 have e1:=h.ent.far (p:=⟨gs,d,none⟩) (by show ge≠gs; omega) (.bool true)
 have e2:=RowOf.set0 e1 (fun x=>⟨_,rfl⟩) (d:=d) (by rw [h.el]; exact hdN) z (.int .i64 z) rfl
 have hx2:=(h.ext.setCell (p:=⟨gs,d,none⟩) (by show w0.heap.size≤gs; omega) (.bool true)).setCell (p:=⟨ge,d,none⟩) (by show w0.heap.size≤ge; omega) (.int .i64 z)
 refine ⟨?_,?_,ho,(hx2.trans hx3).grown hg (fun k hk=>by have:=hb k hk; have:=hx2.size; omega),hl0,hl1,hl2,by rw [List.length_set]; exact h.ll,by rw [List.length_set]; exact h.el,?_,h.inn.snoc hdN,h.enb.set d h1 h2⟩
 ·have s3:=s2.ext hx3
  exact (hg.block gs s3.lt (fun e=>by have:=hb gs e.symm; omega)).trans s3
 ·have e3:=e2.ext hx3
  exact (hg.block ge e3.lt (fun e=>by have:=hb ge e.symm; omega)).trans e3
 ·rw [List.length_append,h.cnt,count_set_true hd]; rfl
end
def RetSch (N P:Nat) (w:World) (e:Ending) (w':World):Prop:=
 ∃v1 v2 en E,e= .returned (.tuple #[v1,v2])∧OwnL w' w.heap.size 2 1 intC v1 en∧OwnL w' w.heap.size 2 1 intC v2 E∧Hid (en.length=N∧E.length≤N∧EntB P en∧InN N E)∧Ext w w'
theorem InN.at {N:Nat} {E:List Int} (h:InN N E) {k:Nat} {z:Int} (hk:E[k]? =some z):∃j:Nat,z=j∧j<N:=h z (List.mem_of_getElem? hk)
theorem start_ent {en:List Int} {N P:Nat} (hl:en.length=N) (h:∀(j:Nat) (z:Int),j<N→en[j]? =some z→z= -1):EntB P en:=by
 intro z hz
 obtain ⟨j,hj⟩:=List.getElem?_of_mem hz
 have:=h j z (by rw [←hl]; exact (List.getElem?_eq_some_iff.1 hj).1) hj
 omega
theorem step_ent {en:List Int} {k:Nat} (h:∀(j:Nat) (z:Int),j<k→en[j]? =some z→z= -1):∀(j:Nat) (z:Int),j<k+1→(en.set k (-1))[j]? =some z→z= -1:=by
 intro j z hj hz
 rw [List.getElem?_set] at hz
 split at hz
 ·split at hz
  ·exact (Option.some.inj hz).symm
  ·cases hz
 ·exact h j z (by omega) hz
theorem start_seen {N k:Nat} (hk:k<N):((List.replicate N false).set k true).count true=1:=by
 rw [count_set_true (by rw [List.getElem?_replicate,if_pos hk])]
 simp [List.count_replicate]
theorem new_int (W:World) (g:Nat) (y:Int) (hg:g=W.heap.size):SliceOf (W.alloc (.cells #[.int .i64 y] 2)) 1 intC (some ⟨g,0,none⟩) 1 1 [y]:=by
 subst hg
 have h:RowOf (W.alloc (.cells #[.int .i64 y] 2)) W.heap.size 2 intC [y]:=Row.new W 2 [.int .i64 y]
 exact h.slice intC_len rfl (by omega)
theorem OwnL.ltG {α:Type} {w:World} {base:Nat} {e:TypeId} {size:Nat} {f:α→List Value} {v:Value} {L:List α} (h:OwnL w base e size f v L) {k:Nat} (hk:v.ownBlock=some k):base≤k∧k<w.heap.size:=by
 rcases h.2 with ⟨rfl,_⟩ | ⟨g,cap,cur,rfl,hb,hh,_⟩
 ·cases hk
 ·simp [Value.ownBlock] at hk
  subst hk
  refine ⟨hb,?_⟩
  rcases Nat.lt_or_ge g w.heap.size with hlt | hge
  ·exact hlt
  ·rw [Array.getElem?_eq_none hge] at hh; cases hh
theorem OwnL.slE {α:Type} {w:World} {base:Nat} {t:TypeId} {size:Nat} {f:α→List Value} {A:Option Addr} {n c:Nat} {L:List α} (h:OwnL w base t size f (.slice A n c) L) (hf:∀x,(f x).length=size) (hs:0<size):SliceOf w size f A n c L:=by
 obtain ⟨A',c',he,h1⟩:=h.sl hf hs
 cases he
 exact h1
def Apt (v v':Value):Prop:=∀k,v.ownBlock=some k→v'.ownBlock≠some k
set_option maxHeartbeats 4000000 in
theorem c_l04Search (A1 A2:Option Addr) (n1 c1 n2 c2:Nat) (ps:List Pipe) (w:World) (hs2:SliceOf w 5 Pipe.cells A2 n2 c2 ps) (m1:n1≤100000) (m2:n2≤100000) (he:EndsIn n1 ps) (x:Nat) (hxN:x<n1):
  Calls Tryz.prog 218 #[.agg #[.slice A1 n1 c1,.slice A2 n2 c2],.int .i64 x] w (RetSch n1 n2 w):=by
 have hB:=Row.new w 27 [.slice A1 n1 c1,.slice A2 n2 c2]
 have hx0:Ext w (w.alloc (.cells #[.slice A1 n1 c1,.slice A2 n2 c2] 27)):=Ext.alloc _ _
 have hmkI:=fun W=>run_make_flat (P:=Tryz.prog) 137 2 _ _ 1 8 Tryz.underlying137 int_info (f:=intC) 0 rfl rfl rfl (by omega) n1 (by omega) (by omega) W
 have hmkB:=fun W=>run_make_flat (P:=Tryz.prog) 249 4 _ _ 1 1 Tryz.underlying249 bool_info (f:=boolC) false rfl rfl rfl (by omega) n1 (by omega) (by omega) W
 have HE:=hide he
 clear he
 go_enter Tryz.func218,Tryz.ntmps218
 go_wp2_with fail
 go_loopw [8] (fun i wr=>∃(k:Nat) (en:List Int),k≤n1∧i= .int .i64 k∧RowOf wr (w.heap.size+1+1) 4 boolC (List.replicate n1 false)∧RowOf wr (w.heap.size+1) 2 intC en∧en.length=n1∧Hid (∀(j:Nat) (z:Int),j<k→en[j]? =some z→z= -1)∧Ext (w.alloc (.cells #[.slice A1 n1 c1,.slice A2 n2 c2] 27)) wr) (fun i _=>n1-(intOf i).toNat)
 case atStart=>
  refine ⟨0,List.replicate n1 0,Nat.zero_le _,rfl,?_,?_,by simp,hide (fun j z hj=>absurd hj (by omega)),(Ext.alloc _ _).and_alloc _⟩
  ·exact Row.newG _ _ (by simp)
  ·exact (Row.newG _ _ (by simp)).ext (Ext.alloc _ _)
 case round=>
  obtain ⟨k,en,hk,rfl,hS,hEn,hel,HEn,hx⟩:=hrel
  have hzs:=hS.lt
  by_cases hlt:k<n1
  ·obtain ⟨u,hu⟩:=hEn.there intC_len (i:=k) (by omega) (j:=0) (by omega)
   simp only [Nat.mul_one,Nat.add_zero] at hu
   have hf:=hEn.frozen k
   have hle:=hEn.lt
   have hN:=RowOf.set0 hEn (fun x=>⟨_,rfl⟩) (d:=k) (by omega) (-1) (.int .i64 (-1)) rfl
   have hS2:=hS.far (p:=⟨w.heap.size+1,k,none⟩) (by show w.heap.size+1+1≠w.heap.size+1; omega) (.int .i64 (-1))
   have hx2:=hx.setCell (p:=⟨w.heap.size+1,k,none⟩) (by simp) (.int .i64 (-1))
   have HN:=hide (step_ent HEn.out)
   clear hx hS hEn
   go_wp2_with fail
   go_roundw
   case rel=>exact ⟨k+1,_,by omega,by go_num,hS2,hN,by rw [List.length_set]; exact hel,HN,hx2⟩
   case measure=>simp [intOf]; omega
  ·obtain rfl:n1=k:=by omega
   obtain ⟨u,hu⟩:=hS.there boolC_len (i:=x) (by simp; omega) (j:=0) (by omega)
   simp only [Nat.mul_one,Nat.add_zero] at hu
   have hf:=hS.frozen x
   have hS2:=RowOf.set0 hS (fun x=>⟨_,rfl⟩) (d:=x) (by simp; omega) true (.bool true) rfl
   have hE2:=hEn.far (p:=⟨w.heap.size+1+1,x,none⟩) (by show w.heap.size+1≠w.heap.size+1+1; omega) (.bool true)
   have hx2:=hx.setCell (p:=⟨w.heap.size+1+1,x,none⟩) (by simp) (.bool true)
   have hszr:(wr.setCell ⟨w.heap.size+1+1,x,none⟩ (.bool true)).heap.size=wr.heap.size:=by simp
   have hD:Sch n1 n2 (w.heap.size+3) (w.alloc (.cells #[.slice A1 n1 c1,.slice A2 n2 c2] 27)) ((wr.setCell ⟨w.heap.size+1+1,x,none⟩ (.bool true)).alloc (.cells #[.int .i64 x] 2)) (w.heap.size+1+1) (w.heap.size+1) ((List.replicate n1 false).set x true) en (.slice (some ⟨wr.heap.size,0,none⟩) 1 1) [(x:Int)]:=by
    refine ⟨hS2.ext (Ext.alloc _ _),hE2.ext (Ext.alloc _ _),OwnL.of_row (xs:=[(x:Int)]) (Row.newG _ _ hszr.symm) intC_len (by omega) (by simp),hx2.and_alloc _,by simp,by omega,by omega,by simp,hel,?_,?_,start_ent hel HEn.out⟩
    ·rw [start_seen hxN]; rfl
    ·intro z hz; obtain rfl:=List.mem_singleton.1 hz; exact ⟨x,rfl,hxN⟩
   clear hS2 hE2 hx2 HEn hEn hel
   go_wp2_with fail
   go_loopw [9,10] (fun v i wr=>∃(k:Nat) (l:List Bool) (en E:List Int),i= .int .i64 k∧k≤E.length∧Sch n1 n2 (w.heap.size+3) (w.alloc (.cells #[.slice A1 n1 c1,.slice A2 n2 c2] 27)) wr (w.heap.size+1+1) (w.heap.size+1) l en v E) (fun _ i _=>n1-(intOf i).toNat)
   case atStart=>exact ⟨0,_,_,_,rfl,Nat.zero_le _,hD⟩
   case round=>
    obtain ⟨k,l,en,E,rfl,hk,hD0⟩:=hrel
    clear hD
    have hD:=hD0
    clear hD0
    have hszr:=hD.seen.lt
    have hEn:=hD.le
    by_cases hlt:k<E.length
    ·obtain ⟨Ao,co,rfl,hsl⟩:=hD.own.sl intC_len (by omega)
     obtain ⟨bo,oo,zo,rfl,hbo,hok,hco⟩:=hsl.get hlt
     have hc0:=hco 0 _ rfl
     simp only [Nat.add_zero,Nat.mul_one] at hc0
     obtain ⟨q,rfl,hq⟩:=hD.inn.at hok
     have HOK:=hide hok
     clear hco hok hsl
     have hb0:=(hB.ext hD.ext).cell 0
     have hb1:=(hB.ext hD.ext).cell 1
     simp at hb0 hb1
     have hbl:=(hB.ext hD.ext).lt
     go_wp2_with fail
     refine wp_region_ph [([0,1,2,3,4],5)] [6] (by kernel_rfl) (by kernel_rfl) (by intro c a w d v h; cases d <;> exact h) ?_
     simp only [wpPh,pickL,nthO]
     repeat (go_big_quiet_step (fail))
     refine wpQuiet_nil ?_
     go_wp2_with fail
     refine (c_l02At A1 A2 n1 c1 n2 c2 ps _ ((hs2.ext hx0).ext (hD.ext.trans (Ext.refl _).drew)) q (by omega)).mono ?_
     rintro e w2 ⟨va,Ea,rfl,hoa,HA,hx2⟩
     go_wp2_with fail
     refine ⟨hx2,?_⟩
     repeat (go_big_quiet_step (fail))
     refine wpQuiet_nil ?_
     clear hc0 hb0 hb1
     have hxd:=(Ext.refl _).drew.trans hx2
     have hDr:=hD.more hxd
     clear hD
     obtain ⟨wb,hwb⟩:∃wb,wr.drew.heap.size=wb:=⟨_,rfl⟩
     rw [hwb] at hoa
     have hwb':w.heap.size+1+1<wb:=by rw [←hwb]; exact hszr
     have HAP:Apt va (.slice (some ⟨bo,oo,none⟩) E.length co):=fun k hk h2=>by
      have h3:=hoa.block_le hk
      have h4:bo<wb:=by rw [←hwb]; exact hbo
      simp [Value.ownBlock] at h2
      omega
     obtain ⟨Aa,ca,rfl,_⟩:=hoa.sl intC_len (by omega)
     go_wp2_with fail
     go_loopw [9,12] (fun v i wr=>∃(j:Nat) (l:List Bool) (en E:List Int),i= .int .i64 j∧j≤Ea.length∧k<E.length∧Hid (E[k]? =some (q:Int))∧Sch n1 n2 (w.heap.size+3) (w.alloc (.cells #[.slice A1 n1 c1,.slice A2 n2 c2] 27)) wr (w.heap.size+1+1) (w.heap.size+1) l en v E∧OwnL wr wb 2 1 intC (.slice Aa Ea.length ca) Ea∧Apt (.slice Aa Ea.length ca) v) (fun _ i _=>Ea.length-(intOf i).toNat)
     case atStart=>exact ⟨0,l,en,E,rfl,Nat.zero_le _,hlt,HOK,hDr,hoa,HAP⟩
     case round=>
      clear HAP hoa hDr HOK hEn hlt hk hxd hx2 hbo hszr hbl
      obtain ⟨j,l,en,E,rfl,hj,hkE,HOK,hD,hoa,hap⟩:=hrel
      have hEa:=HA.out.2
      have hszr:=hD.seen.lt
      have hEn:=hD.le
      obtain ⟨Ao,co',rfl,hsl⟩:=hD.own.sl intC_len (by omega)
      by_cases hjl:j<Ea.length
      ·obtain ⟨bo,oo,zo,rfl,hbo,hok,hco⟩:=hsl.get hkE
       obtain rfl:zo=(q:Int):=by have:=HOK.out; rw [hok] at this; exact Option.some.inj this
       have hc0:=hco 0 _ rfl
       simp only [Nat.add_zero,Nat.mul_one] at hc0
       obtain ⟨ba,oa,za,rfl,hba,hak,hca⟩:=(hoa.slE intC_len (by omega)).get hjl
       obtain ⟨ka,p,rfl,hpk,hpe⟩:=HA.out.1 _ (List.mem_of_getElem? hak)
       have hd0:=hca 0 _ rfl
       simp only [Nat.add_zero,Nat.mul_one] at hd0
       have hkl:ka<n2:=by rw [hs2.len]; exact (List.getElem?_eq_some_iff.1 hpk).1
       have HPK:=hide hpk
       have HPE:=hide hpe
       clear hco hca hok hsl hpk hpe hak
       have hb0:=(hB.ext hD.ext).cell 0
       have hb1:=(hB.ext hD.ext).cell 1
       simp at hb0 hb1
       have hbl:=(hB.ext hD.ext).lt
       go_wp2_with fail
       refine wp_region_ph [([0,1,2,3,4,5,6,7,8],9)] [10] (by kernel_rfl) (by kernel_rfl) (by intro c a w d v h; cases d <;> exact h) ?_
       simp only [wpPh,pickL,nthO]
       repeat (go_big_quiet_step (fail))
       refine wpQuiet_nil ?_
       go_wp2_with fail
       refine (c_l02Other A1 A2 n1 c1 n2 c2 ps _ ((hs2.ext hx0).ext (hD.ext.trans (Ext.refl _).drew)) n1 (by omega) HE.out ka p HPK.out q HPE.out).mono ?_
       rintro e w2 ⟨y,rfl,hy,hx2⟩
       go_wp2_with fail
       refine ⟨hx2,?_⟩
       repeat (go_big_quiet_step (fail))
       refine wpQuiet_nil ?_
       have hxd:=(Ext.refl _).drew.trans hx2
       have hd2:=(hxd.cell _ _ hba).trans hd0
       clear hc0 hd0 hb0 hb1 hbl
       have hDr:=hD.more hxd
       have hor:=hoa.ext hxd
       have hszd:=hDr.seen.lt
       have hyl:y<l.length:=by rw [hDr.ll]; exact hy
       obtain ⟨bb,hbb⟩:∃bb,l[y]? =some bb:=⟨_,List.getElem?_eq_getElem hyl⟩
       have hsc:=hDr.seen.get boolC_len hbb (j:=0) rfl
       simp only [Nat.mul_one,Nat.add_zero] at hsc
       have hsf:=hDr.seen.frozen y
       have HBB:=hide hbb
       clear hD hoa hbb hx2 hxd
       cases bb
       ·obtain ⟨u,hu⟩:=hDr.ent.there intC_len (i:=y) (by rw [hDr.el]; exact hy) (j:=0) (by omega)
        simp only [Nat.mul_one,Nat.add_zero] at hu
        have hel:=hDr.ent.lt
        have hef:=hDr.ent.frozen y
        have hne:w.heap.size+1≠w.heap.size+1+1:=by omega
        have hba2:=hor.block_le (k:=ba) rfl
        have hne2:ba≠w.heap.size+1+1:=by omega
        have hne3:ba≠w.heap.size+1:=by omega
        have hba3:=(hor.ltG (k:=ba) rfl).2
        have ho3:OwnL ((w2.setCell ⟨w.heap.size+1+1,y,none⟩ (.bool true)).setCell ⟨w.heap.size+1,y,none⟩ (.int .i64 ka)) (w.heap.size+3) 2 1 intC (.slice (some ⟨bo,oo,none⟩) E.length co') E:=(hDr.own.farK (p:=⟨w.heap.size+1+1,y,none⟩) (by show w.heap.size+1+1<w.heap.size+3; omega) _).farK (p:=⟨w.heap.size+1,y,none⟩) (by show w.heap.size+1<w.heap.size+3; omega) _
        have hr3:OwnL ((w2.setCell ⟨w.heap.size+1+1,y,none⟩ (.bool true)).setCell ⟨w.heap.size+1,y,none⟩ (.int .i64 ka)) wb 2 1 intC (.slice (some ⟨ba,oa,none⟩) Ea.length ca) Ea:=(hor.farK (p:=⟨w.heap.size+1+1,y,none⟩) (by show w.heap.size+1+1<wb; omega) _).farK (p:=⟨w.heap.size+1,y,none⟩) (by show w.heap.size+1<wb; omega) _
        go_wp2_with (at_builtin; go_must (refine wpList_append_where rfl _ _ 137 rfl (w.heap.size+3) 2 _ 1 8 Tryz.underlying137 int_info rfl (by decide) intC intC_len int_one' (.slice (some ⟨bo,oo,none⟩) E.length co') E rfl (ho3.ext (Ext.alloc _ _)) (w2.heap.size) 0 1 1 [(y:Int)] rfl (new_int ((w2.setCell ⟨w.heap.size+1+1,y,none⟩ (.bool true)).setCell ⟨w.heap.size+1,y,none⟩ (.int .i64 ka)) _ _ (by simp)) (by omega) (by omega) (by first | omega | (simp; omega)) ?_))
        intro v5 w5 ho5 hg5 hb5
        have hD5:=hDr.add HBB.out hy (z:=(ka:Int)) (by omega) (by omega) (Ext.alloc _ _) hg5 ho5
        have hr5:=(hr3.ext (Ext.alloc _ (.cells #[.int .i64 y] 2))).grown hg5 (fun k hk=>hap k hk)
        have hap5:Apt (.slice (some ⟨ba,oa,none⟩) Ea.length ca) v5:=fun k hk h2=>by
         rcases hb5 k h2 with h3 | h3
         ·exact hap k hk h3
         ·obtain rfl:ba=k:=by simpa [Value.ownBlock] using hk
          omega
        clear hDr ho3 hr3 hg5 ho5 hb5
        go_wp2_with fail
        go_roundw
        case rel=>exact ⟨j+1,_,_,_,by go_num,by omega,by simp; omega,hide (by rw [List.getElem?_append_left hkE]; exact HOK.out),hD5,hr5,hap5⟩
        case measure=>simp [intOf]; omega
       ·go_wp2_with fail
        go_roundw
        case rel=>exact ⟨j+1,l,en,E,by go_num,by omega,hkE,HOK,hDr,hor,hap⟩
        case measure=>simp [intOf]; omega
      ·go_wp2_with fail
       go_roundw
       case rel=>exact ⟨k+1,l,en,E,by go_num,by omega,hD⟩
       case measure=>simp [intOf]; omega
    ·obtain ⟨Ao,co,rfl,hsl⟩:=hD.own.sl intC_len (by omega)
     go_wp2_with fail
     go_ret2
     refine ⟨_,_,en,E,rfl,?_,?_,hide ⟨hD.el,hEn,hD.enb,hD.inn⟩,hx0.trans hD.ext⟩
     ·have:=OwnL.of_row hD.ent intC_len (base:=w.heap.size) (by omega) (by rw [hD.el]; omega)
      rw [hD.el] at this
      exact this
     ·exact hD.own.lowG (by omega)
end Go.Proofs.YtinindjjapblcaaGreatDoor
