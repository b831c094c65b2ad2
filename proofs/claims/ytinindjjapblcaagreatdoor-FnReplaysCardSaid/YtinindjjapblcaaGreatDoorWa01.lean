/-
  The reference's source of numbers is made of the code.
-/
import Derived.Test.YtinindjjapblcaaGreatDoorWa00
import Derived.Laws.AppendOwn
import Derived.Lib.AppendZeros
import Derived.Lib.ItoaMem
import Derived.Lib.ParseIntBCases
import Derived.Lib.SplitLaws
import Derived.Lib.Join
namespace Go.Proofs.YtinindjjapblcaaGreatDoor
open Go.RowKit
def NewSrc (A:Option Addr) (n c:Nat) (w:World) (e:Ending) (w':World):Prop:=
 ∃a,e= .returned (.pointer (some ⟨a,0,none⟩))∧w.heap.size≤a∧a<w'.heap.size∧SrcAt w' a A n c∧Ext w w'
theorem NewSrc.of {A:Option Addr} {n c a:Nat} {w w':World} (h0:w.heap.size≤a) (h1:a<w'.heap.size) (hs:SrcAt w' a A n c) (hx:Ext w w'):NewSrc A n c w (.returned (.pointer (some ⟨a,0,none⟩))) w':=⟨a,rfl,h0,h1,hs,hx⟩
set_option maxHeartbeats 2000000 in
theorem c_l01From (A:Option Addr) (n c:Nat) (bs:List Int) (w:World) (hbs:SliceOf w 1 byteC A n c bs) (hbd:∀z∈bs,0≤z∧z≤255):
  Calls Tryz.prog 34 #[.slice A n c] w (NewSrc A n c w):=by
 have hm:=hbs.max
 have hcap:=hbs.cap
 have hR0:=Row.new w 124 [.slice A n c,.int .i64 0,.int .i64 50311]
 go_enter Tryz.func34,Tryz.ntmps34
 go_wp2_with fail
 go_loopw [4] (fun i wr=>∃(k:Nat) (s:Int),k≤n∧i= .int .i64 k∧Row wr w.heap.size 124 [.slice A n c,.int .i64 0,.int .i64 s]∧0≤s∧s<2147483647∧Ext w wr) (fun i _=>n-(intOf i).toNat)
 case atStart=>exact ⟨0,50311,Nat.zero_le _,rfl,hR0,by omega,by omega,Ext.alloc _ _⟩
 case round=>
  obtain ⟨k,s,hk,rfl,hrow,hs0,hs1,hx⟩:=hrel
  clear hR0
  have hgs:=hrow.lt
  have hfin:NewSrc A n c w (.returned (.pointer (some ⟨w.heap.size,0,none⟩))) wr:=NewSrc.of (Nat.le_refl _) hgs ⟨0,s,hrow,by omega,by omega,hs0,hs1⟩ hx
  by_cases hlt:k<n
  ·by_cases h64:k<64
   ·obtain ⟨b,off,z,rfl,hb,hzk,hc⟩:=hbs.get hlt
    have hz:wr.cell? ⟨b,off+k,none⟩=some (.int .u8 z):=by
     rw [hx.cell _ _ hb]; simpa using hc 0 _ rfl
    obtain ⟨hz0,hz1⟩:=hbd z (List.mem_of_getElem? hzk)
    have c2:=hrow.cell 2
    simp at c2
    have f2:=hrow.frozen 2
    have hrow2:=hrow.set_ 2 (.int .i64 ((s*41+z) % 2147483647))
    simp at hrow2
    have e1:IntKind.i64.wrap z=z:=IntWalk.i64_in _ (by omega)
    clear hc hzk hbd hfin
    go_wp2_with fail
    refine wp_region_tail 15 (by kernel_rfl) (by kernel_rfl) ?_
    simp only [List.take_succ_cons,List.take_zero,List.drop_succ_cons,List.drop_zero]
    repeat (go_big_quiet_step (fail))
    refine wpQuiet_nil ?_
    go_wp2_with fail
    go_round
    case rel=>
     refine ⟨k+1,_,by omega,by go_num,hrow2,by omega,by omega,?_⟩
     exact Ext.setCell (Ext.drewN hx _) (Nat.le_refl _) _
    case measure=>simp [intOf]; omega
   ·go_wp2_with fail
    go_ret
    exact hfin
  ·go_wp2_with fail
   go_ret
   exact hfin
end Go.Proofs.YtinindjjapblcaaGreatDoor
namespace Go.Proofs.YtinindjjapblcaaGreatDoor
open Go.RowKit
def OwnL {α:Type} (w:World) (base:Nat) (e:TypeId) (size:Nat) (f:α→List Value) (v:Value) (L:List α):Prop:=w.ownsRow base e size v L.length (L.flatMap f)
section
variable {α:Type} {w w':World} {base:Nat} {e:TypeId} {size:Nat} {f:α→List Value} {v:Value} {L:List α}
theorem OwnL.nil_ (w:World) (base:Nat) (e:TypeId) (size:Nat) (f:α→List Value):OwnL w base e size f (.slice none 0 0) []:=⟨by simp,.inl ⟨rfl,rfl⟩⟩
theorem OwnL.empty (W:World) (base:Nat) (e:TypeId) (size:Nat) (f:α→List Value) (hb:base≤W.heap.size):OwnL (W.alloc (.cells #[] e)) base e size f (.slice (some ⟨W.heap.size,0,none⟩) 0 0) []:=
 ⟨by simp,.inr ⟨W.heap.size,0,#[],rfl,hb,heap_alloc_new W _,by simp,by simp,by simp,by simp⟩⟩
theorem OwnL.block_le (h:OwnL w base e size f v L) {k:Nat} (hk:v.ownBlock=some k):base≤k:=by
 rcases h.2 with ⟨rfl,_⟩ | ⟨g,cap,cur,rfl,hb,_⟩
 ·simp [Value.ownBlock] at hk
 ·simp [Value.ownBlock] at hk; omega
theorem OwnL.ext (h:OwnL w base e size f v L) (hx:Ext w w'):OwnL w' base e size f v L:=by
 obtain ⟨h1,h2⟩:=h
 refine ⟨h1,?_⟩
 rcases h2 with h2 | ⟨g,cap,cur,hv,hb,hh,r⟩
 ·exact .inl h2
 ·refine .inr ⟨g,cap,cur,hv,hb,?_,r⟩
  have hlt:g<w.heap.size:=by
   rcases Nat.lt_or_ge g w.heap.size with hlt | hge
   ·exact hlt
   ·rw [Array.getElem?_eq_none hge] at hh; cases hh
  exact (hx.block g hlt).trans hh
theorem OwnL.form (h:OwnL w base e size f v L):∃A c,v= .slice A L.length c∧L.length≤c∧c≤9223372036854775807:=by
 rcases h.2 with ⟨rfl,hn⟩ | ⟨g,cap,cur,rfl,_,_,hnc,hcm,_⟩
 ·exact ⟨none,0,by rw [hn],by omega,by omega⟩
 ·exact ⟨_,cap,rfl,hnc,hcm⟩
theorem OwnL.own (h:OwnL w base e size f v L) (hf:∀x,(f x).length=size) (hs:0<size):
  ∃A c g,v= .slice A L.length c∧base≤g∧L.length≤c∧c≤9223372036854775807∧OwnS w g e f A L.length L:=by
 obtain ⟨A,c,g,h1,h2,h3,h4,h5,_⟩:=OwnS.of_owns hf hs h rfl
 exact ⟨A,c,g,h1,h2,h3,h4,h5⟩
end
section
variable {P:Program}
theorem wpList_append_one {α:Type} {ops:Array Oper} {rest:List Oper} {o:Oper} {a:Act} {Q:Exit→Act→World→Prop} {w:World} (hgd:o.guard=none) (s x:Operand) (t:TypeId)
  (ho:o.op= .call {callee:= .builtin .append,args:= #[s,x],argTypes:= #[t,t]}) (base:Nat) (e:TypeId) (z:Value) (size bytes:Nat) (ht:P.underlying t=some (.slice e))
  (hi:(P.info? e).map (fun i=>(i.zero,i.size,i.bytes))=some (some z,size,bytes)) (hzs:z.cells.size=size) (hsz:0<size) (f:α→List Value) (hf:∀y,(f y).length=size) (h1:∀y,∀u∈f y,u.oneCell'=true)
  (v:Value) (L:List α) (hs:a.eval s=v) (hown:OwnL w base e size f v L) (W:World) (y:α) (hW:w=W.alloc (.cells (f y).toArray e)) (b:Nat) (hx:a.eval x= .slice (some ⟨b,0,none⟩) 1 1) (hbW:b=W.heap.size)
  (hlen:L.length≤1000000000) (hb:bytes≤10000) (hbase:base≤W.heap.size)
  (h:∀v' w',OwnL w' base e size f v' (L++[y])→(∀w0:World,w0.heap.size≤base→Ext w0 w→Ext w0 w')→wpList P ops Q rest (a.put o.dst v') w'):wpList P ops Q (o::rest) a w:=by
 subst hbW
 obtain ⟨i,hi1,hi2,hi3,hi4⟩:=info_parts hi
 have hnew:Row w W.heap.size e (f y):=by rw [hW]; exact Row.new W e (f y)
 refine wpList_append_own w hgd s x t ho base e i z size bytes ht hi1 hi2 hi3 hi4 hzs hsz v L.length (L.flatMap f) hs hown ⟨W.heap.size,0,none⟩ 1 1 (f y) hx (by rw [hf,Nat.one_mul]) ?_ (h1 y) (by simp only [maxLen]; omega) ?_ (by rw [hW]; simp; omega) ?_
 ·intro j u hu
  have hadd:(Addr.add ⟨W.heap.size,0,none⟩ j)=⟨W.heap.size,j,none⟩:=by unfold Addr.add; split <;> simp_all
  rw [hadd,hnew.cell]; exact hu
 ·have:(L.length+1)*bytes≤1000000001*10000:=Nat.mul_le_mul (by omega) hb
  omega
 ·intro v' w' h2 h3 _
  refine h v' w' ?_ ?_
  ·unfold OwnL
   rw [List.length_append,List.length_singleton,List.flatMap_append,List.flatMap_singleton]
   exact h2
  ·intro w0 hw0 hx0
   exact hx0.grown h3 (fun k hk=>Nat.le_trans hw0 (hown.block_le hk))
theorem wpList_append_many {α:Type} {ops:Array Oper} {rest:List Oper} {o:Oper} {a:Act} {Q:Exit→Act→World→Prop} {w:World} (hgd:o.guard=none) (s x:Operand) (t:TypeId)
  (ho:o.op= .call {callee:= .builtin .append,args:= #[s,x],argTypes:= #[t,t]}) (base:Nat) (e:TypeId) (z:Value) (size bytes:Nat) (ht:P.underlying t=some (.slice e))
  (hi:(P.info? e).map (fun i=>(i.zero,i.size,i.bytes))=some (some z,size,bytes)) (hzs:z.cells.size=size) (hsz:0<size) (f:α→List Value) (hf:∀y,(f y).length=size) (h1:∀y,∀u∈f y,u.oneCell'=true)
  (v:Value) (L:List α) (hs:a.eval s=v) (hown:OwnL w base e size f v L) (ad:Addr) (m c:Nat) (ys:List α) (hx:a.eval x= .slice (some ad) m c) (hsrc:SliceOf w size f (some ad) m c ys)
  (hlen:L.length+m≤1000000000) (hb:bytes≤10000) (hbase:base≤w.heap.size)
  (h:∀v' w',OwnL w' base e size f v' (L++ys)→(∀w0:World,w0.heap.size≤base→Ext w0 w→Ext w0 w')→wpList P ops Q rest (a.put o.dst v') w'):wpList P ops Q (o::rest) a w:=by
 obtain ⟨i,hi1,hi2,hi3,hi4⟩:=info_parts hi
 obtain ⟨hm,hc1,hc2,hc3⟩:=hsrc
 refine wpList_append_own w hgd s x t ho base e i z size bytes ht hi1 hi2 hi3 hi4 hzs hsz v L.length (L.flatMap f) hs hown ad m c (ys.flatMap f) hx (by rw [flat_len hf,hm]) ?_ ?_ (by simp only [maxLen]; omega) ?_ hbase ?_
 ·intro j u hu
  have hj:j<(ys.flatMap f).length:=(List.getElem?_eq_some_iff.1 hu).1
  rw [flat_len hf] at hj
  have hm0:0<m:=by
   rcases Nat.eq_zero_or_pos m with h0 | h0
   ·rw [←hm,h0] at hj; omega
   ·exact h0
  obtain ⟨b,off,hA,_,hc⟩:=hc3 hm0
  injection hA with hA
  subst hA
  have hadd:(Addr.add ⟨b,off,none⟩ j)=⟨b,off+j,none⟩:=by unfold Addr.add; split <;> simp_all
  rw [hadd]
  have hq:j/size<ys.length:=by
   apply Nat.div_lt_of_lt_mul; rw [Nat.mul_comm]; exact hj
  have hy:ys[j/size]? =some ys[j/size]:=List.getElem?_eq_getElem hq
  have hr:j % size<(f ys[j/size]).length:=by rw [hf]; exact Nat.mod_lt _ hsz
  have hu':(f ys[j/size])[j % size]? =some ((f ys[j/size])[j % size]):=List.getElem?_eq_getElem hr
  have hfl:=flat_get hf hy hu'
  have hjj:j/size*size+j % size=j:=by rw [Nat.mul_comm]; exact Nat.div_add_mod j size
  rw [hjj] at hfl
  rw [hfl] at hu
  injection hu with hu
  rw [←hu]
  have:=hc _ _ hy _ _ hu'
  rw [Nat.add_assoc,hjj] at this
  exact this
 ·intro u hu
  obtain ⟨y,_,hy⟩:=List.mem_flatMap.1 hu
  exact h1 y u hy
 ·have:(L.length+m)*bytes≤1000000000*10000:=Nat.mul_le_mul hlen hb
  omega
 ·intro v' w' h2 h3 _
  refine h v' w' ?_ ?_
  ·unfold OwnL
   rw [List.length_append,List.flatMap_append, ←hm]
   exact h2
  ·intro w0 hw0 hx0
   exact hx0.grown h3 (fun k hk=>Nat.le_trans hw0 (hown.block_le hk))
theorem run_append_of_nil (w:World) (base:Nat) (t ty e:TypeId) (i:TypeInfo) (size:Nat) (ht:P.underlying t=some (.slice e)) (hi:P.info? e=some i)
  (v:Value) (n:Nat) (xs:List Value) (hown:w.ownsRow base e size v n xs) (c:Nat):(Builtin.append_ #[t,t] ty #[v,.slice none 0 c]).run P w= .ok v w:=by
 rcases hown.2 with ⟨rfl,rfl⟩ | ⟨g,cap,cur,rfl,_,_,hnc,_⟩
 ·simp [Builtin.append_,run_underlying ht,sizeOf,typeInfo,hi,Builtin.lenOf,Builtin.firstCells]
 ·simp [Builtin.append_,run_underlying ht,sizeOf,typeInfo,hi,Builtin.lenOf,Builtin.firstCells,hnc,storeCells]
theorem SliceOf.none_nil {α:Type} {w:World} {size:Nat} {f:α→List Value} {n c:Nat} {xs:List α} (h:SliceOf w size f none n c xs):n=0∧xs=[]:=by
 have hn0:n=0:=by
  rcases Nat.eq_zero_or_pos n with h0 | h0
  ·exact h0
  ·obtain ⟨_,_,hA,_⟩:=h.2.2.2 h0; cases hA
 exact ⟨hn0,List.eq_nil_of_length_eq_zero (by rw [←h.1]; exact hn0)⟩
theorem wpList_append_slice {α:Type} {ops:Array Oper} {rest:List Oper} {o:Oper} {a:Act} {Q:Exit→Act→World→Prop} {w:World} (hgd:o.guard=none) (s x:Operand) (t:TypeId)
  (ho:o.op= .call {callee:= .builtin .append,args:= #[s,x],argTypes:= #[t,t]}) (base:Nat) (e:TypeId) (z:Value) (size bytes:Nat) (ht:P.underlying t=some (.slice e))
  (hi:(P.info? e).map (fun i=>(i.zero,i.size,i.bytes))=some (some z,size,bytes)) (hzs:z.cells.size=size) (hsz:0<size) (f:α→List Value) (hf:∀y,(f y).length=size) (h1:∀y,∀u∈f y,u.oneCell'=true)
  (v:Value) (L:List α) (hs:a.eval s=v) (hown:OwnL w base e size f v L) (A:Option Addr) (m c:Nat) (ys:List α) (hx:a.eval x= .slice A m c) (hsrc:SliceOf w size f A m c ys)
  (hlen:L.length+m≤1000000000) (hb:bytes≤10000) (hbase:base≤w.heap.size)
  (h:∀v' w',OwnL w' base e size f v' (L++ys)→(∀w0:World,w0.heap.size≤base→Ext w0 w→Ext w0 w')→wpList P ops Q rest (a.put o.dst v') w'):wpList P ops Q (o::rest) a w:=by
 cases A with
 | some ad=>exact wpList_append_many hgd s x t ho base e z size bytes ht hi hzs hsz f hf h1 v L hs hown ad m c ys hx hsrc hlen hb hbase h
 | none=>
  obtain ⟨rfl,rfl⟩:=hsrc.none_nil
  obtain ⟨i,hi1,_⟩:=info_parts hi
  refine Lib.wpList_append_run w hgd s x t t ho v (.slice none 0 c) hs hx v w (run_append_of_nil w base t o.type e i size ht hi1 v L.length (L.flatMap f) hown c) (h v w (by rw [List.append_nil]; exact hown) (fun _ _ hx0=>hx0))
end
end Go.Proofs.YtinindjjapblcaaGreatDoor
namespace Go.Proofs.YtinindjjapblcaaGreatDoor
open Go.RowKit
structure Kept (base:Nat) (w w':World):Prop where
 os:w'.os=w.os
 tape:w'.tape=w.tape
 output:w'.output=w.output
 size:base≤w'.heap.size
 block:∀k,k<base→w'.heap[k]? =w.heap[k]?
theorem kept_append {w w':World} {base:Nat} (hb:base≤w.heap.size) (h:∀w0:World,w0.heap.size≤base→Ext w0 w→Ext w0 w'):Kept base w w':=by
 have hT:Ext {w with heap:=w.heap.extract 0 base} w:=by
  refine ⟨rfl,rfl,rfl,by simp; omega,fun k hk=> ?_⟩
  simp at hk
  simp [Array.getElem?_extract]
  omega
 have h2:=h _ (by simp; omega) hT
 refine ⟨h2.os,h2.tape,h2.output,?_,fun k hk=> ?_⟩
 ·have:=h2.size
  simp at this
  omega
 ·have:=h2.block k (by simp; omega)
  rw [this]
  simp [Array.getElem?_extract]
  omega
section
variable {α:Type} {w w':World} {base g:Nat} {e:TypeId} {size:Nat} {f:α→List Value} {v:Value} {L:List α}
theorem Row.kept {cs:List Value} (h:Row w g e cs) (hx:Kept base w w') (hg:g<base):Row w' g e cs:=(hx.block g hg).trans h
theorem Only.kept {w0:World} (h:Only g w0 w) (hx:Kept base w w') (hb:w0.heap.size≤base):Only g w0 w':=
 ⟨hx.os.trans h.os,hx.tape.trans h.tape,hx.output.trans h.output,Nat.le_trans hb hx.size,fun k hk hne=>(hx.block k (by omega)).trans (h.block k hk hne)⟩
theorem OwnL.only (h:OwnL w base e size f v L) (hx:Only g w w') (hg:g<base):OwnL w' base e size f v L:=by
 obtain ⟨h1,h2⟩:=h
 refine ⟨h1,?_⟩
 rcases h2 with h2 | ⟨k,cap,cur,hv,hb,hh,r⟩
 ·exact .inl h2
 ·refine .inr ⟨k,cap,cur,hv,hb,?_,r⟩
  have hlt:k<w.heap.size:=by
   rcases Nat.lt_or_ge k w.heap.size with hlt | hge
   ·exact hlt
   ·rw [Array.getElem?_eq_none hge] at hh; cases hh
  exact (hx.block k hlt (by simp; omega)).trans hh
end
end Go.Proofs.YtinindjjapblcaaGreatDoor
namespace Go.Proofs.YtinindjjapblcaaGreatDoor
open Go.RowKit
structure Turn (S:Nat→Prop) (w w':World):Prop where
 os:w'.os=w.os
 tape:w'.tape=w.tape
 output:w'.output=w.output
 size:w.heap.size≤w'.heap.size
 block:∀k,k<w.heap.size→¬S k→w'.heap[k]? =w.heap[k]?
section
variable {S S':Nat→Prop} {w w' w'':World}
theorem Turn.of_ext (h:Ext w w'):Turn S w w':=⟨h.os,h.tape,h.output,h.size,fun k hk _=>h.block k hk⟩
theorem Turn.refl (w:World):Turn S w w:=Turn.of_ext (Ext.refl _)
theorem Turn.of_only {g:Nat} (h:Only g w w') (hg:g<w.heap.size→S g):Turn S w w':=
 ⟨h.os,h.tape,h.output,h.size,fun k hk hne=>h.block k hk (by intro e; simp at e; subst e; exact hne (hg hk))⟩
theorem Turn.trans (h:Turn S w w') (k:Turn S w' w''):Turn S w w'':=
 ⟨k.os.trans h.os,k.tape.trans h.tape,k.output.trans h.output,Nat.le_trans h.size k.size,fun i hi hne=>(k.block i (Nat.lt_of_lt_of_le hi h.size) hne).trans (h.block i hi hne)⟩
theorem Turn.mono (h:Turn S w w') (hs:∀k,S k→S' k):Turn S' w w':=⟨h.os,h.tape,h.output,h.size,fun k hk hne=>h.block k hk (fun h'=>hne (hs k h'))⟩
theorem Ext.turn {w0:World} (h:Ext w0 w) (k:Turn S w w') (hs:∀b,S b→w0.heap.size≤b):Ext w0 w':=
 ⟨k.os.trans h.os,k.tape.trans h.tape,k.output.trans h.output,Nat.le_trans h.size k.size,fun i hi=>(k.block i (Nat.lt_of_lt_of_le hi h.size) (fun h'=>by have:=hs i h'; omega)).trans (h.block i hi)⟩
theorem Turn.cell (h:Turn S w w') {b o:Nat} (hb:b<w.heap.size) (hne:¬S b):w'.cell? ⟨b,o,none⟩=w.cell? ⟨b,o,none⟩:=World.cell?_of_block (w:=w) (h.block b hb hne)
theorem Row.turn {t:TypeId} {cs:List Value} {g:Nat} (h:Row w g t cs) (k:Turn S w w') (hne:¬S g):Row w' g t cs:=(k.block g h.lt hne).trans h
end
def blkOf (A:Option Addr) (n:Nat):Option Nat:=if n=0 then none else A.map Addr.block
def OwnA {α:Type} (w:World) (t:TypeId) (f:α→List Value) (A:Option Addr) (n c:Nat) (xs:List α):Prop:=
 n=xs.length∧n≤c∧c≤9223372036854775807∧(0<n→∃g,A=some ⟨g,0,none⟩∧∃rest,Row w g t (xs.flatMap f++rest))
section
variable {α:Type} {S:Nat→Prop} {w w':World} {t:TypeId} {f:α→List Value} {size:Nat} {A:Option Addr} {n c g:Nat} {xs:List α}
theorem OwnS.toA (h:OwnS w g t f A n xs) (hc:n≤c) (hm:c≤9223372036854775807):OwnA w t f A n c xs:=⟨h.1,hc,hm,fun hn=>⟨g,h.2 hn⟩⟩
theorem OwnS.blk (h:OwnS w g t f A n xs) {b:Nat} (hb:blkOf A n=some b):b=g∧0<n:=by
 unfold blkOf at hb
 split at hb
 ·cases hb
 ·have hn:0<n:=by omega
  rw [(h.2 hn).1] at hb
  simp at hb
  exact ⟨hb.symm,hn⟩
theorem RowOf.toA (h:RowOf w g t f xs) (hn:n=xs.length) (hc:n≤c) (hm:c≤9223372036854775807):OwnA w t f (some ⟨g,0,none⟩) n c xs:=by
 subst hn
 exact (OwnS.of_row h).toA hc hm
theorem OwnA.ext (h:OwnA w t f A n c xs) (hx:Ext w w'):OwnA w' t f A n c xs:=⟨h.1,h.2.1,h.2.2.1,fun hn=>let ⟨g,hA,r,hr⟩:=h.2.2.2 hn; ⟨g,hA,r,hr.ext hx⟩⟩
theorem OwnA.turn (h:OwnA w t f A n c xs) (k:Turn S w w') (hne:∀b,blkOf A n=some b→¬S b):OwnA w' t f A n c xs:=
 ⟨h.1,h.2.1,h.2.2.1,fun hn=>let ⟨g,hA,r,hr⟩:=h.2.2.2 hn; ⟨g,hA,r,hr.turn k (hne g (by unfold blkOf; rw [if_neg (by omega),hA]; rfl))⟩⟩
theorem OwnA.own (h:OwnA w t f A n c xs):∃g,OwnS w g t f A n xs∧(g<w.heap.size→blkOf A n=some g):=by
 by_cases hn:0<n
 ·obtain ⟨g,hA,r,hr⟩:=h.2.2.2 hn
  exact ⟨g,⟨h.1,fun _=>⟨hA,r,hr⟩⟩,fun _=>by unfold blkOf; rw [if_neg (by omega),hA]; rfl⟩
 ·exact ⟨w.heap.size,⟨h.1,fun h0=>absurd h0 hn⟩,fun h0=>absurd h0 (Nat.lt_irrefl _)⟩
theorem OwnA.slice (h:OwnA w t f A n c xs) (hf:∀x,(f x).length=size):SliceOf w size f A n c xs:=by
 obtain ⟨g,ho,_⟩:=h.own
 exact ho.slice hf h.2.1 h.2.2.1
theorem OwnA.lt (h:OwnA w t f A n c xs) {b:Nat} (hb:blkOf A n=some b):b<w.heap.size:=by
 obtain ⟨g,ho,_⟩:=h.own
 obtain ⟨rfl,hn⟩:=ho.blk hb
 exact ho.lt hn
theorem SliceOf.turn (h:SliceOf w size f A n c xs) (k:Turn S w w') (hne:∀b,blkOf A n=some b→¬S b):SliceOf w' size f A n c xs:=by
 obtain ⟨h1,h2,h3,h4⟩:=h
 refine ⟨h1,h2,h3,fun hn=> ?_⟩
 obtain ⟨b,off,hA,hb,hc⟩:=h4 hn
 exact ⟨b,off,hA,Nat.lt_of_lt_of_le hb k.size,fun i x hx j u hu=>(k.cell hb (hne b (by unfold blkOf; rw [if_neg (by omega),hA]; rfl))).trans (hc i x hx j u hu)⟩
theorem SliceOf.blk (h:SliceOf w size f A n c xs) {b:Nat} (hb:blkOf A n=some b):b<w.heap.size:=by
 unfold blkOf at hb
 split at hb
 ·cases hb
 ·obtain ⟨b',off,hA,hlt,_⟩:=h.2.2.2 (by omega)
  rw [hA] at hb
  simp at hb
  omega
end
def SepL (l:List (Option Nat)):Prop:=∀(i j b:Nat),i≠j→l[i]? =some (some b)→l[j]? ≠some (some b)
end Go.Proofs.YtinindjjapblcaaGreatDoor
namespace Go.Proofs.YtinindjjapblcaaGreatDoor
open Go.RowKit
section
variable {P:Program}
theorem OwnL.grown {α:Type} {w w':World} {base:Nat} {e:TypeId} {size:Nat} {f:α→List Value} {v:Value} {L:List α} {row:Option Nat} (h:OwnL w base e size f v L) (hx:w.grownBy w' row) (hne:∀k,v.ownBlock=some k→row≠some k):OwnL w' base e size f v L:=by
 obtain ⟨h1,h2⟩:=h
 refine ⟨h1,?_⟩
 rcases h2 with h2 | ⟨k,cap,cur,hv,hb,hh,r⟩
 ·exact .inl h2
 ·refine .inr ⟨k,cap,cur,hv,hb,?_,r⟩
  have hlt:k<w.heap.size:=by
   rcases Nat.lt_or_ge k w.heap.size with hlt | hge
   ·exact hlt
   ·rw [Array.getElem?_eq_none hge] at hh; cases hh
  exact (hx.block k hlt (fun e=>hne k (by rw [hv]; rfl) e.symm)).trans hh
theorem wpList_append_grow {α:Type} {ops:Array Oper} {rest:List Oper} {o:Oper} {a:Act} {Q:Exit→Act→World→Prop} {w:World} (hgd:o.guard=none) (s x:Operand) (t:TypeId)
  (ho:o.op= .call {callee:= .builtin .append,args:= #[s,x],argTypes:= #[t,t]}) (base:Nat) (e:TypeId) (z:Value) (size bytes:Nat) (ht:P.underlying t=some (.slice e))
  (hi:(P.info? e).map (fun i=>(i.zero,i.size,i.bytes))=some (some z,size,bytes)) (hzs:z.cells.size=size) (hsz:0<size) (f:α→List Value) (hf:∀y,(f y).length=size) (h1:∀y,∀u∈f y,u.oneCell'=true)
  (v:Value) (L:List α) (hs:a.eval s=v) (hown:OwnL w base e size f v L) (A:Option Addr) (m c:Nat) (ys:List α) (hx:a.eval x= .slice A m c) (hsrc:SliceOf w size f A m c ys)
  (hlen:L.length+m≤1000000000) (hb:bytes≤10000) (hbase:base≤w.heap.size)
  (h:∀v' w',OwnL w' base e size f v' (L++ys)→w.grownBy w' v.ownBlock→wpList P ops Q rest (a.put o.dst v') w'):wpList P ops Q (o::rest) a w:=by
 cases A with
 | none=>
  obtain ⟨rfl,rfl⟩:=hsrc.none_nil
  obtain ⟨i,hi1,_⟩:=info_parts hi
  refine Lib.wpList_append_run w hgd s x t t ho v (.slice none 0 c) hs hx v w (run_append_of_nil w base t o.type e i size ht hi1 v L.length (L.flatMap f) hown c) (h v w (by rw [List.append_nil]; exact hown) ⟨rfl,rfl,rfl,Nat.le_refl _,fun _ _ _=>rfl⟩)
 | some ad=>
  obtain ⟨i,hi1,hi2,hi3,hi4⟩:=info_parts hi
  obtain ⟨hm,hc1,hc2,hc3⟩:=hsrc
  refine wpList_append_own w hgd s x t ho base e i z size bytes ht hi1 hi2 hi3 hi4 hzs hsz v L.length (L.flatMap f) hs hown ad m c (ys.flatMap f) hx (by rw [flat_len hf,hm]) ?_ ?_ (by simp only [maxLen]; omega) ?_ hbase ?_
  ·intro j u hu
   have hj:j<(ys.flatMap f).length:=(List.getElem?_eq_some_iff.1 hu).1
   rw [flat_len hf] at hj
   have hm0:0<m:=by
    rcases Nat.eq_zero_or_pos m with h0 | h0
    ·rw [←hm,h0] at hj; omega
    ·exact h0
   obtain ⟨b,off,hA,_,hc⟩:=hc3 hm0
   injection hA with hA
   subst hA
   have hadd:(Addr.add ⟨b,off,none⟩ j)=⟨b,off+j,none⟩:=by unfold Addr.add; split <;> simp_all
   rw [hadd]
   have hq:j/size<ys.length:=by
    apply Nat.div_lt_of_lt_mul; rw [Nat.mul_comm]; exact hj
   have hy:ys[j/size]? =some ys[j/size]:=List.getElem?_eq_getElem hq
   have hr:j % size<(f ys[j/size]).length:=by rw [hf]; exact Nat.mod_lt _ hsz
   have hu':(f ys[j/size])[j % size]? =some ((f ys[j/size])[j % size]):=List.getElem?_eq_getElem hr
   have hfl:=flat_get hf hy hu'
   have hjj:j/size*size+j % size=j:=by rw [Nat.mul_comm]; exact Nat.div_add_mod j size
   rw [hjj] at hfl
   rw [hfl] at hu
   injection hu with hu
   rw [←hu]
   have:=hc _ _ hy _ _ hu'
   rw [Nat.add_assoc,hjj] at this
   exact this
  ·intro u hu
   obtain ⟨y,_,hy⟩:=List.mem_flatMap.1 hu
   exact h1 y u hy
  ·have:(L.length+m)*bytes≤1000000000*10000:=Nat.mul_le_mul hlen hb
   omega
  ·intro v' w' h2 h3 _
   refine h v' w' ?_ h3
   unfold OwnL
   rw [List.length_append,List.flatMap_append, ←hm]
   exact h2
end
end Go.Proofs.YtinindjjapblcaaGreatDoor
namespace Go.Proofs.YtinindjjapblcaaGreatDoor
open Go.RowKit
structure Src (w0 w:World) (a:Nat) (A:Option Addr) (n c:Nat):Prop where
 code:∃bs,SliceOf w0 1 byteC A n c bs∧∀z∈bs,0≤z∧z≤255
 hn:n≤1048576
 le0:w0.heap.size≤a
 ext:Ext w0 w
 src:SrcAt w a A n c
section
variable {w0 w w' w'':World} {a n c:Nat} {A:Option Addr}
theorem Src.lt (h:Src w0 w a A n c):a<w.heap.size:=let ⟨_,_,hr,_⟩:=h.src; hr.lt
theorem Src.more (h:Src w0 w a A n c) (hx:Ext w w'):Src w0 w' a A n c:=
 ⟨h.code,h.hn,h.le0,h.ext.trans hx,let ⟨p,s,hr,r⟩:=h.src; ⟨p,s,hr.ext hx,r⟩⟩
theorem Src.draw (h:Src w0 w a A n c) (ho:Only a w w') (hs:SrcAt w' a A n c):Src w0 w' a A n c:=⟨h.code,h.hn,h.le0,h.ext.only ho h.le0,hs⟩
theorem Only.grown {g:Nat} {row:Option Nat} (h:Only g w w') (hg:w'.grownBy w'' row) (hr:∀k,row=some k→w.heap.size≤k∨k=g):Only g w w'':=by
 refine ⟨hg.os.trans h.os,hg.tape.trans h.tape,hg.output.trans h.output,Nat.le_trans h.size hg.size,fun k hk hne=> ?_⟩
 refine (hg.block k (Nat.lt_of_lt_of_le hk h.size) (fun e=> ?_)).trans (h.block k hk hne)
 rcases hr k e.symm with h1 | h1
 ·omega
 ·subst h1; exact hne rfl
theorem Row.grown {t:TypeId} {cs:List Value} {g:Nat} {row:Option Nat} (h:Row w g t cs) (hg:w.grownBy w' row) (hr:row≠some g):Row w' g t cs:=(hg.block g h.lt (Ne.symm hr)).trans h
theorem Src.grow {row:Option Nat} (h:Src w0 w a A n c) (hg:w.grownBy w' row) (hr:∀k,row=some k→w0.heap.size≤k∧k≠a):Src w0 w' a A n c:=
 ⟨h.code,h.hn,h.le0,h.ext.grown hg (fun k hk=>(hr k hk).1),let ⟨p,s,hR,r⟩:=h.src; ⟨p,s,hR.grown hg (fun e=>(hr a e).2 rfl),r⟩⟩
theorem Src.set (h:Src w0 w a A n c) {p:Addr} (h0:w0.heap.size≤p.block) (h1:p.block≠a) (u:Value):Src w0 (w.setCell p u) a A n c:=
 ⟨h.code,h.hn,h.le0,h.ext.setCell h0 u,let ⟨q,s,hR,r⟩:=h.src; ⟨q,s,hR.far (Ne.symm h1) u,r⟩⟩
def NextN (m:Int) (w0:World) (a:Nat) (A:Option Addr) (n c:Nat) (w:World) (e:Ending) (w':World):Prop:=
 ∃x:Int,e= .returned (.int .i64 x)∧0≤x∧(x<m∨x=0)∧Src w0 w' a A n c∧Only a w w'
theorem c_next (m:Int) (h:Src w0 w a A n c) (h1: -9000000000000000000≤m) (h2:m≤9000000000000000000):
  Calls Tryz.prog 60 #[.pointer (some ⟨a,0,none⟩),.int .i64 m] w (NextN m w0 a A n c w):=by
 obtain ⟨bs,hbs,hbd⟩:=h.code
 refine (c_l01Next a m A n c bs w0 w hbs hbd h.ext h.le0 h.src h.hn h1 h2).mono ?_
 rintro e w' ⟨x,rfl,hx0,hx1,hs,ho⟩
 exact ⟨x,rfl,hx0,hx1,h.draw ho hs,ho⟩
theorem OwnL.apart {α β:Type} {base base':Nat} {e e':TypeId} {size size':Nat} {f:α→List Value} {f':β→List Value} {v v':Value} {L:List α} {L':List β} (h:OwnL w base e size f v L) (h':OwnL w base' e' size' f' v' L') (hne:e≠e'):∀k,v'.ownBlock=some k→v.ownBlock≠some k:=by
 intro k hk hk2
 rcases h.2 with ⟨rfl,_⟩ | ⟨g,cap,cur,rfl,_,hh,_⟩
 ·cases hk2
 ·rcases h'.2 with ⟨rfl,_⟩ | ⟨g',cap',cur',rfl,_,hh',_⟩
  ·cases hk
  ·simp [Value.ownBlock] at hk hk2
   subst hk hk2
   rw [hh] at hh'
   simp only [Option.some.injEq,Obj.cells.injEq] at hh'
   exact hne hh'.2.1
theorem OwnL.not_row {α:Type} {base:Nat} {e:TypeId} {size:Nat} {f:α→List Value} {v:Value} {L:List α} {g:Nat} {cs:List Value} {t:TypeId} (h:OwnL w base e size f v L) (hr:Row w g t cs) (ht:t≠e):∀k,v.ownBlock=some k→(some g:Option Nat)≠some k:=by
 intro k hk hg
 simp only [Option.some.injEq] at hg
 subst hg
 rcases h.2 with ⟨rfl,_⟩ | ⟨g',cap,cur,rfl,_,hh,_⟩
 ·cases hk
 ·simp [Value.ownBlock] at hk
  subst hk
  unfold Row at hr
  rw [hr] at hh
  simp only [Option.some.injEq,Obj.cells.injEq] at hh
  exact ht hh.2.1
theorem OwnL.put {α:Type} {base:Nat} {e:TypeId} {size:Nat} {f:α→List Value} {v:Value} {L:List α} {g:Nat} {cs:List Value} {t:TypeId} (h:OwnL w base e size f v L) (hr:Row w g t cs) (ht:t≠e) (o:Nat) (vs:List Value):OwnL (putCells w g o vs) base e size f v L:=
 h.grown ((Only.refl g w).put o vs) (fun k hk=>h.not_row hr ht k hk)
theorem Only.putNew (h:Only a w w') {g:Nat} (hg:w.heap.size≤g) (o:Nat) (vs:List Value):Only a w (putCells w' g o vs):=h.grown ((Only.refl g w').put o vs) (fun k e=>by simp at e; omega)
theorem Src.put (h:Src w0 w a A n c) {g:Nat} (h0:w0.heap.size≤g) (h1:g≠a) (o:Nat) (vs:List Value):Src w0 (putCells w g o vs) a A n c:=h.grow ((Only.refl g w).put o vs) (fun k e=>by simp at e; omega)
end
end Go.Proofs.YtinindjjapblcaaGreatDoor
namespace Go.Proofs.YtinindjjapblcaaGreatDoor
open Go.Lib
theorem parseUintM_append (M:Nat):∀(l r:List UInt8) (acc:Nat),parseUintM M acc (l++r)=match parseUintM M acc l with | .ok a=>parseUintM M a r | .syntax=> .syntax | .range=> .range
 | [],r,acc=>rfl
 | c::l,r,acc=>by
  simp only [List.cons_append,parseUintM]
  split
  ·split
   ·rfl
   ·split
    ·rfl
    ·exact parseUintM_append M l r _
  ·rfl
theorem digit_toNat {d:Nat} (h:d<10):(UInt8.ofNat (48+d)).toNat=48+d:=by
 rw [UInt8.toNat_ofNat']
 exact Nat.mod_eq_of_lt (by omega)
theorem parse_digits (M:Nat):∀(k u:Nat),u<k→u≤M→u<1844674407370955162→parseUintM M 0 (decDigits u)= .ok u:=by
 intro k
 induction k with
 | zero=>intro u h; omega
 | succ k ih=>
  intro u hk hM hu
  by_cases h:u<10
  ·rw [decDigits_one h]
   simp only [parseUintM,digit_toNat h]
   rw [if_pos (by omega),if_neg (by omega),if_neg (by omega)]
   congr 1
   omega
  ·rw [decDigits,dif_neg h,parseUintM_append,ih (u/10) (by omega) (by omega) (by omega)]
   simp only [parseUintM,digit_toNat (Nat.mod_lt u (by omega:10 > 0))]
   rw [if_pos (by omega),if_neg (by omega),if_neg (by omega)]
   congr 1
   omega
theorem decDigits_ne (u:Nat):decDigits u≠[]:=by
 rw [decDigits]; split <;> simp
theorem decDigits_digit:∀(k u:Nat),u<k→∀c∈decDigits u,48≤c.toNat∧c.toNat≤57:=by
 intro k
 induction k with
 | zero=>intro u h; omega
 | succ k ih=>
  intro u hk c hc
  rw [decDigits] at hc
  split at hc
  ·rename_i h
   simp only [List.mem_singleton] at hc
   subst hc
   rw [digit_toNat h]; omega
  ·rename_i h
   rcases List.mem_append.1 hc with hc | hc
   ·exact ih (u/10) (by omega) c hc
   ·simp only [List.mem_singleton] at hc
    subst hc
    rw [digit_toNat (Nat.mod_lt u (by omega))]
    have:=Nat.mod_lt u (show 10 > 0 by omega)
    omega
theorem parse_itoa (n:Int) (h0: -1000000000≤n) (h1:n≤1000000000):parseIntB 64 (itoa n)= .ok n:=by
 by_cases h:n<0
 ·have e:itoa n=45::decDigits n.natAbs:=by unfold itoa; rw [if_pos h]
  rw [e,parseIntB_minus]
  unfold parseUintB
  rw [if_neg (decDigits_ne _),parse_digits _ (n.natAbs+1) n.natAbs (by omega) (by omega) (by omega)]
  simp only [signedC]
  rw [if_neg (by omega)]
  congr 1
  omega
 ·have e:itoa n=decDigits n.toNat:=by unfold itoa; rw [if_neg h]
  rw [e]
  cases hd:decDigits n.toNat with
  | nil=>exact absurd hd (decDigits_ne _)
  | cons c r=>
   have hc:=decDigits_digit (n.toNat+1) n.toNat (by omega) c (by rw [hd]; simp)
   rw [parseIntB_plain 64 c r (by omega) (by omega), ←hd]
   unfold parseUintB
   rw [if_neg (decDigits_ne _),parse_digits _ (n.toNat+1) n.toNat (by omega) (by omega) (by omega)]
   simp only [signlessC]
   rw [if_neg (by omega)]
   congr 1
   omega
end Go.Proofs.YtinindjjapblcaaGreatDoor
namespace Go.Proofs.YtinindjjapblcaaGreatDoor
open Go.RowKit
def SameC (cs:List (Nat×Nat)) (w x:World):Prop:=∀q∈cs,x.cell? ⟨q.1,q.2,none⟩=w.cell? ⟨q.1,q.2,none⟩
theorem SameC.refl (cs:List (Nat×Nat)) (w:World):SameC cs w w:=fun _ _=>rfl
theorem SameC.trans {cs:List (Nat×Nat)} {a b c:World} (h:SameC cs a b) (k:SameC cs b c):SameC cs a c:=fun i hi=>(k i hi).trans (h i hi)
theorem SameC.drew {cs:List (Nat×Nat)} {a b:World} (h:SameC cs a b):SameC cs a b.drew:=h
theorem SameC.of_ext {cs:List (Nat×Nat)} {a b:World} (h:Ext a b) (hb:∀q∈cs,q.1<a.heap.size):SameC cs a b:=fun q hq=>h.cell q.1 q.2 (hb q hq)
theorem SameC.of_only {cs:List (Nat×Nat)} {g:Nat} {a b:World} (h:Only g a b) (hb:∀q∈cs,q.1<a.heap.size∧q.1≠g):SameC cs a b:=fun q hq=>h.cell (hb q hq).1 (hb q hq).2
theorem SameC.setCell {cs:List (Nat×Nat)} {a b:World} (h:SameC cs a b) {p:Addr} (hp:∀q∈cs,q.1≠p.block∨q.2≠p.off) (u:Value):SameC cs a (b.setCell p u):=fun q hq=>by
 rw [World.cell?_setCell_other _ _ _ _ (fun e=>by
  rcases hp q hq with h1 | h1
  ·exact h1 (by rw [e])
  ·exact h1 (by rw [e]))]
 exact h q hq
open Classical in
noncomputable def laterC (cs:List (Nat×Nat)) (w x:World):World:=if SameC cs w x then x else w
theorem laterC_of {cs:List (Nat×Nat)} {w x:World} (h:SameC cs w x):laterC cs w x=x:=by rw [laterC,if_pos h]
theorem same_laterC (cs:List (Nat×Nat)) (w x:World):SameC cs w (laterC cs w x):=by
 unfold laterC; split
 ·assumption
 ·exact SameC.refl _ _
@[go_sem] theorem laterC_cell1 (cs:List (Nat×Nat)) (w x:World) (b o:Nat):(laterC ((b,o)::cs) w x).cell? ⟨b,o,none⟩=w.cell? ⟨b,o,none⟩:=same_laterC _ w x (b,o) (by simp)
@[go_sem] theorem laterC_cell2 (cs:List (Nat×Nat)) (w x:World) (q1:Nat×Nat) (b o:Nat):(laterC (q1::(b,o)::cs) w x).cell? ⟨b,o,none⟩=w.cell? ⟨b,o,none⟩:=same_laterC _ w x (b,o) (by simp)
@[go_sem] theorem laterC_cell3 (cs:List (Nat×Nat)) (w x:World) (q1 q2:Nat×Nat) (b o:Nat):(laterC (q1::q2::(b,o)::cs) w x).cell? ⟨b,o,none⟩=w.cell? ⟨b,o,none⟩:=same_laterC _ w x (b,o) (by simp)
@[go_sem] theorem laterC_cell4 (cs:List (Nat×Nat)) (w x:World) (q1 q2 q3:Nat×Nat) (b o:Nat):(laterC (q1::q2::q3::(b,o)::cs) w x).cell? ⟨b,o,none⟩=w.cell? ⟨b,o,none⟩:=same_laterC _ w x (b,o) (by simp)
@[go_sem] theorem laterC_cell5 (cs:List (Nat×Nat)) (w x:World) (q1 q2 q3 q4:Nat×Nat) (b o:Nat):(laterC (q1::q2::q3::q4::(b,o)::cs) w x).cell? ⟨b,o,none⟩=w.cell? ⟨b,o,none⟩:=same_laterC _ w x (b,o) (by simp)
abbrev GrowC (bs:List (Nat×Nat)) (w:World):World→Prop:=fun w'=>∃x,w'=laterC bs w x
theorem yields_of_quietC {P:Program} {ops:Array Oper} {o:Oper} {bs:List (Nat×Nat)} (ho:stillOp o.op=true) {a:Act} {w:World} {v:Value} (hw:Region.wanted o (yielded ops a.tmps)=true)
  (h:∀w',GrowC bs w w'→o.quietAt P a (GrowC bs w) w' v):YieldsIf P ops (SameC bs w) o v a:=by
 refine .inl ⟨hw,fun w' hx=> ?_⟩
 have h1:=h w' ⟨w',(laterC_of hx).symm⟩
 unfold Oper.quietAt at h1
 cases hr:(execOp a.eval o).run P w' with
 | halt x w1=>rw [hr] at h1; simp [Oper.quietUpon] at h1
 | ok n w1=>
  obtain ⟨u,rfl⟩:=still_value ho hr
  rw [hr] at h1
  simp only [Oper.quietUpon] at h1
  rw [h1.1,h1.2]
theorem wpAnyC_still {P:Program} {md:Region.Mode} {l:List Oper} {Q:Exit→Act→World→Prop} {bs:List (Nat×Nat)} {w0 w:World} (hw0:SameC bs w0 w) (hs:Region.noSelect l.toArray=true) (hQ:∀c a w d v,Q (.panic c) (a.put d v) w→Q (.panic c) a w) {fuel:Nat} {listed':Array Bool} {K:Act→Prop}
  (hK:∀a,K a→wpAnyH P md l.toArray Q (SameC bs w0) fuel listed' a w):∀(is:List Nat) (listed:Array Bool) (a:Act),goStill md l listed is=some listed'→wpQuiet P l.toArray (GrowC bs w0) K (pickL l is) a→
   wpAnyH P md l.toArray Q (SameC bs w0) (fuel+is.length) listed a w:=by
 intro is
 induction is with
 | nil=>
  intro listed a hg h
  simp only [goStill,Option.some.injEq] at hg
  subst hg
  exact hK a h
 | cons i is ih=>
  intro listed a hg h
  unfold goStill at hg
  split at hg
  ·rename_i hc
   simp only [Bool.and_eq_true,decide_eq_true_eq] at hc
   obtain ⟨⟨⟨h1,h2⟩,h3⟩,h4⟩:=hc
   have hi:l.toArray[i]? =some (nthO l i):=by simpa using nthO_some h1
   simp only [pickL,wpQuiet] at h
   by_cases hw:Region.wanted (nthO l i) (yielded l.toArray a.tmps)=true
   ·rw [if_pos hw] at h
    obtain ⟨v,hv,hn⟩:=h
    exact wpAnyH_first hi (Region.noSelect_spec hs) (fun c a w=>hQ c a w _ _) (fuel+is.length) listed a w (Region.free_spec hi h3) (by simpa using h4) (yields_of_quietC h2 hw hv) hw0 (ih _ _ hg hn)
   ·rw [if_neg hw] at h
    exact wpAnyH_first hi (Region.noSelect_spec hs) (fun c a w=>hQ c a w _ _) (fuel+is.length) listed a w (Region.free_spec hi h3) (by simpa using h4) (.inr ⟨by simpa using hw,rfl⟩) hw0 (ih _ _ hg h)
  ·cases hg
def wpPhC (P:Program) (l:List Oper) (Q:Exit→Act→World→Prop) (bs:List (Nat×Nat)) (w0:World):List (List Nat×Nat)→List Nat→Act→World→Prop
 | [],last,a,w=>wpQuiet P l.toArray (fun w'=>∃x,w'=laterC bs w0 x) (fun a'=>Q .normal a' w) (pickL l last) a
 | (is,j)::r,last,a,w=>wpQuiet P l.toArray (fun w'=>∃x,w'=laterC bs w0 x) (fun a'=>wpList P l.toArray (Exit.then (fun a'' w''=>SameC bs w0 w''∧wpPhC P l Q bs w0 r last a'' w'') Q) [nthO l j] a' w) (pickL l is) a
theorem wpAnyC_ph {P:Program} {md:Region.Mode} {l:List Oper} {Q:Exit→Act→World→Prop} {bs:List (Nat×Nat)} {w0:World} (hs:Region.noSelect l.toArray=true) (hQ:∀c a w d v,Q (.panic c) (a.put d v) w→Q (.panic c) a w) (last:List Nat):
  ∀(ph:List (List Nat×Nat)) (listed:Array Bool) (a:Act) (w:World),SameC bs w0 w→okPh md l listed ph last=true→wpPhC P l Q bs w0 ph last a w→wpAnyH P md l.toArray Q (SameC bs w0) (phLen ph last) listed a w:=by
 intro ph
 induction ph with
 | nil=>
  intro listed a w hw0 ho h
  unfold okPh at ho
  cases hg:goStill md l listed last with
  | none=>rw [hg] at ho; simp at ho
  | some listed'=>
   rw [hg] at ho
   have he:Region.ready md l.toArray listed'=[]:=by simpa using ho
   have:=wpAnyC_still (fuel:=0) hw0 hs hQ (K:=fun a'=>Q .normal a' w) (fun a' ha=>⟨he,ha⟩) last listed a hg h
   simpa [phLen] using this
 | cons p r ih=>
  obtain ⟨is,j⟩:=p
  intro listed a w hw0 ho h
  unfold okPh at ho
  cases hg:goStill md l listed is with
  | none=>rw [hg] at ho; simp at ho
  | some listed'=>
   rw [hg] at ho
   simp only [Bool.and_eq_true,decide_eq_true_eq,beq_iff_eq] at ho
   obtain ⟨⟨hj,hr⟩,ho⟩:=ho
   refine wpAnyC_still (fuel:=phLen r last+1) hw0 hs hQ (fun a' ha=> ?_) is listed a hg h
   refine ⟨fun h0=>(by rw [hr] at h0; cases h0),fun i hi=> ?_⟩
   rw [hr] at hi
   obtain rfl:i=j:=by simpa using hi
   exact wpOp_mono (fun a'' w'' h'=>⟨h'.1,ih _ a'' w'' h'.1 ho h'.2⟩) (wpOp_one hj ha)
theorem wp_region_phC {P:Program} {id:Nat} {Q:Exit→Act→World→Prop} {a:Act} {w:World} {l:List Oper} (bs:List (Nat×Nat)) (ph:List (List Nat×Nat)) (last:List Nat) (hm:P.follows .mixedOrders=true)
  (hc:(Region.noSelect l.toArray&&decide (phLen ph last=l.length)&&okPh .any l (Array.replicate l.length false) ph last)=true) (hQ:∀c a w d v,Q (.panic c) (a.put d v) w→Q (.panic c) a w)
  (h:wpPhC P l Q bs w ph last a w.drew):(Code.region id l.toArray true).wp P Q a w:=by
 simp only [Bool.and_eq_true,decide_eq_true_eq] at hc
 obtain ⟨⟨hs,hl⟩,ho⟩:=hc
 refine wp_region_any hm (wpAny_of_held _ _ _ _ (S:=SameC bs w) ?_)
 have:=wpAnyC_ph (P:=P) (md:= .any) (w0:=w) (bs:=bs) hs hQ last ph _ a w.drew (SameC.refl bs w).drew ho h
 rw [hl] at this
 simpa using this
end Go.Proofs.YtinindjjapblcaaGreatDoor
namespace Go.Proofs.YtinindjjapblcaaGreatDoor
open Go.RowKit
inductive PhT where
 | last (is:List Nat)
 | one (is:List Nat) (j:Nat) (r:PhT)
 | two (is:List Nat) (j:Nat) (r:PhT) (k:Nat) (r':PhT)
def PhT.len:PhT→Nat
 | .last is=>is.length
 | .one is _ r=>r.len+1+is.length
 | .two is _ r _ _=>r.len+1+is.length
def okT (md:Region.Mode) (l:List Oper):PhT→Array Bool→Bool
 | .last is,listed=>match goStill md l listed is with
  | some listed'=>(Region.ready md l.toArray listed').isEmpty
  | none=>false
 | .one is j r,listed=>match goStill md l listed is with
  | some listed'=>decide (j<l.length)&&(Region.ready md l.toArray listed'==[j])&&okT md l r (listed'.setIfInBounds j true)
  | none=>false
 | .two is j r k r',listed=>match goStill md l listed is with
  | some listed'=>decide (j<l.length)&&decide (k<l.length)&&(Region.ready md l.toArray listed'==[j,k])&&decide (r'.len=r.len)&&okT md l r (listed'.setIfInBounds j true)&&okT md l r' (listed'.setIfInBounds k true)
  | none=>false
def wpPhT (P:Program) (l:List Oper) (Q:Exit→Act→World→Prop) (bs:List (Nat×Nat)) (w0:World):PhT→Act→World→Prop
 | .last is,a,w=>wpQuiet P l.toArray (fun w'=>∃x,w'=laterC bs w0 x) (fun a'=>Q .normal a' w) (pickL l is) a
 | .one is j r,a,w=>wpQuiet P l.toArray (fun w'=>∃x,w'=laterC bs w0 x) (fun a'=>wpList P l.toArray (Exit.then (fun a'' w''=>SameC bs w0 w''∧wpPhT P l Q bs w0 r a'' w'') Q) [nthO l j] a' w) (pickL l is) a
 | .two is j r k r',a,w=>wpQuiet P l.toArray (fun w'=>∃x,w'=laterC bs w0 x) (fun a'=>wpList P l.toArray (Exit.then (fun a'' w''=>SameC bs w0 w''∧wpPhT P l Q bs w0 r a'' w'') Q) [nthO l j] a' w∧
   wpList P l.toArray (Exit.then (fun a'' w''=>SameC bs w0 w''∧wpPhT P l Q bs w0 r' a'' w'') Q) [nthO l k] a' w) (pickL l is) a
theorem wpAnyC_phT {P:Program} {md:Region.Mode} {l:List Oper} {Q:Exit→Act→World→Prop} {bs:List (Nat×Nat)} {w0:World} (hs:Region.noSelect l.toArray=true) (hQ:∀c a w d v,Q (.panic c) (a.put d v) w→Q (.panic c) a w):
  ∀(ph:PhT) (listed:Array Bool) (a:Act) (w:World),SameC bs w0 w→okT md l ph listed=true→wpPhT P l Q bs w0 ph a w→wpAnyH P md l.toArray Q (SameC bs w0) ph.len listed a w:=by
 intro ph
 induction ph with
 | last is=>
  intro listed a w hw0 ho h
  unfold okT at ho
  cases hg:goStill md l listed is with
  | none=>rw [hg] at ho; simp at ho
  | some listed'=>
   rw [hg] at ho
   have he:Region.ready md l.toArray listed'=[]:=by simpa using ho
   have:=wpAnyC_still (fuel:=0) hw0 hs hQ (K:=fun a'=>Q .normal a' w) (fun a' ha=>⟨he,ha⟩) is listed a hg h
   simpa [PhT.len] using this
 | one is j r ih=>
  intro listed a w hw0 ho h
  unfold okT at ho
  cases hg:goStill md l listed is with
  | none=>rw [hg] at ho; simp at ho
  | some listed'=>
   rw [hg] at ho
   simp only [Bool.and_eq_true,decide_eq_true_eq,beq_iff_eq] at ho
   obtain ⟨⟨hj,hr⟩,ho⟩:=ho
   refine wpAnyC_still (fuel:=r.len+1) hw0 hs hQ (fun a' ha=> ?_) is listed a hg h
   refine ⟨fun h0=>(by rw [hr] at h0; cases h0),fun i hi=> ?_⟩
   rw [hr] at hi
   obtain rfl:i=j:=by simpa using hi
   exact wpOp_mono (fun a'' w'' h'=>⟨h'.1,ih _ a'' w'' h'.1 ho h'.2⟩) (wpOp_one hj ha)
 | two is j r k r' ih ih'=>
  intro listed a w hw0 ho h
  unfold okT at ho
  cases hg:goStill md l listed is with
  | none=>rw [hg] at ho; simp at ho
  | some listed'=>
   rw [hg] at ho
   simp only [Bool.and_eq_true,decide_eq_true_eq,beq_iff_eq] at ho
   obtain ⟨⟨⟨⟨⟨hj,hk⟩,hr⟩,hl⟩,ho⟩,ho'⟩:=ho
   refine wpAnyC_still (fuel:=r.len+1) hw0 hs hQ (fun a' ha=> ?_) is listed a hg h
   refine ⟨fun h0=>(by rw [hr] at h0; cases h0),fun i hi=> ?_⟩
   rw [hr] at hi
   rcases (show i=j∨i=k by simpa using hi) with rfl | rfl
   ·exact wpOp_mono (fun a'' w'' h'=>⟨h'.1,ih _ a'' w'' h'.1 ho h'.2⟩) (wpOp_one hj ha.1)
   ·exact wpOp_mono (fun a'' w'' h'=>⟨h'.1,hl ▸ ih' _ a'' w'' h'.1 ho' h'.2⟩) (wpOp_one hk ha.2)
theorem wp_region_phT {P:Program} {id:Nat} {Q:Exit→Act→World→Prop} {a:Act} {w:World} {l:List Oper} (bs:List (Nat×Nat)) (ph:PhT) (hm:P.follows .mixedOrders=true)
  (hc:(Region.noSelect l.toArray&&decide (ph.len=l.length)&&okT .any l ph (Array.replicate l.length false))=true) (hQ:∀c a w d v,Q (.panic c) (a.put d v) w→Q (.panic c) a w)
  (h:wpPhT P l Q bs w ph a w.drew):(Code.region id l.toArray true).wp P Q a w:=by
 simp only [Bool.and_eq_true,decide_eq_true_eq] at hc
 obtain ⟨⟨hs,hl⟩,ho⟩:=hc
 refine wp_region_any hm (wpAny_of_held _ _ _ _ (S:=SameC bs w) ?_)
 have:=wpAnyC_phT (P:=P) (md:= .any) (w0:=w) (bs:=bs) hs hQ ph _ a w.drew (SameC.refl bs w).drew ho h
 rw [hl] at this
 simpa using this
end Go.Proofs.YtinindjjapblcaaGreatDoor
