/-
  The reference's source of numbers: l01From and l01Next.
-/
import Derived.Test.YtfkpghdmljjegaaGreatVe00
import Derived.Laws.AppendOwn
import Derived.Lib.AppendZeros
import Derived.Lib.ItoaMem
import Derived.Lib.ParseIntBCases
import Derived.Lib.SplitLaws
import Derived.Lib.Join
namespace Go.Proofs.YtfkpghdmljjegaaGreat
open Go.RowKit
def byteC (z:Int):List Value:=[.int .u8 z]
def SrcAt (w:World) (a:Nat) (A:Option Addr) (n c:Nat):Prop:=
 ∃at_ seed:Int,Row w a 213 [.slice A n c,.int .i64 at_,.int .i64 seed]∧0≤at_∧at_≤n∧0≤seed∧seed<2147483647
def Drawn (m:Int) (a:Nat) (A:Option Addr) (n c:Nat) (w:World) (e:Ending) (w':World):Prop:=
 ∃x:Int,e= .returned (.int .i64 x)∧0≤x∧(x<m∨x=0)∧SrcAt w' a A n c∧Only a w w'
theorem Drawn.of {m x:Int} {a:Nat} {A:Option Addr} {n c:Nat} {w w':World} (h0:0≤x) (h1:x<m∨x=0) (hs:SrcAt w' a A n c) (hk:Only a w w'):Drawn m a A n c w (.returned (.int .i64 x)) w':=⟨x,rfl,h0,h1,hs,hk⟩
set_option maxHeartbeats 2000000 in
theorem c_l01Next (a:Nat) (m:Int) (A:Option Addr) (n c:Nat) (bs:List Int) (w0 w:World) (hbs:SliceOf w0 1 byteC A n c bs) (hbd:∀z∈bs,0≤z∧z≤255) (hx0:Ext w0 w) (ha:w0.heap.size≤a) (hsrc:SrcAt w a A n c) (hn:n≤1048576) (hm1: -9000000000000000000≤m) (hm2:m≤9000000000000000000):
  Calls Tryz.prog 89 #[.pointer (some ⟨a,0,none⟩),.int .i64 m] w (Drawn m a A n c w):=by
 by_cases hm:m≤1
 ·go_enter Tryz.func89,Tryz.ntmps89
  go_wp2_with fail
  go_ret
  exact Drawn.of (by omega) (.inr rfl) hsrc (Only.refl _ _)
 obtain ⟨t,seed,hrow,ht0,ht1,hs0,hs1⟩:=hsrc
 obtain ⟨t,rfl⟩:=Int.eq_ofNat_of_zero_le ht0
 have c0:=hrow.cell 0
 have c1:=hrow.cell 1
 have c2:=hrow.cell 2
 simp at c0 c1 c2
 have f1:=hrow.frozen 1
 have f2:=hrow.frozen 2
 have hal:=hrow.lt
 have hsd:0≤(seed*48271+7) % 2147483647∧(seed*48271+7) % 2147483647<2147483647:=by omega
 have hrow2:=hrow.set_ 2 (.int .i64 ((seed*48271+7) % 2147483647))
 simp at hrow2
 have hmod:∀x:Int,0≤x→0≤x % m∧x % m<m:=fun x _=>⟨Int.emod_nonneg _ (by omega),Int.emod_lt_of_pos _ (by omega)⟩
 have HM:=hide hmod
 clear hmod
 by_cases hlt:t<n
 ·obtain ⟨b,off,z,rfl,hb,hzk,hc⟩:=hbs.get hlt
  have hz:w.cell? ⟨b,off+t,none⟩=some (.int .u8 z):=by
   rw [hx0.cell _ _ hb]; simpa using hc 0 _ rfl
  obtain ⟨hz0,hz1⟩:=hbd z (List.mem_of_getElem? hzk)
  have hba:b≠a:=by omega
  have hbl:b<w.heap.size:=by have:=hx0.size; omega
  have e1:IntKind.i64.wrap z=z:=IntWalk.i64_in _ (by omega)
  have hlt':decide (t<n)=true:=by simpa using hlt
  clear hc hzk hbd
  have hrow3:=hrow2.set_ 1 (.int .i64 ((t:Int)+1))
  simp at hrow3
  have e2:IntKind.i64.wrap ((seed*48271+7) % 2147483647/19+z)=(seed*48271+7) % 2147483647/19+z:=IntWalk.i64_in _ (by omega)
  have hfin:∀(x:Int) (k k':Nat),0≤x→Drawn m a (some ⟨b,off,none⟩) n c w (.returned (.int .i64 (x % m))) ((((w.setCell ⟨a,2,none⟩ (.int .i64 ((seed*48271+7) % 2147483647))).drewN k').setCell ⟨a,1,none⟩ (.int .i64 ((t:Int)+1))).drewN k):=by
   intro x k k' hx
   obtain ⟨r0,r1⟩:=HM.out x hx
   exact Drawn.of r0 (.inl r1) ⟨_,_,hrow3,by omega,by omega,hsd.1,hsd.2⟩ (((((Only.refl a w).setCell (p:=⟨a,2,none⟩) rfl _).drewN _).setCell (p:=⟨a,1,none⟩) rfl _).drewN _)
  have hfin0:∀(x:Int) (k':Nat),0≤x→Drawn m a (some ⟨b,off,none⟩) n c w (.returned (.int .i64 (x % m))) (((w.setCell ⟨a,2,none⟩ (.int .i64 ((seed*48271+7) % 2147483647))).drewN k').setCell ⟨a,1,none⟩ (.int .i64 ((t:Int)+1))):=fun x k' hx=>hfin x 0 k' hx
  have HF0:=hide hfin0
  clear hfin0
  have HF:=hide hfin
  clear hfin
  have hw:(m≤256∧(((t:Int)+1) % 2==0)=true)∨decide (m≤256)=false∨(m≤256∧(((t:Int)+1) % 2==0)=false):=by
   by_cases h:m≤256
   ·cases h2:(((t:Int)+1) % 2==0)
    ·exact .inr (.inr ⟨h,rfl⟩)
    ·exact .inl ⟨h,rfl⟩
   ·right; left; simpa using h
  rcases hw with ⟨g1,g2⟩ | g1 | ⟨g1,g2⟩
  ·have e3:IntKind.i64.wrap ((t:Int)+1-1)=(t:Int)+1-1:=IntWalk.i64_in _ (by omega)
   have e4:(0:Int)≤(t:Int)+1-1:=by omega
   have e5:((t:Int)+1-1).toNat=t:=by omega
   go_enter Tryz.func89,Tryz.ntmps89
   go_wp2_with fail
   go_quiet (fail)
   go_wp2_with fail
   go_quiet (fail)
   go_wp2_with fail
   go_quiet (fail)
   go_wp2_with fail
   go_ret
   first | exact HF.out z _ _ hz0 | exact HF0.out _ _ (by omega)
  ·go_enter Tryz.func89,Tryz.ntmps89
   go_wp2_with fail
   go_quiet (fail)
   go_wp2_with fail
   go_quiet (fail)
   go_wp2_with fail
   go_ret
   first | exact HF.out z _ _ hz0 | exact HF0.out _ _ (by omega)
  ·go_enter Tryz.func89,Tryz.ntmps89
   go_wp2_with fail
   go_quiet (fail)
   go_wp2_with fail
   go_quiet (fail)
   go_wp2_with fail
   go_ret
   first | exact HF.out z _ _ hz0 | exact HF0.out _ _ (by omega)
 ·have hlt':decide (t<n)=false:=by simpa using hlt
  go_enter Tryz.func89,Tryz.ntmps89
  go_wp2_with fail
  go_quiet (fail)
  go_wp2_with fail
  go_ret
  obtain ⟨r0,r1⟩:=HM.out ((seed*48271+7) % 2147483647/19) (by omega)
  exact Drawn.of r0 (.inl r1) ⟨_,_,hrow2,by omega,by omega,hsd.1,hsd.2⟩ (((Only.refl a w).setCell (p:=⟨a,2,none⟩) rfl _).drewN _)
end Go.Proofs.YtfkpghdmljjegaaGreat
namespace Go.Proofs.YtfkpghdmljjegaaGreat
open Go.RowKit
def NewSrc (A:Option Addr) (n c:Nat) (w:World) (e:Ending) (w':World):Prop:=
 ∃a,e= .returned (.pointer (some ⟨a,0,none⟩))∧w.heap.size≤a∧a<w'.heap.size∧SrcAt w' a A n c∧Ext w w'
theorem NewSrc.of {A:Option Addr} {n c a:Nat} {w w':World} (h0:w.heap.size≤a) (h1:a<w'.heap.size) (hs:SrcAt w' a A n c) (hx:Ext w w'):NewSrc A n c w (.returned (.pointer (some ⟨a,0,none⟩))) w':=⟨a,rfl,h0,h1,hs,hx⟩
set_option maxHeartbeats 2000000 in
theorem c_l01From (A:Option Addr) (n c:Nat) (bs:List Int) (w:World) (hbs:SliceOf w 1 byteC A n c bs) (hbd:∀z∈bs,0≤z∧z≤255):
  Calls Tryz.prog 88 #[.slice A n c] w (NewSrc A n c w):=by
 have hm:=hbs.max
 have hcap:=hbs.cap
 have hR0:=Row.new w 213 [.slice A n c,.int .i64 0,.int .i64 50311]
 go_enter Tryz.func88,Tryz.ntmps88
 go_wp2_with fail
 go_loopw [4] (fun i wr=>∃(k:Nat) (s:Int),k≤n∧i= .int .i64 k∧Row wr w.heap.size 213 [.slice A n c,.int .i64 0,.int .i64 s]∧0≤s∧s<2147483647∧Ext w wr) (fun i _=>n-(intOf i).toNat)
 case atStart=>exact ⟨0,50311,Nat.zero_le _,rfl,hR0,by omega,by omega,Ext.alloc _ _⟩
 case round=>
  obtain ⟨k,s,hk,rfl,hrow,hs0,hs1,hx⟩:=hrel
  clear hR0
  have hgs:=hrow.lt
  have hfin:NewSrc A n c w (.returned (.pointer (some ⟨w.heap.size,0,none⟩))) wr:=NewSrc.of (Nat.le_refl _) hgs ⟨0,s,hrow,by omega,by omega,hs0,hs1⟩ hx
  by_cases hlt:k<n
  ·by_cases h64:k<64
   ·obtain ⟨b,off,z,rfl,hb,hzk,hc⟩:=hbs.get hlt
    have hz:wr.cell? ⟨b,off+k,none⟩=some (.int .u8 z):=by
     rw [hx.cell _ _ hb]; simpa using hc 0 _ rfl
    obtain ⟨hz0,hz1⟩:=hbd z (List.mem_of_getElem? hzk)
    have c2:=hrow.cell 2
    simp at c2
    have f2:=hrow.frozen 2
    have hrow2:=hrow.set_ 2 (.int .i64 ((s*41+z) % 2147483647))
    simp at hrow2
    have e1:IntKind.i64.wrap z=z:=IntWalk.i64_in _ (by omega)
    clear hc hzk hbd hfin
    go_wp2_with fail
    refine wp_region_tail 15 (by kernel_rfl) (by kernel_rfl) ?_
    simp only [List.take_succ_cons,List.take_zero,List.drop_succ_cons,List.drop_zero]
    repeat (go_big_quiet_step (fail))
    refine wpQuiet_nil ?_
    go_wp2_with fail
    go_round
    case rel=>
     refine ⟨k+1,_,by omega,by go_num,hrow2,by omega,by omega,?_⟩
     exact Ext.setCell (Ext.drewN hx _) (Nat.le_refl _) _
    case measure=>simp [intOf]; omega
   ·go_wp2_with fail
    go_ret
    exact hfin
  ·go_wp2_with fail
   go_ret
   exact hfin
end Go.Proofs.YtfkpghdmljjegaaGreat
namespace Go.Proofs.YtfkpghdmljjegaaGreat
open Go.RowKit
def OwnL {α:Type} (w:World) (base:Nat) (e:TypeId) (size:Nat) (f:α→List Value) (v:Value) (L:List α):Prop:=w.ownsRow base e size v L.length (L.flatMap f)
section
variable {α:Type} {w w':World} {base:Nat} {e:TypeId} {size:Nat} {f:α→List Value} {v:Value} {L:List α}
theorem OwnL.nil_ (w:World) (base:Nat) (e:TypeId) (size:Nat) (f:α→List Value):OwnL w base e size f (.slice none 0 0) []:=⟨by simp,.inl ⟨rfl,rfl⟩⟩
theorem OwnL.empty (W:World) (base:Nat) (e:TypeId) (size:Nat) (f:α→List Value) (hb:base≤W.heap.size):OwnL (W.alloc (.cells #[] e)) base e size f (.slice (some ⟨W.heap.size,0,none⟩) 0 0) []:=
 ⟨by simp,.inr ⟨W.heap.size,0,#[],rfl,hb,heap_alloc_new W _,by simp,by simp,by simp,by simp⟩⟩
theorem OwnL.block_le (h:OwnL w base e size f v L) {k:Nat} (hk:v.ownBlock=some k):base≤k:=by
 rcases h.2 with ⟨rfl,_⟩ | ⟨g,cap,cur,rfl,hb,_⟩
 ·simp [Value.ownBlock] at hk
 ·simp [Value.ownBlock] at hk; omega
theorem OwnL.ext (h:OwnL w base e size f v L) (hx:Ext w w'):OwnL w' base e size f v L:=by
 obtain ⟨h1,h2⟩:=h
 refine ⟨h1,?_⟩
 rcases h2 with h2 | ⟨g,cap,cur,hv,hb,hh,r⟩
 ·exact .inl h2
 ·refine .inr ⟨g,cap,cur,hv,hb,?_,r⟩
  have hlt:g<w.heap.size:=by
   rcases Nat.lt_or_ge g w.heap.size with hlt | hge
   ·exact hlt
   ·rw [Array.getElem?_eq_none hge] at hh; cases hh
  exact (hx.block g hlt).trans hh
theorem OwnL.form (h:OwnL w base e size f v L):∃A c,v= .slice A L.length c∧L.length≤c∧c≤9223372036854775807:=by
 rcases h.2 with ⟨rfl,hn⟩ | ⟨g,cap,cur,rfl,_,_,hnc,hcm,_⟩
 ·exact ⟨none,0,by rw [hn],by omega,by omega⟩
 ·exact ⟨_,cap,rfl,hnc,hcm⟩
theorem OwnL.own (h:OwnL w base e size f v L) (hf:∀x,(f x).length=size) (hs:0<size):
  ∃A c g,v= .slice A L.length c∧base≤g∧L.length≤c∧c≤9223372036854775807∧OwnS w g e f A L.length L:=by
 obtain ⟨A,c,g,h1,h2,h3,h4,h5,_⟩:=OwnS.of_owns hf hs h rfl
 exact ⟨A,c,g,h1,h2,h3,h4,h5⟩
end
section
variable {P:Program}
theorem wpList_append_one {α:Type} {ops:Array Oper} {rest:List Oper} {o:Oper} {a:Act} {Q:Exit→Act→World→Prop} {w:World} (hgd:o.guard=none) (s x:Operand) (t:TypeId)
  (ho:o.op= .call {callee:= .builtin .append,args:= #[s,x],argTypes:= #[t,t]}) (base:Nat) (e:TypeId) (z:Value) (size bytes:Nat) (ht:P.underlying t=some (.slice e))
  (hi:(P.info? e).map (fun i=>(i.zero,i.size,i.bytes))=some (some z,size,bytes)) (hzs:z.cells.size=size) (hsz:0<size) (f:α→List Value) (hf:∀y,(f y).length=size) (h1:∀y,∀u∈f y,u.oneCell'=true)
  (v:Value) (L:List α) (hs:a.eval s=v) (hown:OwnL w base e size f v L) (W:World) (y:α) (hW:w=W.alloc (.cells (f y).toArray e)) (b:Nat) (hx:a.eval x= .slice (some ⟨b,0,none⟩) 1 1) (hbW:b=W.heap.size)
  (hlen:L.length≤1000000000) (hb:bytes≤10000) (hbase:base≤W.heap.size)
  (h:∀v' w',OwnL w' base e size f v' (L++[y])→(∀w0:World,w0.heap.size≤base→Ext w0 w→Ext w0 w')→wpList P ops Q rest (a.put o.dst v') w'):wpList P ops Q (o::rest) a w:=by
 subst hbW
 obtain ⟨i,hi1,hi2,hi3,hi4⟩:=info_parts hi
 have hnew:Row w W.heap.size e (f y):=by rw [hW]; exact Row.new W e (f y)
 refine wpList_append_own w hgd s x t ho base e i z size bytes ht hi1 hi2 hi3 hi4 hzs hsz v L.length (L.flatMap f) hs hown ⟨W.heap.size,0,none⟩ 1 1 (f y) hx (by rw [hf,Nat.one_mul]) ?_ (h1 y) (by simp only [maxLen]; omega) ?_ (by rw [hW]; simp; omega) ?_
 ·intro j u hu
  have hadd:(Addr.add ⟨W.heap.size,0,none⟩ j)=⟨W.heap.size,j,none⟩:=by unfold Addr.add; split <;> simp_all
  rw [hadd,hnew.cell]; exact hu
 ·have:(L.length+1)*bytes≤1000000001*10000:=Nat.mul_le_mul (by omega) hb
  omega
 ·intro v' w' h2 h3 _
  refine h v' w' ?_ ?_
  ·unfold OwnL
   rw [List.length_append,List.length_singleton,List.flatMap_append,List.flatMap_singleton]
   exact h2
  ·intro w0 hw0 hx0
   exact hx0.grown h3 (fun k hk=>Nat.le_trans hw0 (hown.block_le hk))
theorem wpList_append_many {α:Type} {ops:Array Oper} {rest:List Oper} {o:Oper} {a:Act} {Q:Exit→Act→World→Prop} {w:World} (hgd:o.guard=none) (s x:Operand) (t:TypeId)
  (ho:o.op= .call {callee:= .builtin .append,args:= #[s,x],argTypes:= #[t,t]}) (base:Nat) (e:TypeId) (z:Value) (size bytes:Nat) (ht:P.underlying t=some (.slice e))
  (hi:(P.info? e).map (fun i=>(i.zero,i.size,i.bytes))=some (some z,size,bytes)) (hzs:z.cells.size=size) (hsz:0<size) (f:α→List Value) (hf:∀y,(f y).length=size) (h1:∀y,∀u∈f y,u.oneCell'=true)
  (v:Value) (L:List α) (hs:a.eval s=v) (hown:OwnL w base e size f v L) (ad:Addr) (m c:Nat) (ys:List α) (hx:a.eval x= .slice (some ad) m c) (hsrc:SliceOf w size f (some ad) m c ys)
  (hlen:L.length+m≤1000000000) (hb:bytes≤10000) (hbase:base≤w.heap.size)
  (h:∀v' w',OwnL w' base e size f v' (L++ys)→(∀w0:World,w0.heap.size≤base→Ext w0 w→Ext w0 w')→wpList P ops Q rest (a.put o.dst v') w'):wpList P ops Q (o::rest) a w:=by
 obtain ⟨i,hi1,hi2,hi3,hi4⟩:=info_parts hi
 obtain ⟨hm,hc1,hc2,hc3⟩:=hsrc
 refine wpList_append_own w hgd s x t ho base e i z size bytes ht hi1 hi2 hi3 hi4 hzs hsz v L.length (L.flatMap f) hs hown ad m c (ys.flatMap f) hx (by rw [flat_len hf,hm]) ?_ ?_ (by simp only [maxLen]; omega) ?_ hbase ?_
 ·intro j u hu
  have hj:j<(ys.flatMap f).length:=(List.getElem?_eq_some_iff.1 hu).1
  rw [flat_len hf] at hj
  have hm0:0<m:=by
   rcases Nat.eq_zero_or_pos m with h0 | h0
   ·rw [←hm,h0] at hj; omega
   ·exact h0
  obtain ⟨b,off,hA,_,hc⟩:=hc3 hm0
  injection hA with hA
  subst hA
  have hadd:(Addr.add ⟨b,off,none⟩ j)=⟨b,off+j,none⟩:=by unfold Addr.add; split <;> simp_all
  rw [hadd]
  have hq:j/size<ys.length:=by
   apply Nat.div_lt_of_lt_mul; rw [Nat.mul_comm]; exact hj
  have hy:ys[j/size]? =some ys[j/size]:=List.getElem?_eq_getElem hq
  have hr:j % size<(f ys[j/size]).length:=by rw [hf]; exact Nat.mod_lt _ hsz
  have hu':(f ys[j/size])[j % size]? =some ((f ys[j/size])[j % size]):=List.getElem?_eq_getElem hr
  have hfl:=flat_get hf hy hu'
  have hjj:j/size*size+j % size=j:=by rw [Nat.mul_comm]; exact Nat.div_add_mod j size
  rw [hjj] at hfl
  rw [hfl] at hu
  injection hu with hu
  rw [←hu]
  have:=hc _ _ hy _ _ hu'
  rw [Nat.add_assoc,hjj] at this
  exact this
 ·intro u hu
  obtain ⟨y,_,hy⟩:=List.mem_flatMap.1 hu
  exact h1 y u hy
 ·have:(L.length+m)*bytes≤1000000000*10000:=Nat.mul_le_mul hlen hb
  omega
 ·intro v' w' h2 h3 _
  refine h v' w' ?_ ?_
  ·unfold OwnL
   rw [List.length_append,List.flatMap_append, ←hm]
   exact h2
  ·intro w0 hw0 hx0
   exact hx0.grown h3 (fun k hk=>Nat.le_trans hw0 (hown.block_le hk))
theorem run_append_of_nil (w:World) (base:Nat) (t ty e:TypeId) (i:TypeInfo) (size:Nat) (ht:P.underlying t=some (.slice e)) (hi:P.info? e=some i)
  (v:Value) (n:Nat) (xs:List Value) (hown:w.ownsRow base e size v n xs) (c:Nat):(Builtin.append_ #[t,t] ty #[v,.slice none 0 c]).run P w= .ok v w:=by
 rcases hown.2 with ⟨rfl,rfl⟩ | ⟨g,cap,cur,rfl,_,_,hnc,_⟩
 ·simp [Builtin.append_,run_underlying ht,sizeOf,typeInfo,hi,Builtin.lenOf,Builtin.firstCells]
 ·simp [Builtin.append_,run_underlying ht,sizeOf,typeInfo,hi,Builtin.lenOf,Builtin.firstCells,hnc,storeCells]
theorem SliceOf.none_nil {α:Type} {w:World} {size:Nat} {f:α→List Value} {n c:Nat} {xs:List α} (h:SliceOf w size f none n c xs):n=0∧xs=[]:=by
 have hn0:n=0:=by
  rcases Nat.eq_zero_or_pos n with h0 | h0
  ·exact h0
  ·obtain ⟨_,_,hA,_⟩:=h.2.2.2 h0; cases hA
 exact ⟨hn0,List.eq_nil_of_length_eq_zero (by rw [←h.1]; exact hn0)⟩
theorem wpList_append_slice {α:Type} {ops:Array Oper} {rest:List Oper} {o:Oper} {a:Act} {Q:Exit→Act→World→Prop} {w:World} (hgd:o.guard=none) (s x:Operand) (t:TypeId)
  (ho:o.op= .call {callee:= .builtin .append,args:= #[s,x],argTypes:= #[t,t]}) (base:Nat) (e:TypeId) (z:Value) (size bytes:Nat) (ht:P.underlying t=some (.slice e))
  (hi:(P.info? e).map (fun i=>(i.zero,i.size,i.bytes))=some (some z,size,bytes)) (hzs:z.cells.size=size) (hsz:0<size) (f:α→List Value) (hf:∀y,(f y).length=size) (h1:∀y,∀u∈f y,u.oneCell'=true)
  (v:Value) (L:List α) (hs:a.eval s=v) (hown:OwnL w base e size f v L) (A:Option Addr) (m c:Nat) (ys:List α) (hx:a.eval x= .slice A m c) (hsrc:SliceOf w size f A m c ys)
  (hlen:L.length+m≤1000000000) (hb:bytes≤10000) (hbase:base≤w.heap.size)
  (h:∀v' w',OwnL w' base e size f v' (L++ys)→(∀w0:World,w0.heap.size≤base→Ext w0 w→Ext w0 w')→wpList P ops Q rest (a.put o.dst v') w'):wpList P ops Q (o::rest) a w:=by
 cases A with
 | some ad=>exact wpList_append_many hgd s x t ho base e z size bytes ht hi hzs hsz f hf h1 v L hs hown ad m c ys hx hsrc hlen hb hbase h
 | none=>
  obtain ⟨rfl,rfl⟩:=hsrc.none_nil
  obtain ⟨i,hi1,_⟩:=info_parts hi
  refine Lib.wpList_append_run w hgd s x t t ho v (.slice none 0 c) hs hx v w (run_append_of_nil w base t o.type e i size ht hi1 v L.length (L.flatMap f) hown c) (h v w (by rw [List.append_nil]; exact hown) (fun _ _ hx0=>hx0))
end
end Go.Proofs.YtfkpghdmljjegaaGreat
namespace Go.Proofs.YtfkpghdmljjegaaGreat
open Go.RowKit
structure Kept (base:Nat) (w w':World):Prop where
 os:w'.os=w.os
 tape:w'.tape=w.tape
 output:w'.output=w.output
 size:base≤w'.heap.size
 block:∀k,k<base→w'.heap[k]? =w.heap[k]?
theorem kept_append {w w':World} {base:Nat} (hb:base≤w.heap.size) (h:∀w0:World,w0.heap.size≤base→Ext w0 w→Ext w0 w'):Kept base w w':=by
 have hT:Ext {w with heap:=w.heap.extract 0 base} w:=by
  refine ⟨rfl,rfl,rfl,by simp; omega,fun k hk=> ?_⟩
  simp at hk
  simp [Array.getElem?_extract]
  omega
 have h2:=h _ (by simp; omega) hT
 refine ⟨h2.os,h2.tape,h2.output,?_,fun k hk=> ?_⟩
 ·have:=h2.size
  simp at this
  omega
 ·have:=h2.block k (by simp; omega)
  rw [this]
  simp [Array.getElem?_extract]
  omega
section
variable {α:Type} {w w':World} {base g:Nat} {e:TypeId} {size:Nat} {f:α→List Value} {v:Value} {L:List α}
theorem Row.kept {cs:List Value} (h:Row w g e cs) (hx:Kept base w w') (hg:g<base):Row w' g e cs:=(hx.block g hg).trans h
theorem Only.kept {w0:World} (h:Only g w0 w) (hx:Kept base w w') (hb:w0.heap.size≤base):Only g w0 w':=
 ⟨hx.os.trans h.os,hx.tape.trans h.tape,hx.output.trans h.output,Nat.le_trans hb hx.size,fun k hk hne=>(hx.block k (by omega)).trans (h.block k hk hne)⟩
theorem OwnL.only (h:OwnL w base e size f v L) (hx:Only g w w') (hg:g<base):OwnL w' base e size f v L:=by
 obtain ⟨h1,h2⟩:=h
 refine ⟨h1,?_⟩
 rcases h2 with h2 | ⟨k,cap,cur,hv,hb,hh,r⟩
 ·exact .inl h2
 ·refine .inr ⟨k,cap,cur,hv,hb,?_,r⟩
  have hlt:k<w.heap.size:=by
   rcases Nat.lt_or_ge k w.heap.size with hlt | hge
   ·exact hlt
   ·rw [Array.getElem?_eq_none hge] at hh; cases hh
  exact (hx.block k hlt (by simp; omega)).trans hh
end
end Go.Proofs.YtfkpghdmljjegaaGreat
namespace Go.Proofs.YtfkpghdmljjegaaGreat
open Go.RowKit
structure Turn (S:Nat→Prop) (w w':World):Prop where
 os:w'.os=w.os
 tape:w'.tape=w.tape
 output:w'.output=w.output
 size:w.heap.size≤w'.heap.size
 block:∀k,k<w.heap.size→¬S k→w'.heap[k]? =w.heap[k]?
section
variable {S S':Nat→Prop} {w w' w'':World}
theorem Turn.of_ext (h:Ext w w'):Turn S w w':=⟨h.os,h.tape,h.output,h.size,fun k hk _=>h.block k hk⟩
theorem Turn.refl (w:World):Turn S w w:=Turn.of_ext (Ext.refl _)
theorem Turn.of_only {g:Nat} (h:Only g w w') (hg:g<w.heap.size→S g):Turn S w w':=
 ⟨h.os,h.tape,h.output,h.size,fun k hk hne=>h.block k hk (by intro e; simp at e; subst e; exact hne (hg hk))⟩
theorem Turn.trans (h:Turn S w w') (k:Turn S w' w''):Turn S w w'':=
 ⟨k.os.trans h.os,k.tape.trans h.tape,k.output.trans h.output,Nat.le_trans h.size k.size,fun i hi hne=>(k.block i (Nat.lt_of_lt_of_le hi h.size) hne).trans (h.block i hi hne)⟩
theorem Turn.mono (h:Turn S w w') (hs:∀k,S k→S' k):Turn S' w w':=⟨h.os,h.tape,h.output,h.size,fun k hk hne=>h.block k hk (fun h'=>hne (hs k h'))⟩
theorem Ext.turn {w0:World} (h:Ext w0 w) (k:Turn S w w') (hs:∀b,S b→w0.heap.size≤b):Ext w0 w':=
 ⟨k.os.trans h.os,k.tape.trans h.tape,k.output.trans h.output,Nat.le_trans h.size k.size,fun i hi=>(k.block i (Nat.lt_of_lt_of_le hi h.size) (fun h'=>by have:=hs i h'; omega)).trans (h.block i hi)⟩
theorem Turn.cell (h:Turn S w w') {b o:Nat} (hb:b<w.heap.size) (hne:¬S b):w'.cell? ⟨b,o,none⟩=w.cell? ⟨b,o,none⟩:=World.cell?_of_block (w:=w) (h.block b hb hne)
theorem Row.turn {t:TypeId} {cs:List Value} {g:Nat} (h:Row w g t cs) (k:Turn S w w') (hne:¬S g):Row w' g t cs:=(k.block g h.lt hne).trans h
end
def blkOf (A:Option Addr) (n:Nat):Option Nat:=if n=0 then none else A.map Addr.block
def OwnA {α:Type} (w:World) (t:TypeId) (f:α→List Value) (A:Option Addr) (n c:Nat) (xs:List α):Prop:=
 n=xs.length∧n≤c∧c≤9223372036854775807∧(0<n→∃g,A=some ⟨g,0,none⟩∧∃rest,Row w g t (xs.flatMap f++rest))
section
variable {α:Type} {S:Nat→Prop} {w w':World} {t:TypeId} {f:α→List Value} {size:Nat} {A:Option Addr} {n c g:Nat} {xs:List α}
theorem OwnS.toA (h:OwnS w g t f A n xs) (hc:n≤c) (hm:c≤9223372036854775807):OwnA w t f A n c xs:=⟨h.1,hc,hm,fun hn=>⟨g,h.2 hn⟩⟩
theorem OwnS.blk (h:OwnS w g t f A n xs) {b:Nat} (hb:blkOf A n=some b):b=g∧0<n:=by
 unfold blkOf at hb
 split at hb
 ·cases hb
 ·have hn:0<n:=by omega
  rw [(h.2 hn).1] at hb
  simp at hb
  exact ⟨hb.symm,hn⟩
theorem RowOf.toA (h:RowOf w g t f xs) (hn:n=xs.length) (hc:n≤c) (hm:c≤9223372036854775807):OwnA w t f (some ⟨g,0,none⟩) n c xs:=by
 subst hn
 exact (OwnS.of_row h).toA hc hm
theorem OwnA.ext (h:OwnA w t f A n c xs) (hx:Ext w w'):OwnA w' t f A n c xs:=⟨h.1,h.2.1,h.2.2.1,fun hn=>let ⟨g,hA,r,hr⟩:=h.2.2.2 hn; ⟨g,hA,r,hr.ext hx⟩⟩
theorem OwnA.turn (h:OwnA w t f A n c xs) (k:Turn S w w') (hne:∀b,blkOf A n=some b→¬S b):OwnA w' t f A n c xs:=
 ⟨h.1,h.2.1,h.2.2.1,fun hn=>let ⟨g,hA,r,hr⟩:=h.2.2.2 hn; ⟨g,hA,r,hr.turn k (hne g (by unfold blkOf; rw [if_neg (by omega),hA]; rfl))⟩⟩
theorem OwnA.own (h:OwnA w t f A n c xs):∃g,OwnS w g t f A n xs∧(g<w.heap.size→blkOf A n=some g):=by
 by_cases hn:0<n
 ·obtain ⟨g,hA,r,hr⟩:=h.2.2.2 hn
  exact ⟨g,⟨h.1,fun _=>⟨hA,r,hr⟩⟩,fun _=>by unfold blkOf; rw [if_neg (by omega),hA]; rfl⟩
 ·exact ⟨w.heap.size,⟨h.1,fun h0=>absurd h0 hn⟩,fun h0=>absurd h0 (Nat.lt_irrefl _)⟩
theorem OwnA.slice (h:OwnA w t f A n c xs) (hf:∀x,(f x).length=size):SliceOf w size f A n c xs:=by
 obtain ⟨g,ho,_⟩:=h.own
 exact ho.slice hf h.2.1 h.2.2.1
theorem OwnA.lt (h:OwnA w t f A n c xs) {b:Nat} (hb:blkOf A n=some b):b<w.heap.size:=by
 obtain ⟨g,ho,_⟩:=h.own
 obtain ⟨rfl,hn⟩:=ho.blk hb
 exact ho.lt hn
theorem SliceOf.turn (h:SliceOf w size f A n c xs) (k:Turn S w w') (hne:∀b,blkOf A n=some b→¬S b):SliceOf w' size f A n c xs:=by
 obtain ⟨h1,h2,h3,h4⟩:=h
 refine ⟨h1,h2,h3,fun hn=> ?_⟩
 obtain ⟨b,off,hA,hb,hc⟩:=h4 hn
 exact ⟨b,off,hA,Nat.lt_of_lt_of_le hb k.size,fun i x hx j u hu=>(k.cell hb (hne b (by unfold blkOf; rw [if_neg (by omega),hA]; rfl))).trans (hc i x hx j u hu)⟩
theorem SliceOf.blk (h:SliceOf w size f A n c xs) {b:Nat} (hb:blkOf A n=some b):b<w.heap.size:=by
 unfold blkOf at hb
 split at hb
 ·cases hb
 ·obtain ⟨b',off,hA,hlt,_⟩:=h.2.2.2 (by omega)
  rw [hA] at hb
  simp at hb
  omega
end
def SepL (l:List (Option Nat)):Prop:=∀(i j b:Nat),i≠j→l[i]? =some (some b)→l[j]? ≠some (some b)
end Go.Proofs.YtfkpghdmljjegaaGreat
namespace Go.Proofs.YtfkpghdmljjegaaGreat
open Go.RowKit
section
variable {P:Program}
theorem OwnL.grown {α:Type} {w w':World} {base:Nat} {e:TypeId} {size:Nat} {f:α→List Value} {v:Value} {L:List α} {row:Option Nat} (h:OwnL w base e size f v L) (hx:w.grownBy w' row) (hne:∀k,v.ownBlock=some k→row≠some k):OwnL w' base e size f v L:=by
 obtain ⟨h1,h2⟩:=h
 refine ⟨h1,?_⟩
 rcases h2 with h2 | ⟨k,cap,cur,hv,hb,hh,r⟩
 ·exact .inl h2
 ·refine .inr ⟨k,cap,cur,hv,hb,?_,r⟩
  have hlt:k<w.heap.size:=by
   rcases Nat.lt_or_ge k w.heap.size with hlt | hge
   ·exact hlt
   ·rw [Array.getElem?_eq_none hge] at hh; cases hh
  exact (hx.block k hlt (fun e=>hne k (by rw [hv]; rfl) e.symm)).trans hh
theorem wpList_append_grow {α:Type} {ops:Array Oper} {rest:List Oper} {o:Oper} {a:Act} {Q:Exit→Act→World→Prop} {w:World} (hgd:o.guard=none) (s x:Operand) (t:TypeId)
  (ho:o.op= .call {callee:= .builtin .append,args:= #[s,x],argTypes:= #[t,t]}) (base:Nat) (e:TypeId) (z:Value) (size bytes:Nat) (ht:P.underlying t=some (.slice e))
  (hi:(P.info? e).map (fun i=>(i.zero,i.size,i.bytes))=some (some z,size,bytes)) (hzs:z.cells.size=size) (hsz:0<size) (f:α→List Value) (hf:∀y,(f y).length=size) (h1:∀y,∀u∈f y,u.oneCell'=true)
  (v:Value) (L:List α) (hs:a.eval s=v) (hown:OwnL w base e size f v L) (A:Option Addr) (m c:Nat) (ys:List α) (hx:a.eval x= .slice A m c) (hsrc:SliceOf w size f A m c ys)
  (hlen:L.length+m≤1000000000) (hb:bytes≤10000) (hbase:base≤w.heap.size)
  (h:∀v' w',OwnL w' base e size f v' (L++ys)→w.grownBy w' v.ownBlock→wpList P ops Q rest (a.put o.dst v') w'):wpList P ops Q (o::rest) a w:=by
 cases A with
 | none=>
  obtain ⟨rfl,rfl⟩:=hsrc.none_nil
  obtain ⟨i,hi1,_⟩:=info_parts hi
  refine Lib.wpList_append_run w hgd s x t t ho v (.slice none 0 c) hs hx v w (run_append_of_nil w base t o.type e i size ht hi1 v L.length (L.flatMap f) hown c) (h v w (by rw [List.append_nil]; exact hown) ⟨rfl,rfl,rfl,Nat.le_refl _,fun _ _ _=>rfl⟩)
 | some ad=>
  obtain ⟨i,hi1,hi2,hi3,hi4⟩:=info_parts hi
  obtain ⟨hm,hc1,hc2,hc3⟩:=hsrc
  refine wpList_append_own w hgd s x t ho base e i z size bytes ht hi1 hi2 hi3 hi4 hzs hsz v L.length (L.flatMap f) hs hown ad m c (ys.flatMap f) hx (by rw [flat_len hf,hm]) ?_ ?_ (by simp only [maxLen]; omega) ?_ hbase ?_
  ·intro j u hu
   have hj:j<(ys.flatMap f).length:=(List.getElem?_eq_some_iff.1 hu).1
   rw [flat_len hf] at hj
   have hm0:0<m:=by
    rcases Nat.eq_zero_or_pos m with h0 | h0
    ·rw [←hm,h0] at hj; omega
    ·exact h0
   obtain ⟨b,off,hA,_,hc⟩:=hc3 hm0
   injection hA with hA
   subst hA
   have hadd:(Addr.add ⟨b,off,none⟩ j)=⟨b,off+j,none⟩:=by unfold Addr.add; split <;> simp_all
   rw [hadd]
   have hq:j/size<ys.length:=by
    apply Nat.div_lt_of_lt_mul; rw [Nat.mul_comm]; exact hj
   have hy:ys[j/size]? =some ys[j/size]:=List.getElem?_eq_getElem hq
   have hr:j % size<(f ys[j/size]).length:=by rw [hf]; exact Nat.mod_lt _ hsz
   have hu':(f ys[j/size])[j % size]? =some ((f ys[j/size])[j % size]):=List.getElem?_eq_getElem hr
   have hfl:=flat_get hf hy hu'
   have hjj:j/size*size+j % size=j:=by rw [Nat.mul_comm]; exact Nat.div_add_mod j size
   rw [hjj] at hfl
   rw [hfl] at hu
   injection hu with hu
   rw [←hu]
   have:=hc _ _ hy _ _ hu'
   rw [Nat.add_assoc,hjj] at this
   exact this
  ·intro u hu
   obtain ⟨y,_,hy⟩:=List.mem_flatMap.1 hu
   exact h1 y u hy
  ·have:(L.length+m)*bytes≤1000000000*10000:=Nat.mul_le_mul hlen hb
   omega
  ·intro v' w' h2 h3 _
   refine h v' w' ?_ h3
   unfold OwnL
   rw [List.length_append,List.flatMap_append, ←hm]
   exact h2
end
end Go.Proofs.YtfkpghdmljjegaaGreat
namespace Go.Proofs.YtfkpghdmljjegaaGreat
open Go.RowKit
structure Src (w0 w:World) (a:Nat) (A:Option Addr) (n c:Nat):Prop where
 code:∃bs,SliceOf w0 1 byteC A n c bs∧∀z∈bs,0≤z∧z≤255
 hn:n≤1048576
 le0:w0.heap.size≤a
 ext:Ext w0 w
 src:SrcAt w a A n c
section
variable {w0 w w' w'':World} {a n c:Nat} {A:Option Addr}
theorem Src.lt (h:Src w0 w a A n c):a<w.heap.size:=let ⟨_,_,hr,_⟩:=h.src; hr.lt
theorem Src.more (h:Src w0 w a A n c) (hx:Ext w w'):Src w0 w' a A n c:=
 ⟨h.code,h.hn,h.le0,h.ext.trans hx,let ⟨p,s,hr,r⟩:=h.src; ⟨p,s,hr.ext hx,r⟩⟩
theorem Src.draw (h:Src w0 w a A n c) (ho:Only a w w') (hs:SrcAt w' a A n c):Src w0 w' a A n c:=⟨h.code,h.hn,h.le0,h.ext.only ho h.le0,hs⟩
theorem Only.grown {g:Nat} {row:Option Nat} (h:Only g w w') (hg:w'.grownBy w'' row) (hr:∀k,row=some k→w.heap.size≤k∨k=g):Only g w w'':=by
 refine ⟨hg.os.trans h.os,hg.tape.trans h.tape,hg.output.trans h.output,Nat.le_trans h.size hg.size,fun k hk hne=> ?_⟩
 refine (hg.block k (Nat.lt_of_lt_of_le hk h.size) (fun e=> ?_)).trans (h.block k hk hne)
 rcases hr k e.symm with h1 | h1
 ·omega
 ·subst h1; exact hne rfl
theorem Row.grown {t:TypeId} {cs:List Value} {g:Nat} {row:Option Nat} (h:Row w g t cs) (hg:w.grownBy w' row) (hr:row≠some g):Row w' g t cs:=(hg.block g h.lt (Ne.symm hr)).trans h
theorem Src.grow {row:Option Nat} (h:Src w0 w a A n c) (hg:w.grownBy w' row) (hr:∀k,row=some k→w0.heap.size≤k∧k≠a):Src w0 w' a A n c:=
 ⟨h.code,h.hn,h.le0,h.ext.grown hg (fun k hk=>(hr k hk).1),let ⟨p,s,hR,r⟩:=h.src; ⟨p,s,hR.grown hg (fun e=>(hr a e).2 rfl),r⟩⟩
theorem Src.set (h:Src w0 w a A n c) {p:Addr} (h0:w0.heap.size≤p.block) (h1:p.block≠a) (u:Value):Src w0 (w.setCell p u) a A n c:=
 ⟨h.code,h.hn,h.le0,h.ext.setCell h0 u,let ⟨q,s,hR,r⟩:=h.src; ⟨q,s,hR.far (Ne.symm h1) u,r⟩⟩
def NextN (m:Int) (w0:World) (a:Nat) (A:Option Addr) (n c:Nat) (w:World) (e:Ending) (w':World):Prop:=
 ∃x:Int,e= .returned (.int .i64 x)∧0≤x∧(x<m∨x=0)∧Src w0 w' a A n c∧Only a w w'
theorem c_next (m:Int) (h:Src w0 w a A n c) (h1: -9000000000000000000≤m) (h2:m≤9000000000000000000):
  Calls Tryz.prog 89 #[.pointer (some ⟨a,0,none⟩),.int .i64 m] w (NextN m w0 a A n c w):=by
 obtain ⟨bs,hbs,hbd⟩:=h.code
 refine (c_l01Next a m A n c bs w0 w hbs hbd h.ext h.le0 h.src h.hn h1 h2).mono ?_
 rintro e w' ⟨x,rfl,hx0,hx1,hs,ho⟩
 exact ⟨x,rfl,hx0,hx1,h.draw ho hs,ho⟩
theorem OwnL.apart {α β:Type} {base base':Nat} {e e':TypeId} {size size':Nat} {f:α→List Value} {f':β→List Value} {v v':Value} {L:List α} {L':List β} (h:OwnL w base e size f v L) (h':OwnL w base' e' size' f' v' L') (hne:e≠e'):∀k,v'.ownBlock=some k→v.ownBlock≠some k:=by
 intro k hk hk2
 rcases h.2 with ⟨rfl,_⟩ | ⟨g,cap,cur,rfl,_,hh,_⟩
 ·cases hk2
 ·rcases h'.2 with ⟨rfl,_⟩ | ⟨g',cap',cur',rfl,_,hh',_⟩
  ·cases hk
  ·simp [Value.ownBlock] at hk hk2
   subst hk hk2
   rw [hh] at hh'
   simp only [Option.some.injEq,Obj.cells.injEq] at hh'
   exact hne hh'.2.1
theorem OwnL.not_row {α:Type} {base:Nat} {e:TypeId} {size:Nat} {f:α→List Value} {v:Value} {L:List α} {g:Nat} {cs:List Value} {t:TypeId} (h:OwnL w base e size f v L) (hr:Row w g t cs) (ht:t≠e):∀k,v.ownBlock=some k→(some g:Option Nat)≠some k:=by
 intro k hk hg
 simp only [Option.some.injEq] at hg
 subst hg
 rcases h.2 with ⟨rfl,_⟩ | ⟨g',cap,cur,rfl,_,hh,_⟩
 ·cases hk
 ·simp [Value.ownBlock] at hk
  subst hk
  unfold Row at hr
  rw [hr] at hh
  simp only [Option.some.injEq,Obj.cells.injEq] at hh
  exact ht hh.2.1
theorem OwnL.put {α:Type} {base:Nat} {e:TypeId} {size:Nat} {f:α→List Value} {v:Value} {L:List α} {g:Nat} {cs:List Value} {t:TypeId} (h:OwnL w base e size f v L) (hr:Row w g t cs) (ht:t≠e) (o:Nat) (vs:List Value):OwnL (putCells w g o vs) base e size f v L:=
 h.grown ((Only.refl g w).put o vs) (fun k hk=>h.not_row hr ht k hk)
theorem Only.putNew (h:Only a w w') {g:Nat} (hg:w.heap.size≤g) (o:Nat) (vs:List Value):Only a w (putCells w' g o vs):=h.grown ((Only.refl g w').put o vs) (fun k e=>by simp at e; omega)
theorem Src.put (h:Src w0 w a A n c) {g:Nat} (h0:w0.heap.size≤g) (h1:g≠a) (o:Nat) (vs:List Value):Src w0 (putCells w g o vs) a A n c:=h.grow ((Only.refl g w).put o vs) (fun k e=>by simp at e; omega)
end
end Go.Proofs.YtfkpghdmljjegaaGreat
namespace Go.Proofs.YtfkpghdmljjegaaGreat
open Go.Lib
end Go.Proofs.YtfkpghdmljjegaaGreat
