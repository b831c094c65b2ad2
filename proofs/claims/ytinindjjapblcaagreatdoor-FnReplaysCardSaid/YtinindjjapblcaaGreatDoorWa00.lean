/-
  Plain lemmas on worlds, slices and lists that every later text of this seat uses.
-/
import Derived.WalkKit
import Derived.WalkSpells
import Derived.WalkLawsBesides
import Derived.Deep.QuietTactic
import Derived.BigQuiet
import Derived.IntWalk
import Derived.Test.YtinindjjapblcaaGreatDoorRows
import Derived.Laws.MakeOwn
import Derived.Laws.Rows
import Derived.Laws.AppendOwn
import Derived.OrdersHeld
import Derived.StillTail
namespace Go.Proofs.YtinindjjapblcaaGreatDoor
open Go.RowKit
theorem hide {p:Prop} (h:p):Hid p:=h
def Ext (w w':World):Prop:=Below w.heap.size w w'
theorem Ext.refl (w:World):Ext w w:=Below.refl _ _
theorem Ext.trans {a b c:World} (h:Ext a b) (k:Ext b c):Ext a c:=Below.trans h (Below.mono k h.size)
theorem Ext.alloc (w:World) (o:Obj):Ext w (w.alloc o):=(Below.refl _ _).alloc (Nat.le_refl _) o
theorem Ext.and_alloc {w w':World} (h:Ext w w') (o:Obj):Ext w (w'.alloc o):=h.trans (Ext.alloc _ _)
theorem Ext.drew {w w':World} (h:Ext w w'):Ext w w'.drew:=Below.drew h
theorem Ext.drewN {w w':World} (h:Ext w w') (n:Nat):Ext w (w'.drewN n):=⟨h.os,h.tape,h.output,h.size,h.block⟩
theorem Ext.setCell {w w':World} (h:Ext w w') {p:Addr} (hp:w.heap.size≤p.block) (u:Value):Ext w (w'.setCell p u):=Below.setCell h hp u
theorem Ext.grown {w w' w'':World} {row:Option Nat} (h:Ext w w') (hg:w'.grownBy w'' row) (hr:∀k,row=some k→w.heap.size≤k):Ext w w'':=Below.grown h hg h.size hr
theorem Ext.cell {w w':World} (h:Ext w w'):∀b o,b<w.heap.size→w'.cell? ⟨b,o,none⟩=w.cell? ⟨b,o,none⟩:=fun b o hb=>Below.cell (p:=⟨b,o,none⟩) h hb
theorem Ext.frozen {w w':World} (h:Ext w w'):∀b o,b<w.heap.size→w'.frozen? ⟨b,o,none⟩=w.frozen? ⟨b,o,none⟩:=fun b o hb=>Below.frozen (p:=⟨b,o,none⟩) h hb
theorem Ext.size {w w':World} (h:Ext w w'):w.heap.size≤w'.heap.size:=Below.size h
theorem Ext.after {w w' w'':World} (h:Ext w w') {o:Obj} (h':Ext (w'.alloc o) w''):Ext w w'':=(h.and_alloc o).trans h'
theorem Ext.box {w w':World} {o:Obj} (h:Ext (w.alloc o) w'):Ext w w':=(Ext.alloc w o).trans h
open Classical in
noncomputable def later (w x:World):World:=if Ext w x then x else w
theorem later_of {w x:World} (h:Ext w x):later w x=x:=by rw [later,if_pos h]
theorem ext_later (w x:World):Ext w (later w x):=by
 unfold later; split
 ·assumption
 ·exact Ext.refl _
@[go_sem] theorem later_cell (w x:World) (b o:Nat) (hb:b<w.heap.size):(later w x).cell? ⟨b,o,none⟩=w.cell? ⟨b,o,none⟩:=(ext_later w x).cell b o hb
@[go_sem] theorem later_cell_drew (w x:World) (b o:Nat) (hb:b<w.heap.size):(later w.drew x).cell? ⟨b,o,none⟩=w.cell? ⟨b,o,none⟩:=(ext_later w.drew x).cell b o hb
@[go_sem] theorem later_cell_drewN (w x:World) (n b o:Nat) (hb:b<w.heap.size):(later (w.drewN n) x).cell? ⟨b,o,none⟩=w.cell? ⟨b,o,none⟩:=(ext_later (w.drewN n) x).cell b o hb
theorem wp_region_later {P:Program} {id:Nat} {Q:Exit→Act→World→Prop} {a:Act} {w:World} {l:List Oper} (hm:P.follows .mixedOrders=true) (hB:Region.lexB .any l.toArray=true)
  (h:wpQuiet P l.toArray (fun w'=>∃x,w'=later w x) (fun a'=>∀w',Ext w w'→Q .normal a' w') l a):(Code.region id l.toArray true).wp P Q a w:=by
 refine wp_region_quiet (C:=fun w'=>∃x,w'=later w x) hm hB ⟨w.drew,?_⟩ ?_
 ·rw [later_of (Ext.refl w).drew]; rfl
 ·have hh:∀(l':List Oper) (a:Act),wpQuiet P l.toArray (fun w'=>∃x,w'=later w x) (fun a'=>∀w',Ext w w'→Q .normal a' w') l' a→
    wpQuiet P l.toArray (fun w'=>∃x,w'=later w x) (fun a'=>∀w',(∃x,w'=later w x)→Q .normal a' w') l' a:=by
   intro l'
   induction l' with
   | nil=>intro a h; exact fun w' ⟨x,hx⟩=>h w' (by rw [hx]; exact ext_later w x)
   | cons o rest ih=>
    intro a h
    unfold wpQuiet at h ⊢
    split
    ·rename_i hw; rw [if_pos hw] at h; exact Oper.quiet_mono ih h
    ·rename_i hw; rw [if_neg hw] at h; exact ih _ h
  simpa using hh l a h
theorem quiet_later {P:Program} {f:FuncId} {args:Array Value} {W x:World} {v:Value}
  (h:Calls P f args (later W x) fun e w'=>e= .returned v∧Ext (later W x) w'):Calls P f args (later W x) fun e w''=>e= .returned v∧∃x',w''=later W x':=
 h.mono fun _ w'' ⟨he,hx⟩=>⟨he,w'',(later_of ((ext_later W x).trans hx)).symm⟩
def Ret (v:Value) (w:World) (e:Ending) (w':World):Prop:=e= .returned v∧Ext w w'
theorem Ret.of {v v':Value} {w w':World} (h:v=v') (hx:Ext w w'):Ret v w (.returned v') w':=⟨by rw [h],hx⟩
theorem Ret.bool {b b':Bool} {w w':World} (h:b=b') (hx:Ext w w'):Ret (.bool b) w (.returned (.bool b')) w':=⟨by rw [h],hx⟩
theorem Ret.int {k:IntKind} {a b:Int} {w w':World} (h:a=b) (hx:Ext w w'):Ret (.int k a) w (.returned (.int k b)) w':=⟨by rw [h],hx⟩
def SliceOf {α:Type} (w:World) (size:Nat) (f:α→List Value) (A:Option Addr) (n c:Nat) (xs:List α):Prop:=
 n=xs.length∧n≤c∧c≤maxLen∧(0<n→∃b off,A=some ⟨b,off,none⟩∧b<w.heap.size∧∀i x,xs[i]? =some x→∀j u,(f x)[j]? =some u→w.cell? ⟨b,off+i*size+j,none⟩=some u)
section
variable {α:Type} {w w':World} {size:Nat} {f:α→List Value} {A:Option Addr} {n c:Nat} {xs:List α}
theorem SliceOf.len (h:SliceOf w size f A n c xs):n=xs.length:=h.1
theorem SliceOf.cap (h:SliceOf w size f A n c xs):n≤c:=h.2.1
theorem SliceOf.max (h:SliceOf w size f A n c xs):c≤9223372036854775807:=h.2.2.1
theorem SliceOf.ext (h:SliceOf w size f A n c xs) (he:Ext w w'):SliceOf w' size f A n c xs:=by
 obtain ⟨h1,h2,h3,h4⟩:=h
 refine ⟨h1,h2,h3,fun hn=> ?_⟩
 obtain ⟨b,off,hA,hb,hc⟩:=h4 hn
 exact ⟨b,off,hA,Nat.lt_of_lt_of_le hb he.size,fun i x hx j u hu=>(he.cell b _ hb).trans (hc i x hx j u hu)⟩
theorem SliceOf.get (h:SliceOf w size f A n c xs) {k:Nat} (hk:k<n):
  ∃b off x,A=some ⟨b,off,none⟩∧b<w.heap.size∧xs[k]? =some x∧∀j u,(f x)[j]? =some u→w.cell? ⟨b,off+k*size+j,none⟩=some u:=by
 obtain ⟨h1,h2,h3,h4⟩:=h
 obtain ⟨b,off,hA,hb,hc⟩:=h4 (by omega)
 have hx:xs[k]? =some (xs[k]'(by omega)):=List.getElem?_eq_getElem (by omega)
 exact ⟨b,off,_,hA,hb,hx,hc k _ hx⟩
theorem SliceOf.nil:SliceOf w size f A 0 c []↔c≤maxLen:=by simp [SliceOf]
end
theorem SliceOf.at_ {α:Type} {w:World} {size:Nat} {f:α→List Value} {b off:Nat} {n c:Nat} {xs:List α} (h:SliceOf w size f (some ⟨b,off,none⟩) n c xs) {k:Nat} (hk:k<n):
  ∃x,xs[k]? =some x∧∀j u,(f x)[j]? =some u→w.cell? ⟨b,off+k*size+j,none⟩=some u:=by
 obtain ⟨b',off',x,hA,_,hx,hc⟩:=h.get hk
 simp only [Option.some.injEq,Addr.mk.injEq] at hA
 obtain ⟨rfl,rfl,-⟩:=hA
 exact ⟨x,hx,hc⟩
def inB (n lo hi:Int):Bool:=decide (lo≤n)&&decide (n≤hi)
theorem inB_true {n lo hi:Int}:inB n lo hi=true↔lo≤n∧n≤hi:=by simp [inB]
theorem inB_false {n lo hi:Int}:inB n lo hi=false↔¬(lo≤n∧n≤hi):=by rw [←inB_true]; simp
theorem all_range_false {p:Nat→Bool} {n k:Nat} (hk:k<n) (h:p k=false):(List.range n).all p=false:=by
 rw [List.all_eq_false]; exact ⟨k,by simpa using hk,by simp [h]⟩
theorem all_range_true {p:Nat→Bool} {n:Nat} (h:∀j,j<n→p j=true):(List.range n).all p=true:=by
 rw [List.all_eq_true]; intro j hj; exact h j (by simpa using hj)
theorem all_upto {p:Nat→Bool} {k:Nat} (h:∀j,j<k→p j=true) (hk:p k=true):∀j,j<k+1→p j=true:=by
 intro j hj; by_cases e:j=k
 ·rw [e]; exact hk
 ·exact h j (by omega)
end Go.Proofs.YtinindjjapblcaaGreatDoor
namespace Go.Proofs.YtinindjjapblcaaGreatDoor
open Go.RowKit
theorem c_within (n lo hi:Int) (w:World):
  Calls Tryz.prog 84 #[.int .i64 n,.int .i64 lo,.int .i64 hi] w fun e w'=>e= .returned (.bool (inB n lo hi))∧w=w':=by
 go_enter Tryz.func84,Tryz.ntmps84
 go_wp2
 all_goals
  go_ret
  simp [inB, *] <;> omega
theorem c_l01In (n lo hi:Int) (w:World):
  Calls Tryz.prog 89 #[.int .i64 n,.int .i64 lo,.int .i64 hi] w fun e w'=>e= .returned (.bool (inB n lo hi))∧w=w':=by
 go_enter Tryz.func89,Tryz.ntmps89
 go_wp2
 all_goals
  go_ret
  simp [inB, *] <;> omega
def absI (n:Int):Int:=if n<0 then -n else n
theorem c_absOf (n:Int) (w:World) (h: -9223372036854775807≤n) (h':n≤9223372036854775807):
  Calls Tryz.prog 141 #[.int .i64 n] w fun e w'=>e= .returned (.int .i64 (absI n))∧w=w':=by
 go_enter Tryz.func141,Tryz.ntmps141
 go_wp2
 all_goals
  go_ret
  simp [absI, *] <;> omega
theorem c_l01Abs (n:Int) (w:World) (h: -9223372036854775807≤n) (h':n≤9223372036854775807):
  Calls Tryz.prog 178 #[.int .i64 n] w fun e w'=>e= .returned (.int .i64 (absI n))∧w=w':=by
 go_enter Tryz.func178,Tryz.ntmps178
 go_wp2
 all_goals
  go_ret
  simp [absI, *] <;> omega
end Go.Proofs.YtinindjjapblcaaGreatDoor
namespace Go.Proofs.YtinindjjapblcaaGreatDoor
open Go.RowKit
def Row (w:World) (g:Nat) (t:TypeId) (cs:List Value):Prop:=w.heap[g]? =some (.cells cs.toArray t (0,0))
section
variable {w w':World} {g:Nat} {t:TypeId} {cs:List Value}
theorem Row.lt (h:Row w g t cs):g<w.heap.size:=by
 rcases Nat.lt_or_ge g w.heap.size with hlt | hge
 ·exact hlt
 ·unfold Row at h; rw [Array.getElem?_eq_none hge] at h; cases h
theorem Row.cell (h:Row w g t cs) (i:Nat):w.cell? ⟨g,i,none⟩=cs[i]? :=by
 rw [cell_of_row w g i _ t (0,0) h]; simp
theorem Row.frozen (h:Row w g t cs) (i:Nat):w.frozen? ⟨g,i,none⟩=false:=by
 unfold Row at h
 simp [World.frozen?,h]
theorem Row.ext (h:Row w g t cs) (hx:Ext w w'):Row w' g t cs:=(hx.block g h.lt).trans h
theorem Row.drewN (h:Row w g t cs) (n:Nat):Row (w.drewN n) g t cs:=h
theorem Row.drew (h:Row w g t cs):Row w.drew g t cs:=h
theorem Row.alloc (h:Row w g t cs) (o:Obj):Row (w.alloc o) g t cs:=h.ext (Ext.alloc _ _)
theorem Row.new (w:World) (t:TypeId) (cs:List Value):Row (w.alloc (.cells cs.toArray t)) w.heap.size t cs:=heap_alloc_new w _
theorem Row.set_ (h:Row w g t cs) (i:Nat) (u:Value):Row (w.setCell ⟨g,i,none⟩ u) g t (cs.set i u):=by
 unfold Row at h ⊢
 simp [World.setCell,Array.getElem?_modify,h]
theorem Row.far (h:Row w g t cs) {p:Addr} (hp:g≠p.block) (u:Value):Row (w.setCell p u) g t cs:=(Below.heap_setCell w p u g hp).trans h
end
def putCells (w:World) (g o:Nat):List Value→World
 | []=>w
 | v::vs=>putCells (w.setCell ⟨g,o,none⟩ v) g (o+1) vs
def setCells (cs:List Value) (o:Nat):List Value→List Value
 | []=>cs
 | v::vs=>setCells (cs.set o v) (o+1) vs
theorem Row.put {w:World} {g:Nat} {t:TypeId} {cs:List Value} (h:Row w g t cs) (o:Nat) (vs:List Value):Row (putCells w g o vs) g t (setCells cs o vs):=by
 induction vs generalizing w cs o with
 | nil=>exact h
 | cons v vs ih=>exact ih (h.set_ o v) (o+1)
theorem Ext.put {w w':World} (h:Ext w w') {g:Nat} (hg:w.heap.size≤g) (o:Nat) (vs:List Value):Ext w (putCells w' g o vs):=by
 induction vs generalizing w' o with
 | nil=>exact h
 | cons v vs ih=>exact ih (h.setCell (p:=⟨g,o,none⟩) hg v) (o+1)
theorem setCells_append (az cs vs:List Value) (o:Nat):setCells (az++cs) (az.length+o) vs=az++setCells cs o vs:=by
 induction vs generalizing cs o with
 | nil=>rfl
 | cons v vs ih=>
  simp only [setCells]
  rw [List.set_append_right _ _ (by omega),show az.length+o-az.length=o by omega,show az.length+o+1=az.length+(o+1) by omega,ih]
theorem setCells_cover (cs vs rest:List Value) (h:cs.length=vs.length):setCells (cs++rest) 0 vs=vs++rest:=by
 induction vs generalizing cs with
 | nil=>simp at h; subst h; rfl
 | cons v vs ih=>
  cases cs with
  | nil=>simp at h
  | cons c cs=>
   simp at h
   have:=setCells_append [v] (cs++rest) vs 0
   simp only [List.length_singleton] at this
   simp only [setCells,List.cons_append,List.set_cons_zero]
   rw [show (0+1)=1+0 by rfl]
   simp only [List.cons_append,List.nil_append] at this
   rw [this,ih cs h]
section
variable {α:Type} {f:α→List Value} {size:Nat} {xs:List α}
theorem flat_len (hf:∀x,(f x).length=size):(xs.flatMap f).length=xs.length*size:=by
 induction xs with
 | nil=>simp
 | cons x xs ih=>simp [List.flatMap_cons,hf,ih,Nat.add_mul]; omega
theorem flat_get (hf:∀x,(f x).length=size) {i j:Nat} {x:α} {u:Value} (hx:xs[i]? =some x) (hj:(f x)[j]? =some u):(xs.flatMap f)[i*size+j]? =some u:=by
 induction xs generalizing i with
 | nil=>simp at hx
 | cons y ys ih=>
  have hjl:j<size:=by rw [←hf x]; exact (List.getElem?_eq_some_iff.1 hj).1
  cases i with
  | zero=>
   simp at hx; subst hx
   rw [List.flatMap_cons,List.getElem?_append_left (by rw [hf]; omega)]
   simpa using hj
  | succ i=>
   simp at hx
   rw [List.flatMap_cons,List.getElem?_append_right (by rw [hf,Nat.add_mul]; omega),hf,show (i+1)*size+j-size=i*size+j by rw [Nat.add_mul]; omega]
   exact ih hx
theorem flat_set (hf:∀x,(f x).length=size) {i:Nat} (hi:i<xs.length) (y:α):setCells (xs.flatMap f) (i*size) (f y)=(xs.set i y).flatMap f:=by
 induction xs generalizing i with
 | nil=>simp at hi
 | cons x xs ih=>
  cases i with
  | zero=>
   simp only [List.flatMap_cons,List.set_cons_zero,Nat.zero_mul]
   exact setCells_cover _ _ _ (by rw [hf,hf])
  | succ i=>
   simp only [List.flatMap_cons,List.set_cons_succ]
   rw [show (i+1)*size=(f x).length+i*size by rw [hf,Nat.add_mul]; omega,setCells_append,ih (by simpa using hi)]
end
def RowOf {α:Type} (w:World) (g:Nat) (t:TypeId) (f:α→List Value) (xs:List α):Prop:=Row w g t (xs.flatMap f)
section
variable {α:Type} {w w':World} {g:Nat} {t:TypeId} {f:α→List Value} {size:Nat} {xs:List α}
theorem RowOf.lt (h:RowOf w g t f xs):g<w.heap.size:=Row.lt h
theorem RowOf.ext (h:RowOf w g t f xs) (hx:Ext w w'):RowOf w' g t f xs:=Row.ext h hx
theorem RowOf.get (h:RowOf w g t f xs) (hf:∀x,(f x).length=size) {i:Nat} {x:α} (hx:xs[i]? =some x) {j:Nat} {u:Value} (hj:(f x)[j]? =some u):w.cell? ⟨g,i*size+j,none⟩=some u:=by
 rw [Row.cell h]; exact flat_get hf hx hj
theorem RowOf.there (h:RowOf w g t f xs) (hf:∀x,(f x).length=size) {i:Nat} (hi:i<xs.length) {j:Nat} (hj:j<size):∃u,w.cell? ⟨g,i*size+j,none⟩=some u:=by
 have hx:xs[i]? =some xs[i]:=List.getElem?_eq_getElem hi
 have hu:(f xs[i])[j]? =some ((f xs[i])[j]'(by rw [hf]; exact hj)):=List.getElem?_eq_getElem _
 exact ⟨_,h.get hf hx hu⟩
theorem RowOf.frozen (h:RowOf w g t f xs) (i:Nat):w.frozen? ⟨g,i,none⟩=false:=Row.frozen h i
theorem RowOf.put (h:RowOf w g t f xs) (hf:∀x,(f x).length=size) {i:Nat} (hi:i<xs.length) (y:α):RowOf (putCells w g (i*size) (f y)) g t f (xs.set i y):=by
 have:=Row.put h (i*size) (f y)
 rw [flat_set hf hi] at this
 exact this
theorem RowOf.far (h:RowOf w g t f xs) {p:Addr} (hg:g≠p.block) (u:Value):RowOf (w.setCell p u) g t f xs:=Row.far h hg u
theorem RowOf.drew (h:RowOf w g t f xs):RowOf w.drew g t f xs:=h
theorem RowOf.slice (h:RowOf w g t f xs) (hf:∀x,(f x).length=size) {n:Nat} (hn:n=xs.length) (hm:n≤9223372036854775807):SliceOf w size f (some ⟨g,0,none⟩) n n xs:=by
 refine ⟨hn,Nat.le_refl _,hm,fun _=>⟨g,0,rfl,h.lt,fun i x hx j u hu=> ?_⟩⟩
 rw [Nat.zero_add]
 exact h.get hf hx hu
theorem made_flat {z:List Value} (n:Nat) (x0:α) (hz:f x0=z) (hs:z.length=size) (h0:0<size):madeCells z.toArray (n*size)=((List.replicate n x0).flatMap f).toArray:=by
 apply Array.ext
 ·have:((List.replicate n x0).flatMap f).length=n*size:=by
   clear h0
   induction n with
   | zero=>simp
   | succ n ih=>rw [List.replicate_succ,List.flatMap_cons,List.length_append,ih,hz,hs,Nat.add_mul]; omega
  simp [size_madeCells,this]
 ·intro i h1 h2
  have hi:i<n*size:=by simpa [size_madeCells] using h1
  simp only [madeCells,Array.getElem_map,Array.getElem_range,List.getElem_toArray]
  have key:∀n i,i<n*size→((List.replicate n x0).flatMap f)[i]? =z[i % size]? :=by
   intro n
   induction n with
   | zero=>intro i hi; simp at hi
   | succ n ih=>
    intro i hi
    rw [List.replicate_succ,List.flatMap_cons,hz]
    by_cases hlt:i<size
    ·rw [List.getElem?_append_left (by omega),Nat.mod_eq_of_lt hlt]
    ·rw [List.getElem?_append_right (by omega),hs,ih (i-size) (by rw [Nat.add_mul] at hi; omega)]
     rw [←Nat.mod_eq_sub_mod (by omega)]
  have h3:=key n i hi
  have hmod:i % size<z.length:=by rw [hs]; exact Nat.mod_lt _ h0
  rw [List.getElem?_eq_getElem (by simpa using h2)] at h3
  rw [List.getElem?_eq_getElem hmod] at h3
  injection h3 with h3
  rw [h3]
  simp only [List.getElem!_toArray,List.size_toArray,hs]
  rw [List.getElem!_eq_getElem?_getD,List.getElem?_eq_getElem hmod]; rfl
theorem run_make_rowN {P:Program} (t e:TypeId) (i:TypeInfo) (z:Value) (ht:P.underlying t=some (.slice e)) (hi:P.info? e=some i) (hz:i.zero=some z)
  (kl kc:IntKind) (n c:Nat) (hnc:n≤c) (hbytes:i.bytes*c≤281474976710656) (h63:c≤9223372036854775807) (w:World):
  (Instr.makeSlice t (.int kl (n:Int)) (.int kc (c:Int))).run P w= .ok (.slice (some ⟨w.heap.size,0,none⟩) n c) (w.alloc (.cells (madeCells z.cells (c*i.size)) e)):=by
 have hb:(i.bytes:Int)*(c:Int)≤281474976710656:=by
  have h:((i.bytes*c:Nat):Int)≤281474976710656:=by omega
  rwa [Int.natCast_mul] at h
 have hr:=run_make (P:=P) w t e i z ht hi hz kl kc n c (by omega) (by omega) hb (by omega)
 simp only [Int.toNat_natCast] at hr
 exact hr
theorem run_make_flat {P:Program} (t e:TypeId) (z:List Value) (zv:Value) (size bytes:Nat) (ht:P.underlying t=some (.slice e)) (hi:(P.info? e).map (fun i=>(i.zero,i.size,i.bytes))=some (some zv,size,bytes))
  (x0:α) (hzv:zv.cells=z.toArray) (hz:f x0=z) (hs:z.length=size) (h0:0<size) (n:Nat) (hbytes:bytes*n≤281474976710656) (h63:n≤9223372036854775807) (w:World):
  (Instr.makeSlice t (.int .i64 (n:Int)) (.int .i64 (n:Int))).run P w= .ok (.slice (some ⟨w.heap.size,0,none⟩) n n) (w.alloc (.cells ((List.replicate n x0).flatMap f).toArray e)):=by
 obtain ⟨i,hi1,hi2,hi3,hi4⟩:=info_parts hi
 rw [run_make_rowN t e i zv ht hi1 hi2 .i64 .i64 n n (Nat.le_refl _) (by rw [hi4]; exact hbytes) h63 w,hi3,hzv,made_flat n x0 hz hs h0]
end
end Go.Proofs.YtinindjjapblcaaGreatDoor
namespace Go.Proofs.YtinindjjapblcaaGreatDoor
open Go.RowKit
def OwnS {α:Type} (w:World) (g:Nat) (t:TypeId) (f:α→List Value) (A:Option Addr) (n:Nat) (xs:List α):Prop:=
 n=xs.length∧(0<n→A=some ⟨g,0,none⟩∧∃rest,Row w g t (xs.flatMap f++rest))
def Only (g:Nat) (w w':World):Prop:=w.grownBy w' (some g)
section
variable {w w' w'':World} {g:Nat}
theorem Only.refl (g:Nat) (w:World):Only g w w:=⟨rfl,rfl,rfl,Nat.le_refl _,fun _ _ _=>rfl⟩
theorem Only.of_ext (h:Ext w w') (g:Nat):Only g w w':=⟨h.os,h.tape,h.output,h.size,fun k hk _=>h.block k hk⟩
theorem Only.trans (h:Only g w w') (k:Only g w' w''):Only g w w'':=
 ⟨k.os.trans h.os,k.tape.trans h.tape,k.output.trans h.output,Nat.le_trans h.size k.size,fun i hi hne=>(k.block i (Nat.lt_of_lt_of_le hi h.size) hne).trans (h.block i hi hne)⟩
theorem Only.setCell (h:Only g w w') {p:Addr} (hp:p.block=g) (u:Value):Only g w (w'.setCell p u):=
 ⟨h.os,h.tape,h.output,by simpa [World.setCell] using h.size,fun i hi hne=>(Below.heap_setCell w' p u i (by rintro rfl; exact hne (by rw [hp]))).trans (h.block i hi hne)⟩
theorem Only.put (h:Only g w w') (o:Nat) (vs:List Value):Only g w (putCells w' g o vs):=by
 induction vs generalizing w' o with
 | nil=>exact h
 | cons v vs ih=>exact ih (h.setCell (p:=⟨g,o,none⟩) rfl v) (o+1)
theorem Only.drew (h:Only g w w'):Only g w w'.drew:=⟨h.os,h.tape,h.output,h.size,h.block⟩
theorem Only.drewN (h:Only g w w') (n:Nat):Only g w (w'.drewN n):=⟨h.os,h.tape,h.output,h.size,h.block⟩
theorem Ext.only {w0:World} (h:Ext w0 w) (k:Only g w w') (hg:w0.heap.size≤g):Ext w0 w':=
 ⟨k.os.trans h.os,k.tape.trans h.tape,k.output.trans h.output,Nat.le_trans h.size k.size,fun i hi=>(k.block i (Nat.lt_of_lt_of_le hi h.size) (by simp; omega)).trans (h.block i hi)⟩
theorem Only.cell (h:Only g w w') {b o:Nat} (hb:b<w.heap.size) (hne:b≠g):w'.cell? ⟨b,o,none⟩=w.cell? ⟨b,o,none⟩:=
 World.cell?_of_block (w:=w) (h.block b hb (by simpa using hne))
theorem Row.only {t:TypeId} {cs:List Value} {g':Nat} (h:Row w g' t cs) (k:Only g w w') (hne:g'≠g):Row w' g' t cs:=(k.block g' h.lt (by simpa using hne)).trans h
end
section
variable {α:Type} {w w':World} {g:Nat} {t:TypeId} {f:α→List Value} {size:Nat} {A:Option Addr} {n:Nat} {xs:List α}
theorem RowOf.only {g':Nat} (h:RowOf w g' t f xs) (k:Only g w w') (hne:g'≠g):RowOf w' g' t f xs:=Row.only h k hne
theorem OwnS.of_row (h:RowOf w g t f xs):OwnS w g t f (some ⟨g,0,none⟩) xs.length xs:=⟨rfl,fun _=>⟨rfl,[],by rw [List.append_nil]; exact h⟩⟩
theorem OwnS.nil:OwnS w g t f A 0 []:=⟨rfl,fun h=>absurd h (by omega)⟩
theorem OwnS.ext (h:OwnS w g t f A n xs) (hx:Ext w w'):OwnS w' g t f A n xs:=⟨h.1,fun hn=>⟨(h.2 hn).1,let ⟨r,hr⟩:=(h.2 hn).2; ⟨r,hr.ext hx⟩⟩⟩
theorem OwnS.only {g':Nat} (h:OwnS w g t f A n xs) (k:Only g' w w') (hne:g≠g'):OwnS w' g t f A n xs:=⟨h.1,fun hn=>⟨(h.2 hn).1,let ⟨r,hr⟩:=(h.2 hn).2; ⟨r,hr.only k hne⟩⟩⟩
theorem OwnS.lt (h:OwnS w g t f A n xs) (hn:0<n):g<w.heap.size:=let ⟨_,hr⟩:=(h.2 hn).2; hr.lt
theorem OwnS.slice (h:OwnS w g t f A n xs) (hf:∀x,(f x).length=size) {c:Nat} (hc:n≤c) (hm:c≤9223372036854775807):SliceOf w size f A n c xs:=by
 refine ⟨h.1,hc,hm,fun hn=> ?_⟩
 obtain ⟨hA,rest,hr⟩:=h.2 hn
 refine ⟨g,0,hA,hr.lt,fun i x hx j u hu=> ?_⟩
 rw [Nat.zero_add,hr.cell]
 have h1:=flat_get hf hx hu
 rw [List.getElem?_append_left (List.getElem?_eq_some_iff.1 h1).1]
 exact h1
theorem OwnS.there (h:OwnS w g t f A n xs) (hf:∀x,(f x).length=size) {i:Nat} (hi:i<n) {j:Nat} (hj:j<size):∃u,w.cell? ⟨g,i*size+j,none⟩=some u:=by
 obtain ⟨_,rest,hr⟩:=h.2 (by omega)
 have hi':i<xs.length:=by rw [←h.1]; exact hi
 have hx:xs[i]? =some xs[i]:=List.getElem?_eq_getElem hi'
 have hu:(f xs[i])[j]? =some ((f xs[i])[j]'(by rw [hf]; exact hj)):=List.getElem?_eq_getElem _
 have h1:=flat_get hf hx hu
 exact ⟨_,by rw [hr.cell,List.getElem?_append_left (List.getElem?_eq_some_iff.1 h1).1]; exact h1⟩
theorem OwnS.frozen (h:OwnS w g t f A n xs) (hn:0<n) (i:Nat):w.frozen? ⟨g,i,none⟩=false:=let ⟨_,_,hr⟩:=h.2 hn; hr.frozen i
theorem setCells_left (az rest vs:List Value) (o:Nat) (h:o+vs.length≤az.length):setCells (az++rest) o vs=setCells az o vs++rest:=by
 induction vs generalizing az o with
 | nil=>rfl
 | cons v vs ih=>
  simp at h
  simp only [setCells]
  rw [List.set_append_left _ _ (by omega),ih _ _ (by simp; omega)]
theorem OwnS.put (h:OwnS w g t f A n xs) (hf:∀x,(f x).length=size) {i:Nat} (hi:i<n) (y:α):OwnS (putCells w g (i*size) (f y)) g t f A n (xs.set i y):=by
 refine ⟨by rw [List.length_set]; exact h.1,fun hn=> ?_⟩
 obtain ⟨hA,rest,hr⟩:=h.2 hn
 have hi':i<xs.length:=by rw [←h.1]; exact hi
 refine ⟨hA,rest,?_⟩
 have h1:=Row.put hr (i*size) (f y)
 rw [setCells_left _ _ _ _ (by
  rw [flat_len hf,hf]
  have:(i+1)*size≤xs.length*size:=Nat.mul_le_mul_right _ hi'
  rw [Nat.add_mul] at this; omega),flat_set hf hi'] at h1
 exact h1
theorem OwnS.of_owns {base:Nat} {v:Value} {cs:List Value} (hf:∀x,(f x).length=size) (hs:0<size) (h:w.ownsRow base t size v n cs) (hcs:cs=xs.flatMap f):
  ∃A c g,v= .slice A n c∧base≤g∧n≤c∧c≤9223372036854775807∧OwnS w g t f A n xs∧(v.ownBlock=none∨v.ownBlock=some g):=by
 obtain ⟨h1,h2⟩:=h
 subst hcs
 have hl:n=xs.length:=by rw [flat_len hf] at h1; exact (Nat.eq_of_mul_eq_mul_right hs h1).symm
 rcases h2 with ⟨rfl,rfl⟩ | ⟨g,cap,cur,rfl,hb,hh,hnc,hcm,hsz,hcur⟩
 ·exact ⟨none,0,base,rfl,Nat.le_refl _,Nat.le_refl _,by omega,⟨hl,fun h=>absurd h (by omega)⟩,.inl rfl⟩
 ·refine ⟨_,cap,g,rfl,hb,hnc,hcm,⟨hl,fun _=>⟨rfl,cur.toList.drop (n*size),?_⟩⟩,.inr rfl⟩
  unfold Row
  rw [←hcur,List.take_append_drop]
  simpa using hh
end
end Go.Proofs.YtinindjjapblcaaGreatDoor
namespace Go.Proofs.YtinindjjapblcaaGreatDoor
open Go.RowKit
section
variable {P:Program} {ops:Array Oper} {Q:Exit→Act→World→Prop} {md:Region.Mode}
def wpAnyE (P:Program) (md:Region.Mode) (ops:Array Oper) (Q:Exit→Act→World→Prop):Nat→Array Bool→Act→World→Prop
 | 0,listed,a,w=>Region.ready md ops listed=[]∧Q .normal a w
 | fuel+1,listed,a,w=>
  (Region.ready md ops listed=[]→Q .normal a w)∧
  ∀i∈Region.ready md ops listed,wpOp P ops Q i (fun a' w'=>Ext w w'∧wpAnyE P md ops Q fuel (listed.setIfInBounds i true) a' w') a w
theorem wpAny_of_E:∀(fuel:Nat) (listed:Array Bool) (a:Act) (w:World),wpAnyE P md ops Q fuel listed a w→wpAny P md ops Q fuel listed a w
 | 0,_,_,_,h=>h
 | fuel+1,_,_,_,h=>⟨h.1,fun i hi=>wpOp_mono (fun a' w' h'=>wpAny_of_E fuel _ a' w' h'.2) (h.2 i hi)⟩
theorem wpAnyE_first {i:Nat} {oi:Oper} {v:Value} {w0:World} (hi:ops[i]? =some oi) (hsel:∀(j:Nat) (o:Oper) cs b,ops[j]? =some o→o.op≠ .select cs b)
  (hQ:∀c a w,Q (.panic c) (a.put oi.dst v) w→Q (.panic c) a w):
  ∀(fuel:Nat) (listed:Array Bool) (a:Act) (w:World),
   (∀j oj,ops[j]? =some oj→j≠i→listed.getD j true=false→(∀e∈oj.after,Region.binds md e=true→e.on≠i)→oi.apart ops oj=true)→
   i∈Region.ready md ops listed→YieldsIf P ops (Ext w0) oi v a→Ext w0 w→
   wpAnyE P md ops Q fuel (listed.setIfInBounds i true) (a.put oi.dst v) w→wpAnyE P md ops Q (fuel+1) listed a w:=by
 intro fuel
 induction fuel with
 | zero=>
  intro listed a w _ hr hy hS H
  refine ⟨fun h=>(by rw [h] at hr; cases hr),fun j hj=> ?_⟩
  by_cases hji:j=i
  ·subst hji; exact hy.wpOp hi hS ⟨Ext.refl _,H⟩
  ·have:=ready_mono hj hji
   rw [H.1] at this
   cases this
 | succ fuel ih=>
  intro listed a w hfree hr hy hS H
  refine ⟨fun h=>(by rw [h] at hr; cases hr),fun j hj=> ?_⟩
  by_cases hji:j=i
  ·subst hji; exact hy.wpOp hi hS ⟨Ext.refl _,H⟩
  ·have h1:=H.2 j (ready_mono hj hji)
   obtain ⟨hjun,oj,hoj,hall⟩:=mem_ready.1 hj
   have hnot:∀e∈oj.after,Region.binds md e=true→e.on≠i:=fun e he hb heq=>by
    have h1:=hall e he hb
    have h0:=(mem_ready.1 hr).1
    rw [heq] at h1
    rcases Nat.lt_or_ge i listed.size with h' | h'
    ·simp [h'] at h0 h1; rw [h0] at h1; cases h1
    ·simp [Array.getElem?_eq_none h'] at h1
   have h2:=wpOp_putIf hoj (hfree j oj hoj hji hjun hnot) (fun cs b=>hsel i oi cs b hi) (fun cs b=>hsel j oj cs b hoj) hQ hy h1
   have hfree':∀k ok,ops[k]? =some ok→k≠i→(listed.setIfInBounds j true).getD k true=false→
     (∀e∈ok.after,Region.binds md e=true→e.on≠i)→oi.apart ops ok=true:=fun k ok hk hki hun hno=>by
    refine hfree k ok hk hki ?_ hno
    by_cases hjk:j=k
    ·subst hjk; exact hjun
    ·rw [getD_set_ne true hjk] at hun; exact hun
   refine wpOp_mono (fun a' w' h3=>⟨h3.2.1,ih (listed.setIfInBounds j true) a' w' hfree' (ready_mono hr (Ne.symm hji)) h3.1 (hS.trans h3.2.1) ?_⟩) h2
   rw [Array.setIfInBounds_comm _ _ hji]
   exact h3.2.2
def stillOp:Op→Bool
 | .move _ | .assign _ | .pick .. | .load .. | .binOp .. | .unOp .. | .convert .. | .fieldAddr .. | .field .. | .indexAddr .. | .index .. | .extract .. | .slice .. | .build .. =>true
 | .call c=>match c.callee with | .builtin b=>(match b with | .len | .cap | .min | .max=>true | _=>false) | _=>false
 | _=>false
theorem run_val {α:Type} {s:Sem α} {g:α→Value} {w w':World} {n:Next} (h:(do let x ←s; pure (Next.value (g x)):Sem Next).run P w= .ok n w'):∃v,n= .value v:=by
 simp only [Sem.run_bind,Sem.run_pure] at h
 cases hs:s.run P w with
 | ok v w1=>rw [hs] at h; simp at h; exact ⟨g v,h.1.symm⟩
 | halt x w1=>rw [hs] at h; simp at h
theorem still_value {o:Oper} (ho:stillOp o.op=true) {ρ:Operand→Value} {w w':World} {n:Next} (h:(execOp ρ o).run P w= .ok n w'):∃v,n= .value v:=by
 unfold execOp at h
 cases hop:o.op <;> rw [hop] at h ho <;> simp only [stillOp,Bool.false_eq_true] at ho
 case call c=>
  obtain ⟨callee,args,argTypes⟩:=c
  cases callee with
  | builtin b=>
   cases b <;> simp only [Bool.false_eq_true] at ho
   all_goals
    simp only [resolve,invoke,builtin,Sem.run_bind,Sem.run_pure,Result.andThen_ok] at h
    exact run_val (P:=P) (g:=id) (by simpa only [Sem.run_bind,Sem.run_pure,id] using h)
  | invoke r m=>simp only [Bool.false_eq_true] at ho
  | value f=>simp only [Bool.false_eq_true] at ho
 case pick=>exact run_val h
 all_goals first
  | exact run_val (g:=id) h
  | (simp only [Sem.run_pure,Result.ok.injEq] at h; exact ⟨_,h.1.symm⟩)
end
abbrev Grow (w:World):World→Prop:=fun w'=>∃x,w'=later w x
theorem yields_of_quiet {P:Program} {ops:Array Oper} {o:Oper} (ho:stillOp o.op=true) {a:Act} {w:World} {v:Value} (hw:Region.wanted o (yielded ops a.tmps)=true)
  (h:∀w',Grow w w'→o.quietAt P a (Grow w) w' v):YieldsIf P ops (Ext w) o v a:=by
 refine .inl ⟨hw,fun w' hx=> ?_⟩
 have h1:=h w' ⟨w',(later_of hx).symm⟩
 unfold Oper.quietAt at h1
 cases hr:(execOp a.eval o).run P w' with
 | halt x w1=>rw [hr] at h1; simp [Oper.quietUpon] at h1
 | ok n w1=>
  obtain ⟨u,rfl⟩:=still_value ho hr
  rw [hr] at h1
  simp only [Oper.quietUpon] at h1
  rw [h1.1,h1.2]
def nthO:List Oper→Nat→Oper
 | [],_=>default
 | o::_,0=>o
 | _::l,n+1=>nthO l n
theorem nthO_some {l:List Oper} {i:Nat} (h:i<l.length):l[i]? =some (nthO l i):=by
 induction l generalizing i with
 | nil=>simp at h
 | cons o l ih=>
  cases i with
  | zero=>rfl
  | succ i=>simp only [List.getElem?_cons_succ,nthO]; exact ih (by simpa using h)
def pickL (l:List Oper):List Nat→List Oper
 | []=>[]
 | i::is=>nthO l i::pickL l is
def goStill (md:Region.Mode) (l:List Oper):Array Bool→List Nat→Option (Array Bool)
 | listed,[]=>some listed
 | listed,i::is=>if decide (i<l.length)&&stillOp (nthO l i).op&&Region.free md l.toArray listed i&&(Region.ready md l.toArray listed).contains i then goStill md l (listed.setIfInBounds i true) is else none
theorem wpAnyE_still {P:Program} {md:Region.Mode} {l:List Oper} {Q:Exit→Act→World→Prop} {w:World} (hs:Region.noSelect l.toArray=true) (hQ:∀c a w d v,Q (.panic c) (a.put d v) w→Q (.panic c) a w) {fuel:Nat} {listed':Array Bool} {K:Act→Prop}
  (hK:∀a,K a→wpAnyE P md l.toArray Q fuel listed' a w):∀(is:List Nat) (listed:Array Bool) (a:Act),goStill md l listed is=some listed'→wpQuiet P l.toArray (Grow w) K (pickL l is) a→
   wpAnyE P md l.toArray Q (fuel+is.length) listed a w:=by
 intro is
 induction is with
 | nil=>
  intro listed a hg h
  simp only [goStill,Option.some.injEq] at hg
  subst hg
  exact hK a h
 | cons i is ih=>
  intro listed a hg h
  unfold goStill at hg
  split at hg
  ·rename_i hc
   simp only [Bool.and_eq_true,decide_eq_true_eq] at hc
   obtain ⟨⟨⟨h1,h2⟩,h3⟩,h4⟩:=hc
   have hi:l.toArray[i]? =some (nthO l i):=by simpa using nthO_some h1
   simp only [pickL,wpQuiet] at h
   by_cases hw:Region.wanted (nthO l i) (yielded l.toArray a.tmps)=true
   ·rw [if_pos hw] at h
    obtain ⟨v,hv,hn⟩:=h
    exact wpAnyE_first hi (Region.noSelect_spec hs) (fun c a w=>hQ c a w _ _) (fuel+is.length) listed a w (Region.free_spec hi h3) (by simpa using h4) (yields_of_quiet h2 hw hv) (Ext.refl w) (ih _ _ hg hn)
   ·rw [if_neg hw] at h
    exact wpAnyE_first hi (Region.noSelect_spec hs) (fun c a w=>hQ c a w _ _) (fuel+is.length) listed a w (Region.free_spec hi h3) (by simpa using h4) (.inr ⟨by simpa using hw,rfl⟩) (Ext.refl w) (ih _ _ hg h)
  ·cases hg
def okPh (md:Region.Mode) (l:List Oper):Array Bool→List (List Nat×Nat)→List Nat→Bool
 | listed,[],last=>match goStill md l listed last with
  | some listed'=>(Region.ready md l.toArray listed').isEmpty
  | none=>false
 | listed,(is,j)::r,last=>match goStill md l listed is with
  | some listed'=>decide (j<l.length)&&(Region.ready md l.toArray listed'==[j])&&okPh md l (listed'.setIfInBounds j true) r last
  | none=>false
def phLen:List (List Nat×Nat)→List Nat→Nat
 | [],last=>last.length
 | (is,_)::r,last=>phLen r last+1+is.length
def wpPh (P:Program) (l:List Oper) (Q:Exit→Act→World→Prop):List (List Nat×Nat)→List Nat→Act→World→Prop
 | [],last,a,w=>wpQuiet P l.toArray (fun w'=>∃x,w'=later w x) (fun a'=>Q .normal a' w) (pickL l last) a
 | (is,j)::r,last,a,w=>wpQuiet P l.toArray (fun w'=>∃x,w'=later w x) (fun a'=>wpList P l.toArray (Exit.then (fun a'' w''=>Ext w w''∧wpPh P l Q r last a'' w'') Q) [nthO l j] a' w) (pickL l is) a
theorem wp_then {P:Program} {o:Oper} {a:Act} {w:World} {K:Act→World→Prop} {Q:Exit→Act→World→Prop} (h:o.wp P a w K (Exit.then K Q)):o.wp P a w K Q:=by
 unfold Oper.wp at *
 generalize (execOp a.eval o).run P w=r at *
 cases r with
 | ok n w'=>
  cases n <;> simp only [Oper.upon] at h ⊢ <;> try exact h
 | halt x w'=>cases x <;> simp only [Oper.upon] at h ⊢; exact h
theorem wpOp_one {P:Program} {l:List Oper} {Q:Exit→Act→World→Prop} {j:Nat} {K:Act→World→Prop} {a:Act} {w:World} (hj:j<l.length) (h:wpList P l.toArray (Exit.then K Q) [nthO l j] a w):wpOp P l.toArray Q j K a w:=by
 have hi:l.toArray[j]? =some (nthO l j):=by simpa using nthO_some hj
 unfold wpOp
 simp only [hi]
 unfold wpList at h
 split
 ·rename_i hw
  rw [if_pos hw] at h
  rcases h with h | ⟨h1,h2⟩
  ·exact .inl (wp_then h)
  ·exact .inr ⟨h1,h2⟩
 ·rename_i hw
  rw [if_neg hw] at h
  exact h
theorem wpAnyE_ph {P:Program} {md:Region.Mode} {l:List Oper} {Q:Exit→Act→World→Prop} (hs:Region.noSelect l.toArray=true) (hQ:∀c a w d v,Q (.panic c) (a.put d v) w→Q (.panic c) a w) (last:List Nat):
  ∀(ph:List (List Nat×Nat)) (listed:Array Bool) (a:Act) (w:World),okPh md l listed ph last=true→wpPh P l Q ph last a w→wpAnyE P md l.toArray Q (phLen ph last) listed a w:=by
 intro ph
 induction ph with
 | nil=>
  intro listed a w ho h
  unfold okPh at ho
  cases hg:goStill md l listed last with
  | none=>rw [hg] at ho; simp at ho
  | some listed'=>
   rw [hg] at ho
   have he:Region.ready md l.toArray listed'=[]:=by simpa using ho
   have:=wpAnyE_still (fuel:=0) hs hQ (K:=fun a'=>Q .normal a' w) (fun a' ha=>⟨he,ha⟩) last listed a hg h
   simpa [phLen] using this
 | cons p r ih=>
  obtain ⟨is,j⟩:=p
  intro listed a w ho h
  unfold okPh at ho
  cases hg:goStill md l listed is with
  | none=>rw [hg] at ho; simp at ho
  | some listed'=>
   rw [hg] at ho
   simp only [Bool.and_eq_true,decide_eq_true_eq,beq_iff_eq] at ho
   obtain ⟨⟨hj,hr⟩,ho⟩:=ho
   refine wpAnyE_still (fuel:=phLen r last+1) hs hQ (fun a' ha=> ?_) is listed a hg h
   refine ⟨fun h0=>(by rw [hr] at h0; cases h0),fun i hi=> ?_⟩
   rw [hr] at hi
   obtain rfl:i=j:=by simpa using hi
   exact wpOp_mono (fun a'' w'' h'=>⟨h'.1,ih _ a'' w'' ho h'.2⟩) (wpOp_one hj ha)
theorem wp_region_ph {P:Program} {id:Nat} {Q:Exit→Act→World→Prop} {a:Act} {w:World} {l:List Oper} (ph:List (List Nat×Nat)) (last:List Nat) (hm:P.follows .mixedOrders=true)
  (hc:(Region.noSelect l.toArray&&decide (phLen ph last=l.length)&&okPh .any l (Array.replicate l.length false) ph last)=true) (hQ:∀c a w d v,Q (.panic c) (a.put d v) w→Q (.panic c) a w)
  (h:wpPh P l Q ph last a w.drew):(Code.region id l.toArray true).wp P Q a w:=by
 simp only [Bool.and_eq_true,decide_eq_true_eq] at hc
 obtain ⟨⟨hs,hl⟩,ho⟩:=hc
 refine wp_region_any hm (wpAny_of_E _ _ _ _ ?_)
 have:=wpAnyE_ph (P:=P) (md:= .any) hs hQ last ph _ a w.drew ho h
 rw [hl] at this
 simpa using this
theorem still_of_quiet {P:Program} {ops:Array Oper} {W:World} {Q:Act→Prop}:∀(l:List Oper) (a:Act),wpQuiet P ops (fun w'=>w'=W) Q l a→wpStill P ops W Q l a:=by
 intro l
 induction l with
 | nil=>intro a h; exact h
 | cons o rest ih=>
  intro a h
  unfold wpQuiet at h
  unfold wpStill
  split
  ·rename_i hw
   rw [if_pos hw] at h
   obtain ⟨v,h1,h2⟩:=h
   have h3:=h1 W rfl
   unfold Oper.quietAt at h3
   unfold Oper.still
   generalize (execOp a.eval o).run P W=r at *
   cases r with
   | ok n w'=>
    cases n <;> simp only [Oper.quietUpon] at h3 <;> simp only [Oper.stillUpon]
    case value u=>exact ⟨h3.1,by rw [h3.2]; exact ih _ h2⟩
    case skip=>exact ⟨h3.1,by rw [←h3.2]; exact ih _ h2⟩
    case enter f args=>exact ⟨h3.1,v,h3.2,ih _ h2⟩
   | halt x w'=>simp only [Oper.quietUpon] at h3
  ·rename_i hw
   rw [if_neg hw] at h
   exact ih _ h
theorem wp_region_tail {P:Program} {id:Nat} {Q:Exit→Act→World→Prop} {a:Act} {w:World} {l:List Oper} (n:Nat) (hm:P.follows .mixedOrders=true) (hB:Region.lexTailB .any l.toArray n=true)
  (h:wpQuiet P l.toArray (fun w'=>w'=w.drew) (fun a'=>wpList P l.toArray Q (l.drop n) a' w.drew) (l.take n) a):(Code.region id l.toArray true).wp P Q a w:=
 wp_region_still_tail n hm hB (still_of_quiet _ _ h)
end Go.Proofs.YtinindjjapblcaaGreatDoor
namespace Go.Proofs.YtinindjjapblcaaGreatDoor
open Go.RowKit
def byteC (z:Int):List Value:=[.int .u8 z]
def SrcAt (w:World) (a:Nat) (A:Option Addr) (n c:Nat):Prop:=
 ∃at_ seed:Int,Row w a 124 [.slice A n c,.int .i64 at_,.int .i64 seed]∧0≤at_∧at_≤n∧0≤seed∧seed<2147483647
def Drawn (m:Int) (a:Nat) (A:Option Addr) (n c:Nat) (w:World) (e:Ending) (w':World):Prop:=
 ∃x:Int,e= .returned (.int .i64 x)∧0≤x∧(x<m∨x=0)∧SrcAt w' a A n c∧Only a w w'
theorem Drawn.of {m x:Int} {a:Nat} {A:Option Addr} {n c:Nat} {w w':World} (h0:0≤x) (h1:x<m∨x=0) (hs:SrcAt w' a A n c) (hk:Only a w w'):Drawn m a A n c w (.returned (.int .i64 x)) w':=⟨x,rfl,h0,h1,hs,hk⟩
set_option maxHeartbeats 2000000 in
theorem c_l01Next (a:Nat) (m:Int) (A:Option Addr) (n c:Nat) (bs:List Int) (w0 w:World) (hbs:SliceOf w0 1 byteC A n c bs) (hbd:∀z∈bs,0≤z∧z≤255) (hx0:Ext w0 w) (ha:w0.heap.size≤a) (hsrc:SrcAt w a A n c) (hn:n≤1048576) (hm1: -9000000000000000000≤m) (hm2:m≤9000000000000000000):
  Calls Tryz.prog 60 #[.pointer (some ⟨a,0,none⟩),.int .i64 m] w (Drawn m a A n c w):=by
 by_cases hm:m≤1
 ·go_enter Tryz.func60,Tryz.ntmps60
  go_wp2_with fail
  go_ret
  exact Drawn.of (by omega) (.inr rfl) hsrc (Only.refl _ _)
 obtain ⟨t,seed,hrow,ht0,ht1,hs0,hs1⟩:=hsrc
 obtain ⟨t,rfl⟩:=Int.eq_ofNat_of_zero_le ht0
 have c0:=hrow.cell 0
 have c1:=hrow.cell 1
 have c2:=hrow.cell 2
 simp at c0 c1 c2
 have f1:=hrow.frozen 1
 have f2:=hrow.frozen 2
 have hal:=hrow.lt
 have hsd:0≤(seed*48271+7) % 2147483647∧(seed*48271+7) % 2147483647<2147483647:=by omega
 have hrow2:=hrow.set_ 2 (.int .i64 ((seed*48271+7) % 2147483647))
 simp at hrow2
 have hmod:∀x:Int,0≤x→0≤x % m∧x % m<m:=fun x _=>⟨Int.emod_nonneg _ (by omega),Int.emod_lt_of_pos _ (by omega)⟩
 have HM:=hide hmod
 clear hmod
 by_cases hlt:t<n
 ·obtain ⟨b,off,z,rfl,hb,hzk,hc⟩:=hbs.get hlt
  have hz:w.cell? ⟨b,off+t,none⟩=some (.int .u8 z):=by
   rw [hx0.cell _ _ hb]; simpa using hc 0 _ rfl
  obtain ⟨hz0,hz1⟩:=hbd z (List.mem_of_getElem? hzk)
  have hba:b≠a:=by omega
  have hbl:b<w.heap.size:=by have:=hx0.size; omega
  have e1:IntKind.i64.wrap z=z:=IntWalk.i64_in _ (by omega)
  have hlt':decide (t<n)=true:=by simpa using hlt
  clear hc hzk hbd
  have hrow3:=hrow2.set_ 1 (.int .i64 ((t:Int)+1))
  simp at hrow3
  have e2:IntKind.i64.wrap ((seed*48271+7) % 2147483647/19+z)=(seed*48271+7) % 2147483647/19+z:=IntWalk.i64_in _ (by omega)
  have hfin:∀(x:Int) (k k':Nat),0≤x→Drawn m a (some ⟨b,off,none⟩) n c w (.returned (.int .i64 (x % m))) ((((w.setCell ⟨a,2,none⟩ (.int .i64 ((seed*48271+7) % 2147483647))).drewN k').setCell ⟨a,1,none⟩ (.int .i64 ((t:Int)+1))).drewN k):=by
   intro x k k' hx
   obtain ⟨r0,r1⟩:=HM.out x hx
   exact Drawn.of r0 (.inl r1) ⟨_,_,hrow3,by omega,by omega,hsd.1,hsd.2⟩ (((((Only.refl a w).setCell (p:=⟨a,2,none⟩) rfl _).drewN _).setCell (p:=⟨a,1,none⟩) rfl _).drewN _)
  have hfin0:∀(x:Int) (k':Nat),0≤x→Drawn m a (some ⟨b,off,none⟩) n c w (.returned (.int .i64 (x % m))) (((w.setCell ⟨a,2,none⟩ (.int .i64 ((seed*48271+7) % 2147483647))).drewN k').setCell ⟨a,1,none⟩ (.int .i64 ((t:Int)+1))):=fun x k' hx=>hfin x 0 k' hx
  have HF0:=hide hfin0
  clear hfin0
  have HF:=hide hfin
  clear hfin
  have hw:(m≤256∧(((t:Int)+1) % 2==0)=true)∨decide (m≤256)=false∨(m≤256∧(((t:Int)+1) % 2==0)=false):=by
   by_cases h:m≤256
   ·cases h2:(((t:Int)+1) % 2==0)
    ·exact .inr (.inr ⟨h,rfl⟩)
    ·exact .inl ⟨h,rfl⟩
   ·right; left; simpa using h
  rcases hw with ⟨g1,g2⟩ | g1 | ⟨g1,g2⟩
  ·have e3:IntKind.i64.wrap ((t:Int)+1-1)=(t:Int)+1-1:=IntWalk.i64_in _ (by omega)
   have e4:(0:Int)≤(t:Int)+1-1:=by omega
   have e5:((t:Int)+1-1).toNat=t:=by omega
   go_enter Tryz.func60,Tryz.ntmps60
   go_wp2_with fail
   go_quiet (fail)
   go_wp2_with fail
   go_quiet (fail)
   go_wp2_with fail
   go_quiet (fail)
   go_wp2_with fail
   go_ret
   first | exact HF.out z _ _ hz0 | exact HF0.out _ _ (by omega)
  ·go_enter Tryz.func60,Tryz.ntmps60
   go_wp2_with fail
   go_quiet (fail)
   go_wp2_with fail
   go_quiet (fail)
   go_wp2_with fail
   go_ret
   first | exact HF.out z _ _ hz0 | exact HF0.out _ _ (by omega)
  ·go_enter Tryz.func60,Tryz.ntmps60
   go_wp2_with fail
   go_quiet (fail)
   go_wp2_with fail
   go_quiet (fail)
   go_wp2_with fail
   go_ret
   first | exact HF.out z _ _ hz0 | exact HF0.out _ _ (by omega)
 ·have hlt':decide (t<n)=false:=by simpa using hlt
  go_enter Tryz.func60,Tryz.ntmps60
  go_wp2_with fail
  go_quiet (fail)
  go_wp2_with fail
  go_ret
  obtain ⟨r0,r1⟩:=HM.out ((seed*48271+7) % 2147483647/19) (by omega)
  exact Drawn.of r0 (.inl r1) ⟨_,_,hrow2,by omega,by omega,hsd.1,hsd.2⟩ (((Only.refl a w).setCell (p:=⟨a,2,none⟩) rfl _).drewN _)
end Go.Proofs.YtinindjjapblcaaGreatDoor
