/-
  Clones of slices and of networks, of the program and of the reference.
-/
import Derived.Test.YtinindjjapblcaaGreatDoorWa08
import Derived.Test.YtinindjjapblcaaGreatDoorWa03
import Derived.Test.YtinindjjapblcaaGreatDoorWa01
import Derived.Test.YtinindjjapblcaaGreatDoorWa09
import Derived.Test.YtinindjjapblcaaGreatDoorWa00
import Derived.OpenShut
import Derived.ProofKit
import Derived.ShutString
import Derived.ChangeOld
import Derived.Lib.SmallJoins
namespace Go.Proofs.YtinindjjapblcaaGreatDoor
open Go.RowKit
def RetA {α:Type} (t:TypeId) (f:α→List Value) (L:List α) (w:World) (e:Ending) (w':World):Prop:=
 ∃A n c,e= .returned (.slice A n c)∧OwnA w' t f A n c L∧(∀b,blkOf A n=some b→w.heap.size≤b)∧Ext w w'
theorem OwnL.toA {α:Type} {w:World} {base:Nat} {t:TypeId} {size:Nat} {f:α→List Value} {v:Value} {L:List α} (h:OwnL w base t size f v L) (hf:∀x,(f x).length=size) (hs:0<size):
  ∃A c,v= .slice A L.length c∧OwnA w t f A L.length c L∧∀b,blkOf A L.length=some b→base≤b:=by
 obtain ⟨A,c,g,hv,hg,hn,hc,ho⟩:=h.own hf hs
 exact ⟨A,c,hv,ho.toA hn hc,fun b hb=>by have:=(ho.blk hb).1; omega⟩
def RetL {α:Type} (t:TypeId) (size:Nat) (f:α→List Value) (L:List α) (w:World) (e:Ending) (w':World):Prop:=∃v,e= .returned v∧OwnL w' w.heap.size t size f v L∧Ext w w'
theorem RetL.toA {α:Type} {t:TypeId} {size:Nat} {f:α→List Value} {L:List α} {w w':World} {e:Ending} (h:RetL t size f L w e w') (hf:∀x,(f x).length=size) (hs:0<size):RetA t f L w e w':=by
 obtain ⟨v,rfl,ho,hx⟩:=h
 obtain ⟨A',c',hv,ho,hb⟩:=ho.toA hf hs
 exact ⟨A',_,c',by rw [hv],ho,hb,hx⟩
theorem node_one (y:Node):∀u∈y.cells,u.oneCell'=true:=by intro u hu; simp [Node.cells] at hu; rcases hu with rfl | rfl | rfl <;> rfl
theorem pipe_one (y:Pipe):∀u∈y.cells,u.oneCell'=true:=by intro u hu; simp [Pipe.cells] at hu; rcases hu with rfl | rfl | rfl | rfl | rfl <;> rfl
theorem contract_one (y:Contract):∀u∈y.cells,u.oneCell'=true:=by intro u hu; simp [Contract.cells] at hu; rcases hu with rfl | rfl | rfl | rfl | rfl | rfl | rfl | rfl <;> rfl
theorem nomination_one (y:Nomination):∀u∈y.cells,u.oneCell'=true:=by intro u hu; simp [Nomination.cells] at hu; rcases hu with rfl | rfl | rfl | rfl <;> rfl
theorem reading_one (y:Reading):∀u∈y.cells,u.oneCell'=true:=by intro u hu; simp [Reading.cells] at hu; rcases hu with rfl | rfl <;> rfl
set_option maxRecDepth 8000 in
set_option maxHeartbeats 1000000 in
theorem l_cloneNode (A:Option Addr) (n c:Nat) (xs:List Node) (w:World) (hs:SliceOf w 3 Node.cells A n c xs) (hn:n≤1048576):
  Calls Tryz.prog 135 #[.slice A n c] w (RetL 147 3 Node.cells xs w):=by
 cases A with
 | none=>
  obtain ⟨rfl,rfl⟩:=hs.none_nil
  have hnil:∀W,(binOp .eql 24 (.slice none 0 c) (.slice none 0 0)).run Tryz.prog W= .ok (.bool true) W:=fun W=>run_eql_nil_slice W _ _ none 0 c 0 0 Tryz.underlying24
  go_enter Tryz.func135,Tryz.ntmps135
  go_wp2_with fail
  go_ret
  exact ⟨_,rfl,OwnL.nil_ _ _ _ _ _,Ext.refl _⟩
 | some ad=>
  have hnil:∀W,(binOp .eql 24 (.slice (some ad) n c) (.slice none 0 0)).run Tryz.prog W= .ok (.bool false) W:=fun W=>run_eql_nil_slice W _ _ (some ad) n c 0 0 Tryz.underlying24
  go_enter Tryz.func135,Tryz.ntmps135
  go_wp2_with (at_builtin; go_must (refine wpList_append_slice rfl _ _ 24 rfl (w.heap.size) 147 _ 3 32 Tryz.underlying24 node_info rfl (by decide) Node.cells node_len node_one _ [] rfl (OwnL.empty w _ _ _ _ (Nat.le_refl _)) (some ad) n c xs rfl (hs.ext (Ext.alloc _ _)) (by first | omega | (simp; omega)) (by omega) (by first | exact Nat.le_refl _ | omega | (simp; done) | (simp; omega)) ?_))
  intro v w1 hown hext
  have hx:=hext w (Nat.le_refl _) (Ext.alloc _ _)
  go_wp2_with fail
  go_ret
  exact ⟨v,rfl,hown,hx⟩
theorem c_cloneNode (A:Option Addr) (n c:Nat) (xs:List Node) (w:World) (hs:SliceOf w 3 Node.cells A n c xs) (hn:n≤1048576):
  Calls Tryz.prog 135 #[.slice A n c] w (RetA 147 Node.cells xs w):=
 (l_cloneNode A n c xs w hs hn).mono fun _ _ h=>h.toA node_len (by decide)
set_option maxRecDepth 8000 in
set_option maxHeartbeats 1000000 in
theorem l_clonePipe (A:Option Addr) (n c:Nat) (xs:List Pipe) (w:World) (hs:SliceOf w 5 Pipe.cells A n c xs) (hn:n≤1048576):
  Calls Tryz.prog 136 #[.slice A n c] w (RetL 149 5 Pipe.cells xs w):=by
 cases A with
 | none=>
  obtain ⟨rfl,rfl⟩:=hs.none_nil
  have hnil:∀W,(binOp .eql 25 (.slice none 0 c) (.slice none 0 0)).run Tryz.prog W= .ok (.bool true) W:=fun W=>run_eql_nil_slice W _ _ none 0 c 0 0 Tryz.underlying25
  go_enter Tryz.func136,Tryz.ntmps136
  go_wp2_with fail
  go_ret
  exact ⟨_,rfl,OwnL.nil_ _ _ _ _ _,Ext.refl _⟩
 | some ad=>
  have hnil:∀W,(binOp .eql 25 (.slice (some ad) n c) (.slice none 0 0)).run Tryz.prog W= .ok (.bool false) W:=fun W=>run_eql_nil_slice W _ _ (some ad) n c 0 0 Tryz.underlying25
  go_enter Tryz.func136,Tryz.ntmps136
  go_wp2_with (at_builtin; go_must (refine wpList_append_slice rfl _ _ 25 rfl (w.heap.size) 149 _ 5 40 Tryz.underlying25 pipe_info rfl (by decide) Pipe.cells pipe_len pipe_one _ [] rfl (OwnL.empty w _ _ _ _ (Nat.le_refl _)) (some ad) n c xs rfl (hs.ext (Ext.alloc _ _)) (by first | omega | (simp; omega)) (by omega) (by first | exact Nat.le_refl _ | omega | (simp; done) | (simp; omega)) ?_))
  intro v w1 hown hext
  have hx:=hext w (Nat.le_refl _) (Ext.alloc _ _)
  go_wp2_with fail
  go_ret
  exact ⟨v,rfl,hown,hx⟩
theorem c_clonePipe (A:Option Addr) (n c:Nat) (xs:List Pipe) (w:World) (hs:SliceOf w 5 Pipe.cells A n c xs) (hn:n≤1048576):
  Calls Tryz.prog 136 #[.slice A n c] w (RetA 149 Pipe.cells xs w):=
 (l_clonePipe A n c xs w hs hn).mono fun _ _ h=>h.toA pipe_len (by decide)
set_option maxRecDepth 8000 in
set_option maxHeartbeats 1000000 in
theorem l_cloneContract (A:Option Addr) (n c:Nat) (xs:List Contract) (w:World) (hs:SliceOf w 8 Contract.cells A n c xs) (hn:n≤1048576):
  Calls Tryz.prog 92 #[.slice A n c] w (RetL 98 8 Contract.cells xs w):=by
 cases A with
 | none=>
  obtain ⟨rfl,rfl⟩:=hs.none_nil
  have hnil:∀W,(binOp .eql 28 (.slice none 0 c) (.slice none 0 0)).run Tryz.prog W= .ok (.bool true) W:=fun W=>run_eql_nil_slice W _ _ none 0 c 0 0 Tryz.underlying28
  go_enter Tryz.func92,Tryz.ntmps92
  go_wp2_with fail
  go_ret
  exact ⟨_,rfl,OwnL.nil_ _ _ _ _ _,Ext.refl _⟩
 | some ad=>
  have hnil:∀W,(binOp .eql 28 (.slice (some ad) n c) (.slice none 0 0)).run Tryz.prog W= .ok (.bool false) W:=fun W=>run_eql_nil_slice W _ _ (some ad) n c 0 0 Tryz.underlying28
  go_enter Tryz.func92,Tryz.ntmps92
  go_wp2_with (at_builtin; go_must (refine wpList_append_slice rfl _ _ 28 rfl (w.heap.size) 98 _ 8 64 Tryz.underlying28 contract_info rfl (by decide) Contract.cells contract_len contract_one _ [] rfl (OwnL.empty w _ _ _ _ (Nat.le_refl _)) (some ad) n c xs rfl (hs.ext (Ext.alloc _ _)) (by first | omega | (simp; omega)) (by omega) (by first | exact Nat.le_refl _ | omega | (simp; done) | (simp; omega)) ?_))
  intro v w1 hown hext
  have hx:=hext w (Nat.le_refl _) (Ext.alloc _ _)
  go_wp2_with fail
  go_ret
  exact ⟨v,rfl,hown,hx⟩
theorem c_cloneContract (A:Option Addr) (n c:Nat) (xs:List Contract) (w:World) (hs:SliceOf w 8 Contract.cells A n c xs) (hn:n≤1048576):
  Calls Tryz.prog 92 #[.slice A n c] w (RetA 98 Contract.cells xs w):=
 (l_cloneContract A n c xs w hs hn).mono fun _ _ h=>h.toA contract_len (by decide)
set_option maxRecDepth 8000 in
set_option maxHeartbeats 1000000 in
theorem l_cloneNomination (A:Option Addr) (n c:Nat) (xs:List Nomination) (w:World) (hs:SliceOf w 4 Nomination.cells A n c xs) (hn:n≤1048576):
  Calls Tryz.prog 137 #[.slice A n c] w (RetL 79 4 Nomination.cells xs w):=by
 cases A with
 | none=>
  obtain ⟨rfl,rfl⟩:=hs.none_nil
  have hnil:∀W,(binOp .eql 29 (.slice none 0 c) (.slice none 0 0)).run Tryz.prog W= .ok (.bool true) W:=fun W=>run_eql_nil_slice W _ _ none 0 c 0 0 Tryz.underlying29
  go_enter Tryz.func137,Tryz.ntmps137
  go_wp2_with fail
  go_ret
  exact ⟨_,rfl,OwnL.nil_ _ _ _ _ _,Ext.refl _⟩
 | some ad=>
  have hnil:∀W,(binOp .eql 29 (.slice (some ad) n c) (.slice none 0 0)).run Tryz.prog W= .ok (.bool false) W:=fun W=>run_eql_nil_slice W _ _ (some ad) n c 0 0 Tryz.underlying29
  go_enter Tryz.func137,Tryz.ntmps137
  go_wp2_with (at_builtin; go_must (refine wpList_append_slice rfl _ _ 29 rfl (w.heap.size) 79 _ 4 32 Tryz.underlying29 nomination_info rfl (by decide) Nomination.cells nomination_len nomination_one _ [] rfl (OwnL.empty w _ _ _ _ (Nat.le_refl _)) (some ad) n c xs rfl (hs.ext (Ext.alloc _ _)) (by first | omega | (simp; omega)) (by omega) (by first | exact Nat.le_refl _ | omega | (simp; done) | (simp; omega)) ?_))
  intro v w1 hown hext
  have hx:=hext w (Nat.le_refl _) (Ext.alloc _ _)
  go_wp2_with fail
  go_ret
  exact ⟨v,rfl,hown,hx⟩
theorem c_cloneNomination (A:Option Addr) (n c:Nat) (xs:List Nomination) (w:World) (hs:SliceOf w 4 Nomination.cells A n c xs) (hn:n≤1048576):
  Calls Tryz.prog 137 #[.slice A n c] w (RetA 79 Nomination.cells xs w):=
 (l_cloneNomination A n c xs w hs hn).mono fun _ _ h=>h.toA nomination_len (by decide)
set_option maxRecDepth 8000 in
set_option maxHeartbeats 1000000 in
theorem l_cloneReading (A:Option Addr) (n c:Nat) (xs:List Reading) (w:World) (hs:SliceOf w 2 Reading.cells A n c xs) (hn:n≤1048576):
  Calls Tryz.prog 138 #[.slice A n c] w (RetL 84 2 Reading.cells xs w):=by
 cases A with
 | none=>
  obtain ⟨rfl,rfl⟩:=hs.none_nil
  have hnil:∀W,(binOp .eql 81 (.slice none 0 c) (.slice none 0 0)).run Tryz.prog W= .ok (.bool true) W:=fun W=>run_eql_nil_slice W _ _ none 0 c 0 0 Tryz.underlying81
  go_enter Tryz.func138,Tryz.ntmps138
  go_wp2_with fail
  go_ret
  exact ⟨_,rfl,OwnL.nil_ _ _ _ _ _,Ext.refl _⟩
 | some ad=>
  have hnil:∀W,(binOp .eql 81 (.slice (some ad) n c) (.slice none 0 0)).run Tryz.prog W= .ok (.bool false) W:=fun W=>run_eql_nil_slice W _ _ (some ad) n c 0 0 Tryz.underlying81
  go_enter Tryz.func138,Tryz.ntmps138
  go_wp2_with (at_builtin; go_must (refine wpList_append_slice rfl _ _ 81 rfl (w.heap.size) 84 _ 2 16 Tryz.underlying81 reading_info rfl (by decide) Reading.cells reading_len reading_one _ [] rfl (OwnL.empty w _ _ _ _ (Nat.le_refl _)) (some ad) n c xs rfl (hs.ext (Ext.alloc _ _)) (by first | omega | (simp; omega)) (by omega) (by first | exact Nat.le_refl _ | omega | (simp; done) | (simp; omega)) ?_))
  intro v w1 hown hext
  have hx:=hext w (Nat.le_refl _) (Ext.alloc _ _)
  go_wp2_with fail
  go_ret
  exact ⟨v,rfl,hown,hx⟩
def RetNet (ns:List Node) (ps:List Pipe) (w:World) (e:Ending) (w':World):Prop:=
 ∃A1 n1 c1 A2 n2 c2,e= .returned (.agg #[.slice A1 n1 c1,.slice A2 n2 c2])∧OwnA w' 147 Node.cells A1 n1 c1 ns∧OwnA w' 149 Pipe.cells A2 n2 c2 ps∧
  (∀b,blkOf A1 n1=some b→w.heap.size≤b)∧(∀b,blkOf A2 n2=some b→w.heap.size≤b)∧(∀b,blkOf A1 n1=some b→blkOf A2 n2≠some b)∧Ext w w'
theorem OwnA.far {α:Type} {w:World} {t:TypeId} {f:α→List Value} {A:Option Addr} {n c:Nat} {xs:List α} (h:OwnA w t f A n c xs) {p:Addr} (hp:∀b,blkOf A n=some b→b≠p.block) (u:Value):OwnA (w.setCell p u) t f A n c xs:=
 ⟨h.1,h.2.1,h.2.2.1,fun hn=>let ⟨g,hA,r,hr⟩:=h.2.2.2 hn; ⟨g,hA,r,hr.far (hp g (by unfold blkOf; rw [if_neg (by omega),hA]; rfl)) u⟩⟩
set_option maxHeartbeats 1000000 in
theorem c_cloneNetwork (A1 A2:Option Addr) (n1 c1 n2 c2:Nat) (ns:List Node) (ps:List Pipe) (w:World) (h1:SliceOf w 3 Node.cells A1 n1 c1 ns) (h2:SliceOf w 5 Pipe.cells A2 n2 c2 ps) (m1:n1≤1048576) (m2:n2≤1048576):
  Calls Tryz.prog 91 #[.agg #[.slice A1 n1 c1,.slice A2 n2 c2]] w (RetNet ns ps w):=by
 have x0:Ext w ((w.alloc (.cells #[.slice A1 n1 c1,.slice A2 n2 c2] 27)).alloc (.cells #[.slice none 0 0,.slice none 0 0] 27)):=(Ext.alloc _ _).and_alloc _
 go_enter Tryz.func91,Tryz.ntmps91
 go_wp2_with fail
 refine wp_region_phC [(w.heap.size,0),(w.heap.size,1)] [([0,1,3,4],2),([],5),([6],7)] [] (by kernel_rfl) (by kernel_rfl) (by intro c a w d v h; cases d <;> exact h) ?_
 simp only [wpPhC,pickL,nthO]
 repeat (go_big_quiet_step (fail))
 refine wpQuiet_nil ?_
 go_wp2_with fail
 refine (c_cloneNode A1 n1 c1 ns _ (h1.ext x0.drew) m1).mono ?_
 rintro e w1 ⟨B1,k1,d1,rfl,o1,b1,hx1⟩
 have hz1:=hx1.size
 simp at hz1
 go_wp2_with fail
 refine ⟨SameC.of_ext ((Ext.refl _).drew.trans hx1) (by simp; omega),wpQuiet_nil ?_⟩
 go_wp2_with fail
 refine (c_clonePipe A2 n2 c2 ps _ (h2.ext (x0.drew.trans hx1)) m2).mono ?_
 rintro e w2 ⟨B2,k2,d2,rfl,o2,b2,hx2⟩
 have hz2:=hx2.size
 have hx12:=(Ext.refl ((w.alloc (.cells #[.slice A1 n1 c1,.slice A2 n2 c2] 27)).alloc (.cells #[.slice none 0 0,.slice none 0 0] 27))).drew.trans (hx1.trans hx2)
 have hcl:=hx12.cell
 have hfr:=hx12.frozen
 have hz3:w.heap.size<w2.heap.size:=by omega
 have hz4:w.heap.size+1<w2.heap.size:=by omega
 go_wp2_with fail
 refine ⟨SameC.of_ext hx12 (by simp; omega),?_⟩
 repeat (go_big_quiet_step (fail))
 refine wpQuiet_nil ?_
 go_wp2_with fail
 refine ⟨SameC.setCell (SameC.setCell (SameC.of_ext hx12 (by simp; omega)) (by simp) _) (by simp) _,wpQuiet_nil ?_⟩
 go_wp2
 have f1:∀b,blkOf B1 k1=some b→b≠w.heap.size+1:=fun b hb=>by have:=b1 b hb; simp at this; omega
 have f2:∀b,blkOf B2 k2=some b→b≠w.heap.size+1:=fun b hb=>by have:=b2 b hb; omega
 refine bodyPost_ret (v:= .agg #[.slice B1 k1 d1,.slice B2 k2 d2]) (by simp [results,Tryz.results91,go_sem,hcl]) rfl ⟨B1,k1,d1,B2,k2,d2,rfl,?_,?_,?_,?_,?_,?_⟩
 ·repeat (refine OwnA.far ?_ f1 _)
  exact o1.ext hx2
 ·repeat (refine OwnA.far ?_ f2 _)
  exact o2
 ·intro b hb; have:=b1 b hb; simp at this; omega
 ·intro b hb; have:=b2 b hb; omega
 ·intro b hb hb'
  have:=o1.lt hb
  have:=b2 b hb'
  omega
 ·repeat (refine Ext.setCell ?_ (by first | (simp; done) | (simp; omega) | omega) _)
  exact x0.trans hx12
def NetAt (ns:List Node) (ps:List Pipe) (w:World) (e:Ending) (w':World):Prop:=
 ∃A1 n1 c1 A2 n2 c2,e= .returned (.agg #[.slice A1 n1 c1,.slice A2 n2 c2])∧SliceOf w' 3 Node.cells A1 n1 c1 ns∧SliceOf w' 5 Pipe.cells A2 n2 c2 ps∧(∀b,blkOf A1 n1=some b→w.heap.size≤b)∧(∀b,blkOf A2 n2=some b→w.heap.size≤b)∧Ext w w'
theorem OwnL.blk_ne {α:Type} {w:World} {base:Nat} {e:TypeId} {size:Nat} {f:α→List Value} {v:Value} {L:List α} {g:Nat} {cs:List Value} {t:TypeId} (h:OwnL w base e size f v L) (hr:Row w g t cs) (ht:t≠e):∀k,v.ownBlock=some k→some g≠some k:=by
 intro k hk he
 injection he with he
 subst he
 rcases h.2 with ⟨rfl,_⟩ | ⟨k',cap,cur,rfl,hb,hh,_⟩
 ·simp [Value.ownBlock] at hk
 ·simp [Value.ownBlock] at hk
  subst hk
  unfold Row at hr
  rw [hh] at hr
  simp at hr
  exact ht hr.2.symm
theorem Only.of_grown {w w':World} {g:Nat} (h:w.grownBy w' (some g)):Only g w w':=h
theorem OwnL.far {α:Type} {w:World} {base:Nat} {e:TypeId} {size:Nat} {f:α→List Value} {v:Value} {L:List α} (h:OwnL w base e size f v L) {p:Addr} (hp:p.block<base) (u:Value):OwnL (w.setCell p u) base e size f v L:=by
 obtain ⟨h1,h2⟩:=h
 refine ⟨h1,?_⟩
 rcases h2 with h2 | ⟨k,cap,cur,hv,hb,hh,r⟩
 ·exact .inl h2
 ·exact .inr ⟨k,cap,cur,hv,hb,(Below.heap_setCell w p u k (by omega)).trans hh,r⟩
theorem wp_ext_only {w0 w w':World} {g:Nat} (h:Ext w0 w) (k:w.grownBy w' (some g)) (hg:w0.heap.size≤g):Ext w0 w':=h.only k hg
set_option maxHeartbeats 4000000 in
theorem c_l02Own (A1 A2:Option Addr) (n1 c1 n2 c2:Nat) (ns:List Node) (ps:List Pipe) (w:World) (h1:SliceOf w 3 Node.cells A1 n1 c1 ns) (h2:SliceOf w 5 Pipe.cells A2 n2 c2 ps) (m1:n1≤1048576) (m2:n2≤1048576):
  Calls Tryz.prog 95 #[.agg #[.slice A1 n1 c1,.slice A2 n2 c2]] w (NetAt ns ps w):=by
 obtain ⟨W,HW⟩:∃W,Hid (W=((w.alloc (.cells #[.slice A1 n1 c1,.slice A2 n2 c2] 27)).alloc (.cells #[.slice none 0 0,.slice none 0 0] 27))):=⟨_,hide rfl⟩
 have x0:Ext w W:=by rw [HW.out]; exact (Ext.alloc _ _).and_alloc _
 have hza:W.heap.size≤w.heap.size+2:=by rw [HW.out]; simp
 have hzb:w.heap.size+2≤W.heap.size:=by rw [HW.out]; simp
 have k0:W.cell? ⟨w.heap.size,0,none⟩=some (.slice A1 n1 c1):=by rw [HW.out]; simp
 have k1:W.cell? ⟨w.heap.size,1,none⟩=some (.slice A2 n2 c2):=by rw [HW.out]; simp
 have j0:W.cell? ⟨w.heap.size+1,0,none⟩=some (.slice none 0 0):=by rw [HW.out]; simp
 have j1:W.cell? ⟨w.heap.size+1,1,none⟩=some (.slice none 0 0):=by rw [HW.out]; simp
 have f0:∀o,W.frozen? ⟨w.heap.size+1,o,none⟩=false:=by rw [HW.out]; intro o; simp
 go_enter Tryz.func95,Tryz.ntmps95
 go_wp2_with fail
 rw [←HW.out]
 have rz:∀X:World,Ext W X→SameC [(w.heap.size,0),(w.heap.size,1)] W X:=fun X hX=>SameC.of_ext hX (by simp; omega)
 refine wp_region_phT [(w.heap.size,0),(w.heap.size,1)] (.two [1,2,5,6] 0 (.two [] 3 (.one [] 4 (.one [] 7 (.one [8] 9 (.last [])))) 4 (.one [] 3 (.one [] 7 (.one [8] 9 (.last []))))) 4 (.one [] 0 (.one [] 3 (.one [] 7 (.one [8] 9 (.last [])))))) (by kernel_rfl) (by kernel_rfl) (by intro c a w d v h; cases d <;> exact h) ?_
 simp only [wpPhT,pickL,nthO]
 repeat (go_big_quiet_step (fail))
 refine wpQuiet_nil ?_
 refine ⟨?_,?_⟩
 ·go_wp2_with fail
  have hXa:Ext W (W.alloc (.cells #[] 147)).drew:=(Ext.alloc _ _).drew
  refine ⟨rz _ hXa,wpQuiet_nil ⟨?_,?_⟩⟩
  ·have hn0:OwnL (W.alloc (.cells #[] 147)).drew (w.heap.size+2) 147 3 Node.cells (.slice (some ⟨W.heap.size,0,none⟩) 0 0) []:=(own_new W _ _ _ _ _ rfl (by omega)).ext (Ext.refl _).drew
   go_wp2_with (at_builtin; go_must (refine wpList_append_grow rfl _ _ 24 rfl (w.heap.size+2) 147 _ 3 32 Tryz.underlying24 node_info rfl (by decide) Node.cells node_len node_one (.slice (some ⟨W.heap.size,0,none⟩) 0 0) [] rfl (hn0) A1 n1 c1 ns rfl (h1.ext (x0.trans hXa)) (by first | omega | (simp; omega)) (by omega) (by first | exact Nat.le_refl _ | omega | (simp; done) | (simp; omega)) ?_))
   intro v1 w1 o1 g1
   have hX1:=wp_ext_only hXa g1 (Nat.le_refl _)
   have hz1:=hX1.size
   go_wp2_with fail
   refine ⟨rz _ hX1,wpQuiet_nil ?_⟩
   go_wp2_with fail
   refine ⟨rz _ (hX1.and_alloc _),wpQuiet_nil ?_⟩
   have hp0:OwnL (w1.alloc (.cells #[] 149)) (w.heap.size+2) 149 5 Pipe.cells (.slice (some ⟨w1.heap.size,0,none⟩) 0 0) []:=own_new w1 _ _ _ _ _ rfl (by omega)
   go_wp2_with (at_builtin; go_must (refine wpList_append_grow rfl _ _ 25 rfl (w.heap.size+2) 149 _ 5 40 Tryz.underlying25 pipe_info rfl (by decide) Pipe.cells pipe_len pipe_one (.slice (some ⟨w1.heap.size,0,none⟩) 0 0) [] rfl (hp0) A2 n2 c2 ps rfl (h2.ext (x0.trans (hX1.and_alloc _))) (by first | omega | (simp; omega)) (by omega) (by first | exact Nat.le_refl _ | omega | (simp; done) | (simp; omega)) ?_))
   intro v2 w2 o2 g2
   have hX:=wp_ext_only (hX1.and_alloc _) g2 (by first | (simp; done) | (simp; omega) | omega)
   have o1:=(o1.ext (Ext.alloc _ _)).grown g2 (OwnL.blk_ne (o1.ext (Ext.alloc _ _)) (Row.new w1 149 []) (by decide))
   go_wp2_with fail
   obtain ⟨B1,d1,rfl,p1,q1⟩:=o1.toA node_len (by omega)
   obtain ⟨B2,d2,rfl,p2,q2⟩:=o2.toA pipe_len (by omega)
   have j0':=(hX.cell (w.heap.size+1) 0 (by omega)).trans j0
   have j1':=(hX.cell (w.heap.size+1) 1 (by omega)).trans j1
   have f0':=fun o=>(hX.frozen (w.heap.size+1) o (by omega)).trans (f0 o)
   have hzz:w.heap.size+1<w2.heap.size:=by have:=hX.size; omega
   refine ⟨SameC.of_ext hX (by simp; omega),?_⟩
   repeat (go_big_quiet_step (fail))
   refine wpQuiet_nil ?_
   go_wp2_with fail
   refine ⟨SameC.setCell (SameC.setCell (SameC.of_ext hX (by simp; omega)) (by simp) _) (by simp) _,wpQuiet_nil ?_⟩
   go_wp2
   have u1:∀b,blkOf B1 ns.length=some b→b≠w.heap.size+1:=fun b hb=>by have:=q1 b hb; omega
   have u2:∀b,blkOf B2 ps.length=some b→b≠w.heap.size+1:=fun b hb=>by have:=q2 b hb; omega
   refine bodyPost_ret (v:= .agg #[.slice B1 ns.length d1,.slice B2 ps.length d2]) (by simp [results,Tryz.results95,go_sem,j0',j1']) rfl ⟨B1,_,d1,B2,_,d2,rfl,?_,?_,fun b hb=>by have:=q1 b hb; omega,fun b hb=>by have:=q2 b hb; omega,?_⟩
   ·refine OwnA.slice (t:=147) ?_ node_len
    repeat (refine OwnA.far ?_ u1 _)
    exact p1
   ·refine OwnA.slice (t:=149) ?_ pipe_len
    repeat (refine OwnA.far ?_ u2 _)
    exact p2
   ·refine Ext.setCell (Ext.setCell (x0.trans hX) (by simp) _) (by simp) _
  ·go_wp2_with fail
   have hXb:Ext W ((W.alloc (.cells #[] 147)).alloc (.cells #[] 149)).drew:=((Ext.alloc _ _).and_alloc _).drew
   refine ⟨rz _ hXb,wpQuiet_nil ?_⟩
   have hn0:OwnL ((W.alloc (.cells #[] 147)).alloc (.cells #[] 149)).drew (w.heap.size+2) 147 3 Node.cells (.slice (some ⟨W.heap.size,0,none⟩) 0 0) []:=(own_new W _ _ _ _ _ rfl (by omega)).ext (Ext.alloc _ _).drew
   have hp0:OwnL ((W.alloc (.cells #[] 147)).alloc (.cells #[] 149)).drew (w.heap.size+2) 149 5 Pipe.cells (.slice (some ⟨W.heap.size+1,0,none⟩) 0 0) []:=(own_new (W.alloc (.cells #[] 147)) _ _ _ _ _ (by simp) (by omega)).ext (Ext.refl _).drew
   have rp:Row ((W.alloc (.cells #[] 147)).alloc (.cells #[] 149)).drew (W.heap.size+1) 149 []:=by have:=(Row.new (W.alloc (.cells #[] 147)) 149 []).drew; simpa using this
   go_wp2_with (at_builtin; go_must (refine wpList_append_grow rfl _ _ 24 rfl (w.heap.size+2) 147 _ 3 32 Tryz.underlying24 node_info rfl (by decide) Node.cells node_len node_one (.slice (some ⟨W.heap.size,0,none⟩) 0 0) [] rfl (hn0) A1 n1 c1 ns rfl (h1.ext (x0.trans hXb)) (by first | omega | (simp; omega)) (by omega) (by first | exact Nat.le_refl _ | omega | (simp; done) | (simp; omega)) ?_))
   intro v1 w1 o1 g1
   have hX1:=wp_ext_only hXb g1 (Nat.le_refl _)
   have hp1:=hp0.grown g1 (by intro k hk; simp [Value.ownBlock] at hk ⊢; omega)
   have rp1:=rp.only (Only.of_grown g1) (by first | (simp; done) | (simp; omega) | omega)
   have hz1:=hX1.size
   go_wp2_with fail
   refine ⟨rz _ hX1,wpQuiet_nil ?_⟩
   go_wp2_with (at_builtin; go_must (refine wpList_append_grow rfl _ _ 25 rfl (w.heap.size+2) 149 _ 5 40 Tryz.underlying25 pipe_info rfl (by decide) Pipe.cells pipe_len pipe_one (.slice (some ⟨W.heap.size+1,0,none⟩) 0 0) [] rfl (hp1) A2 n2 c2 ps rfl (h2.ext (x0.trans hX1)) (by first | omega | (simp; omega)) (by omega) (by first | exact Nat.le_refl _ | omega | (simp; done) | (simp; omega)) ?_))
   intro v2 w2 o2 g2
   have hX:=wp_ext_only hX1 g2 (by first | (simp; done) | (simp; omega) | omega)
   have o1:=o1.grown g2 (OwnL.blk_ne o1 rp1 (by decide))
   go_wp2_with fail
   obtain ⟨B1,d1,rfl,p1,q1⟩:=o1.toA node_len (by omega)
   obtain ⟨B2,d2,rfl,p2,q2⟩:=o2.toA pipe_len (by omega)
   have j0':=(hX.cell (w.heap.size+1) 0 (by omega)).trans j0
   have j1':=(hX.cell (w.heap.size+1) 1 (by omega)).trans j1
   have f0':=fun o=>(hX.frozen (w.heap.size+1) o (by omega)).trans (f0 o)
   have hzz:w.heap.size+1<w2.heap.size:=by have:=hX.size; omega
   refine ⟨SameC.of_ext hX (by simp; omega),?_⟩
   repeat (go_big_quiet_step (fail))
   refine wpQuiet_nil ?_
   go_wp2_with fail
   refine ⟨SameC.setCell (SameC.setCell (SameC.of_ext hX (by simp; omega)) (by simp) _) (by simp) _,wpQuiet_nil ?_⟩
   go_wp2
   have u1:∀b,blkOf B1 ns.length=some b→b≠w.heap.size+1:=fun b hb=>by have:=q1 b hb; omega
   have u2:∀b,blkOf B2 ps.length=some b→b≠w.heap.size+1:=fun b hb=>by have:=q2 b hb; omega
   refine bodyPost_ret (v:= .agg #[.slice B1 ns.length d1,.slice B2 ps.length d2]) (by simp [results,Tryz.results95,go_sem,j0',j1']) rfl ⟨B1,_,d1,B2,_,d2,rfl,?_,?_,fun b hb=>by have:=q1 b hb; omega,fun b hb=>by have:=q2 b hb; omega,?_⟩
   ·refine OwnA.slice (t:=147) ?_ node_len
    repeat (refine OwnA.far ?_ u1 _)
    exact p1
   ·refine OwnA.slice (t:=149) ?_ pipe_len
    repeat (refine OwnA.far ?_ u2 _)
    exact p2
   ·refine Ext.setCell (Ext.setCell (x0.trans hX) (by simp) _) (by simp) _
 ·go_wp2_with fail
  have hXa:Ext W (W.alloc (.cells #[] 149)).drew:=(Ext.alloc _ _).drew
  refine ⟨rz _ hXa,wpQuiet_nil ?_⟩
  go_wp2_with fail
  have hXb:Ext W ((W.alloc (.cells #[] 149)).alloc (.cells #[] 147)).drew:=((Ext.alloc _ _).and_alloc _).drew
  refine ⟨rz _ hXb,wpQuiet_nil ?_⟩
  have hn0:OwnL ((W.alloc (.cells #[] 149)).alloc (.cells #[] 147)).drew (w.heap.size+2) 147 3 Node.cells (.slice (some ⟨W.heap.size+1,0,none⟩) 0 0) []:=(own_new (W.alloc (.cells #[] 149)) _ _ _ _ _ (by simp) (by omega)).ext (Ext.refl _).drew
  have hp0:OwnL ((W.alloc (.cells #[] 149)).alloc (.cells #[] 147)).drew (w.heap.size+2) 149 5 Pipe.cells (.slice (some ⟨W.heap.size,0,none⟩) 0 0) []:=(own_new W _ _ _ _ _ rfl (by omega)).ext (Ext.alloc _ _).drew
  have rp:Row ((W.alloc (.cells #[] 149)).alloc (.cells #[] 147)).drew W.heap.size 149 []:=((Row.new W 149 []).alloc _).drew
  go_wp2_with (at_builtin; go_must (refine wpList_append_grow rfl _ _ 24 rfl (w.heap.size+2) 147 _ 3 32 Tryz.underlying24 node_info rfl (by decide) Node.cells node_len node_one (.slice (some ⟨W.heap.size+1,0,none⟩) 0 0) [] rfl (hn0) A1 n1 c1 ns rfl (h1.ext (x0.trans hXb)) (by first | omega | (simp; omega)) (by omega) (by first | exact Nat.le_refl _ | omega | (simp; done) | (simp; omega)) ?_))
  intro v1 w1 o1 g1
  have hX1:=wp_ext_only hXb g1 (by first | (simp; done) | (simp; omega) | omega)
  have hp1:=hp0.grown g1 (by intro k hk; simp [Value.ownBlock] at hk ⊢; omega)
  have rp1:=rp.only (Only.of_grown g1) (by first | (simp; done) | (simp; omega) | omega)
  have hz1:=hX1.size
  go_wp2_with fail
  refine ⟨rz _ hX1,wpQuiet_nil ?_⟩
  go_wp2_with (at_builtin; go_must (refine wpList_append_grow rfl _ _ 25 rfl (w.heap.size+2) 149 _ 5 40 Tryz.underlying25 pipe_info rfl (by decide) Pipe.cells pipe_len pipe_one (.slice (some ⟨W.heap.size,0,none⟩) 0 0) [] rfl (hp1) A2 n2 c2 ps rfl (h2.ext (x0.trans hX1)) (by first | omega | (simp; omega)) (by omega) (by first | exact Nat.le_refl _ | omega | (simp; done) | (simp; omega)) ?_))
  intro v2 w2 o2 g2
  have hX:=wp_ext_only hX1 g2 (by first | (simp; done) | (simp; omega) | omega)
  have o1:=o1.grown g2 (OwnL.blk_ne o1 rp1 (by decide))
  go_wp2_with fail
  obtain ⟨B1,d1,rfl,p1,q1⟩:=o1.toA node_len (by omega)
  obtain ⟨B2,d2,rfl,p2,q2⟩:=o2.toA pipe_len (by omega)
  have j0':=(hX.cell (w.heap.size+1) 0 (by omega)).trans j0
  have j1':=(hX.cell (w.heap.size+1) 1 (by omega)).trans j1
  have f0':=fun o=>(hX.frozen (w.heap.size+1) o (by omega)).trans (f0 o)
  have hzz:w.heap.size+1<w2.heap.size:=by have:=hX.size; omega
  refine ⟨SameC.of_ext hX (by simp; omega),?_⟩
  repeat (go_big_quiet_step (fail))
  refine wpQuiet_nil ?_
  go_wp2_with fail
  refine ⟨SameC.setCell (SameC.setCell (SameC.of_ext hX (by simp; omega)) (by simp) _) (by simp) _,wpQuiet_nil ?_⟩
  go_wp2
  have u1:∀b,blkOf B1 ns.length=some b→b≠w.heap.size+1:=fun b hb=>by have:=q1 b hb; omega
  have u2:∀b,blkOf B2 ps.length=some b→b≠w.heap.size+1:=fun b hb=>by have:=q2 b hb; omega
  refine bodyPost_ret (v:= .agg #[.slice B1 ns.length d1,.slice B2 ps.length d2]) (by simp [results,Tryz.results95,go_sem,j0',j1']) rfl ⟨B1,_,d1,B2,_,d2,rfl,?_,?_,fun b hb=>by have:=q1 b hb; omega,fun b hb=>by have:=q2 b hb; omega,?_⟩
  ·refine OwnA.slice (t:=147) ?_ node_len
   repeat (refine OwnA.far ?_ u1 _)
   exact p1
  ·refine OwnA.slice (t:=149) ?_ pipe_len
   repeat (refine OwnA.far ?_ u2 _)
   exact p2
  ·refine Ext.setCell (Ext.setCell (x0.trans hX) (by simp) _) (by simp) _
end Go.Proofs.YtinindjjapblcaaGreatDoor
namespace Go.Proofs.YtinindjjapblcaaGreatDoor
open Go.RowKit Go.ChangeShapes Go.WideShapes Go.ChangeAt Go.Deep Go.Joins
theorem own:ownKnob Tryz.prog.godebug=none:=by kernel_rfl
theorem laidOut:laidOutB Tryz.prog=true:=by kernel_rfl
end Go.Proofs.YtinindjjapblcaaGreatDoor
namespace Go.Proofs.YtinindjjapblcaaGreatDoor
open Go.RowKit
def Sized (P:Prop) (left:Int) (w:World) (e:Ending) (w':World):Prop:=∃z:Int,e= .returned (.int .i64 z)∧Ext w w'∧(z= -1∨(0≤z∧z≤left∧P))
def Named (ns:List Node):Prop:=∀x∈ns,x.name.size≤1048576
def Named0 (ns:List Node):Prop:=∀x∈ns,x.name.size≤9223372036854775807
theorem c_szNode (x:Node) (left:Int) (w:World) (h0:0≤left) (h1:left≤1048576) (hx:x.name.size≤9223372036854775807):
  Calls Tryz.prog 118 #[.agg #[.string x.name,.int .i64 x.low,.int .i64 x.high],.int .i64 left] w (Sized (x.name.size≤1048576) left w):=by
 by_cases h:left<x.name.size
 ·have e1:IntKind.i64.wrap (left-(x.name.size:Int))=left-(x.name.size:Int):=IntWalk.i64_in _ (by omega)
  have h':left-(x.name.size:Int)<0:=by omega
  go_enter Tryz.func118,Tryz.ntmps118
  go_wp2_with fail
  go_ret
  exact ⟨-1,rfl,Ext.alloc _ _,.inl rfl⟩
 ·have e1:IntKind.i64.wrap (left-(x.name.size:Int))=left-(x.name.size:Int):=IntWalk.i64_in _ (by omega)
  have h':¬left-(x.name.size:Int)<0:=by omega
  go_enter Tryz.func118,Tryz.ntmps118
  go_wp2_with fail
  go_ret
  exact ⟨_,rfl,Ext.alloc _ _,.inr ⟨by omega,by omega,by omega⟩⟩
set_option maxHeartbeats 1000000 in
theorem c_szNodeS (A:Option Addr) (n c:Nat) (ns:List Node) (left:Int) (w:World) (hs:SliceOf w 3 Node.cells A n c ns) (hnm:Named0 ns) (h0:0≤left) (h1:left≤1048576):
  Calls Tryz.prog 65 #[.slice A n c,.int .i64 left] w (Sized (n≤1048576∧Named ns) left w):=by
 have hm:=hs.max
 have hcap:=hs.cap
 have HL:=hide hs.len
 have HNM:=hide hnm
 clear hnm
 by_cases h:left<n
 ·have h':left-(n:Int)<0:=by omega
  go_enter Tryz.func65,Tryz.ntmps65
  go_wp2_with fail
  go_ret
  exact ⟨-1,rfl,Ext.refl _,.inl rfl⟩
 have h':¬left-(n:Int)<0:=by omega
 have hn:n≤1048576:=by omega
 go_enter Tryz.func65,Tryz.ntmps65
 go_wp2_with fail
 go_loopw [1,5] (fun z i wr=>∃(k:Nat) (y:Int),k≤n∧z= .int .i64 y∧i= .int .i64 k∧0≤y∧y≤left∧Hid (∀(j:Nat) (p:Node),j<k→ns[j]? =some p→p.name.size≤1048576)∧Ext w wr) (fun _ i _=>n-(intOf i).toNat)
 case atStart=>exact ⟨0,_,Nat.zero_le _,rfl,rfl,by omega,by omega,hide (fun j p hj=>absurd hj (by omega)),Ext.refl _⟩
 case round=>
  obtain ⟨k,y,hk,rfl,rfl,hy0,hy1,HK,hx⟩:=hrel
  by_cases hlt:k<n
  ·obtain ⟨bb,off,p,rfl,hbb,hxk,t⟩:=(hs.ext hx).get hlt
   have t0:=t 0 _ rfl
   have t1:=t 1 _ rfl
   have t2:=t 2 _ rfl
   simp only [Nat.add_zero] at t0
   have hp:=HNM.out p (List.mem_of_getElem? hxk)
   have HX:=hide hxk
   clear hxk t
   go_wp2_with fail
   refine (c_szNode p y _ hy0 (by omega) hp).mono ?_
   rintro e w1 ⟨z,rfl,hx1,rfl | ⟨hz0,hz1,hz2⟩⟩
   ·go_wp2_with fail
    go_ret
    exact ⟨-1,rfl,hx.trans hx1,.inl rfl⟩
   ·have hz':¬z<0:=by omega
    go_wp2_with fail
    go_roundw
    case rel=>
     refine ⟨k+1,z,by omega,rfl,by go_num,by omega,by omega,hide fun j q hj hq=> ?_,hx.trans hx1⟩
     by_cases e:j=k
     ·subst e; rw [HX.out] at hq; injection hq with hq; subst hq; exact hz2
     ·exact HK.out j q (by omega) hq
    case measure=>simp [intOf]; omega
  ·go_wp2_with fail
   go_ret
   refine ⟨y,rfl,hx,.inr ⟨hy0,hy1,hn,fun q hq=> ?_⟩⟩
   obtain ⟨j,hj,rfl⟩:=List.mem_iff_getElem.1 hq
   exact HK.out j _ (by have:=HL.out; omega) (List.getElem?_eq_getElem hj)
theorem c_szNetwork (A1 A2:Option Addr) (n1 c1 n2 c2:Nat) (ns:List Node) (left:Int) (w:World) (hs1:SliceOf w 3 Node.cells A1 n1 c1 ns) (h21:n2≤c2) (h22:c2≤9223372036854775807) (hnm:Named0 ns) (h0:0≤left) (h1:left≤1048576):
  Calls Tryz.prog 22 #[.agg #[.slice A1 n1 c1,.slice A2 n2 c2],.int .i64 left] w (Sized ((n1≤1048576∧Named ns)∧n2≤1048576) left w):=by
 go_enter Tryz.func22,Tryz.ntmps22
 go_wp2_with fail
 refine (c_szNodeS A1 n1 c1 ns left _ (hs1.ext (Ext.alloc _ _)) hnm h0 h1).mono ?_
 rintro e w1 ⟨z,rfl,hx1,rfl | ⟨hz0,hz1,hz2⟩⟩
 ·go_wp2_with fail
  go_ret
  exact ⟨-1,rfl,hx1.box,.inl rfl⟩
 have hz':¬z<0:=by omega
 have hcl:=hx1.cell
 go_wp2_with fail
 refine (c_szPipeS A2 n2 c2 z _ h21 h22 hz0 (by omega)).mono ?_
 rintro e w' ⟨rfl,rfl⟩
 by_cases h:z<n2
 ·rw [if_pos h]
  go_wp2_with fail
  go_ret
  exact ⟨-1,rfl,hx1.box,.inl rfl⟩
 ·rw [if_neg h]
  have h':¬z-(n2:Int)<0:=by omega
  go_wp2_with fail
  go_ret
  exact ⟨_,rfl,hx1.box,.inr ⟨by omega,by omega,hz2,by omega⟩⟩
end Go.Proofs.YtinindjjapblcaaGreatDoor
namespace Go.Proofs.YtinindjjapblcaaGreatDoor
open Go.RowKit
theorem sum_take {rs:List RS} {k:Nat} {p:RS} (h:rs[k]? =some p):((rs.take (k+1)).map RS.n).sum=((rs.take k).map RS.n).sum+p.n:=by
 rw [List.take_add_one,h,List.map_append,List.sum_append]; simp
def OwnRS (w:World) (g:Nat) (q:RS):Prop:=∃g1,g<g1∧q.A=some ⟨g1,0,none⟩∧q.n=q.xs.length∧q.c=q.xs.length∧q.xs.length≤1048576∧RowOf w g1 84 Reading.cells q.xs
theorem OwnRS.ext {w w':World} {g:Nat} {q:RS} (h:OwnRS w g q) (hx:Ext w w'):OwnRS w' g q:=let ⟨g1,a,b,c,d,e,r⟩:=h; ⟨g1,a,b,c,d,e,r.ext hx⟩
theorem OwnRS.set {w:World} {g o:Nat} {q:RS} (h:OwnRS w g q) (u:Value):OwnRS (w.setCell ⟨g,o,none⟩ u) g q:=let ⟨g1,a,b,c,d,e,r⟩:=h; ⟨g1,a,b,c,d,e,r.far (p:=⟨g,o,none⟩) (by show g1≠g; omega) u⟩
theorem OwnRS.slice {w:World} {g:Nat} {q:RS} (h:OwnRS w g q):SliceOf w 2 Reading.cells q.A q.n q.c q.xs:=by
 obtain ⟨g1,_,hA,hn,hc,hl,r⟩:=h
 rw [hA,hc,hn]
 exact r.slice reading_len rfl (by omega)
def RsApart (rs:List RS):Prop:=∀(i j:Nat) (q q':RS),i≠j→rs[i]? =some q→rs[j]? =some q'→q.A≠q'.A
end Go.Proofs.YtinindjjapblcaaGreatDoor
namespace Go.Proofs.YtinindjjapblcaaGreatDoor
open Go.RowKit
set_option maxHeartbeats 1000000 in
theorem c_eqReadingSS (A A':Option Addr) (n c n' c':Nat) (rs rs':List RS) (w:World) (hs:SliceOf w 1 RS.cells A n c rs) (h6:∀q∈rs,SliceOf w 2 Reading.cells q.A q.n q.c q.xs) (hs':SliceOf w 1 RS.cells A' n' c' rs') (h6':∀q∈rs',SliceOf w 2 Reading.cells q.A q.n q.c q.xs) (he:rs.map RS.xs=rs'.map RS.xs):
  Calls Tryz.prog 71 #[.slice A n c,.slice A' n' c'] w (Ret (.bool true) w):=by
 obtain rfl:n=n':=by have:=congrArg List.length he; simp at this; rw [hs.len,hs'.len,this]
 have HE:=hide he
 have hm:=hs.max
 have hcp:=hs.cap
 clear he
 go_enter Tryz.func71,Tryz.ntmps71
 go_wp2_with fail
 go_loopw [5] (fun i wr=>∃(k:Nat),k≤n∧i= .int .i64 k∧Ext w wr) (fun i _=>n-(intOf i).toNat)
 case atStart=>exact ⟨0,Nat.zero_le _,rfl,Ext.refl _⟩
 case round=>
  obtain ⟨k,hk,rfl,hx⟩:=hrel
  by_cases hlt:k<n
  ·obtain ⟨b,off,x,rfl,hb,hxk,hc⟩:=(hs.ext hx).get hlt
   obtain ⟨b',off',x',rfl,hb',hxk',hc'⟩:=(hs'.ext hx).get hlt
   have hxx:x.xs=x'.xs:=by
    have h1:=congrArg (fun l=>l[k]?) HE.out
    simp only [List.getElem?_map,hxk,hxk',Option.map_some,Option.some.injEq] at h1
    exact h1
   have s1:=(h6 x (List.mem_of_getElem? hxk)).ext hx
   have s2:=(h6' x' (List.mem_of_getElem? hxk')).ext hx
   rw [←hxx] at s2
   have hc0:=hc 0 _ rfl
   have hd0:=hc' 0 _ rfl
   clear hc hc' hxk hxk' hxx
   simp only [Nat.add_zero,Nat.mul_one] at hc0 hd0
   go_wp2_with fail
   refine wp_region_later (by kernel_rfl) (by kernel_rfl) ?_
   repeat (go_big_quiet_step ((go_at_call 122; exact quiet_later (c_eqReadingS x.A x'.A x.n x.c x'.n x'.c x.xs _ (s1.ext (ext_later _ _)) (s2.ext (ext_later _ _))))))
   refine wpQuiet_nil ?_
   intro w1 hx1
   go_wp2
   go_roundw
   case rel=>exact ⟨k+1,by omega,by go_num,hx.trans hx1⟩
   case measure=>simp [intOf]; omega
  ·go_wp2
   go_ret
   exact Ret.bool rfl hx
structure RoomSz (r:Room) (n1 n2 n3 n4 n5:Nat):Prop where
 n1:n1≤1048576
 nm:Named r.ns
 n2:n2≤1048576
 n3:n3≤1048576
 n4:n4≤1048576
 n5:n5≤1048576
 n6:∀q∈r.rs,q.n≤1048576
 n7:(r.rs.map RS.n).sum≤1048576
def NewNet (ns:List Node) (ps:List Pipe) (w:World) (e:Ending) (w':World):Prop:=
 ∃g1 g2,e= .returned (.agg #[.slice (some ⟨g1,0,none⟩) ns.length ns.length,.slice (some ⟨g2,0,none⟩) ps.length ps.length])∧w.heap.size≤g1∧g1<g2∧RowOf w' g1 147 Node.cells ns∧RowOf w' g2 149 Pipe.cells ps∧Ext w w'
set_option maxHeartbeats 2000000 in
theorem c_toNetwork (A1 A2:Option Addr) (n1 c1 n2 c2:Nat) (ns:List Node) (ps:List Pipe) (w:World) (h1:SliceOf w 3 Node.cells A1 n1 c1 ns) (h2:SliceOf w 5 Pipe.cells A2 n2 c2 ps) (m1:n1≤1048576) (m2:n2≤1048576):
  Calls Tryz.prog 24 #[.agg #[.slice A1 n1 c1,.slice A2 n2 c2]] w (NewNet ns ps w):=by
 go_enter Tryz.func24,Tryz.ntmps24
 go_wp2_with fail
 refine (c_toNodeS A1 n1 c1 ns _ (h1.ext (((Ext.alloc _ _).and_alloc _).and_alloc _)) m1).mono ?_
 rintro e w1 ⟨g1,rfl,hg1,r1,hx1⟩
 have x1:Ext w w1:=(((Ext.alloc _ _).and_alloc _).and_alloc _).trans hx1
 have z1a:w.heap.size<w1.heap.size:=by have:=hx1.size; simp at this; omega
 have z1b:w.heap.size+1<w1.heap.size:=by have:=hx1.size; simp at this; omega
 have z1c:w.heap.size+1+1<w1.heap.size:=by have:=hx1.size; simp at this; omega
 have hcl1:=hx1.cell
 have hfr1:=hx1.frozen
 simp at hg1
 have l1:=r1.lt
 go_wp2_with fail
 refine (c_toPipeS A2 n2 c2 ps _ (h2.ext (x1.setCell (by first | (simp; done) | (simp; omega) | omega) _)) m2).mono ?_
 rintro e w2 ⟨g2,rfl,hg2,r2,hx2⟩
 have x2:Ext w w2:=(x1.setCell (by first | (simp; done) | (simp; omega) | omega) _).trans hx2
 have r1a:=RowOf.ext (RowOf.far r1 (by first | (simp; done) | (simp; omega) | omega) _) hx2
 have z2a:w.heap.size<w2.heap.size:=by have:=hx2.size; simp at this; omega
 have z2b:w.heap.size+1<w2.heap.size:=by have:=hx2.size; simp at this; omega
 have z2c:w.heap.size+1+1<w2.heap.size:=by have:=hx2.size; simp at this; omega
 have hcl2:=hx2.cell
 have hfr2:=hx2.frozen
 simp at hg2
 go_wp2
 refine bodyPost_ret (v:= .agg #[.slice (some ⟨g1,0,none⟩) ns.length ns.length,.slice (some ⟨g2,0,none⟩) ps.length ps.length]) (by simp [results,Tryz.results24,go_sem,hcl2,hcl1,z1b]) rfl ⟨g1,g2,rfl,?_,?_,?_,?_,?_⟩
 ·omega
 ·omega
 ·repeat (refine RowOf.far ?_ (by first | (simp; done) | (simp; omega) | omega) _)
  exact r1a
 ·repeat (refine RowOf.far ?_ (by first | (simp; done) | (simp; omega) | omega) _)
  exact r2
 ·repeat (refine Ext.setCell ?_ (by first | (simp; done) | (simp; omega) | omega) _)
  exact x2
set_option maxHeartbeats 1000000 in
theorem c_eqNetwork (A1 A2 B1 B2:Option Addr) (n1 c1 n2 c2 m1 d1 m2 d2:Nat) (ns:List Node) (ps:List Pipe) (w:World) (h1:SliceOf w 3 Node.cells A1 n1 c1 ns) (h2:SliceOf w 5 Pipe.cells A2 n2 c2 ps) (i1:SliceOf w 3 Node.cells B1 m1 d1 ns) (i2:SliceOf w 5 Pipe.cells B2 m2 d2 ps):
  Calls Tryz.prog 27 #[.agg #[.slice A1 n1 c1,.slice A2 n2 c2],.agg #[.slice B1 m1 d1,.slice B2 m2 d2]] w (Ret (.bool true) w):=by
 go_enter Tryz.func27,Tryz.ntmps27
 go_wp2_with fail
 have x0:Ext w ((w.alloc (.cells #[.slice A1 n1 c1,.slice A2 n2 c2] 27)).alloc (.cells #[.slice B1 m1 d1,.slice B2 m2 d2] 27)):=(Ext.alloc _ _).and_alloc _
 refine (c_eqNodeS _ _ _ _ _ _ ns _ (h1.ext x0) (i1.ext x0)).mono ?_
 rintro e w1 ⟨rfl,hx1⟩
 have hcl1:=hx1.cell
 go_wp2_with fail
 refine (c_eqPipeS _ _ _ _ _ _ ps _ (h2.ext (x0.trans hx1)) (i2.ext (x0.trans hx1))).mono ?_
 rintro e w2 ⟨rfl,hx2⟩
 go_wp2_with fail
 go_ret
 exact Ret.bool rfl ((x0.trans hx1).trans hx2)
def Room.Like (r r':Room):Prop:=r.ns=r'.ns∧r.ps=r'.ps∧r.xs=r'.xs∧r.L=r'.L∧r.rs.map RS.xs=r'.rs.map RS.xs
theorem Room.Like.symm {r r':Room} (h:r.Like r'):r'.Like r:=⟨h.1.symm,h.2.1.symm,h.2.2.1.symm,h.2.2.2.1.symm,h.2.2.2.2.symm⟩
theorem Room.Like.trans {r r' r'':Room} (h:r.Like r') (k:r'.Like r''):r.Like r'':=⟨h.1.trans k.1,h.2.1.trans k.2.1,h.2.2.1.trans k.2.2.1,h.2.2.2.1.trans k.2.2.2.1,h.2.2.2.2.trans k.2.2.2.2⟩
theorem roomB_like {n1:Int} {r r':Room} (h:r.Like r'):roomB n1 r=roomB n1 r':=by
 obtain ⟨h1,h2,h3,h4,h5⟩:=h
 have hl:=congrArg List.length h5
 simp at hl
 have ha:∀rs:List RS,rs.all (fun q=>readsB n1 q.xs)=(rs.map RS.xs).all (readsB n1):=fun rs=>by rw [List.all_map]; rfl
 unfold roomB
 rw [h1,h2,h3,h4,hl,ha,ha,h5]
set_option maxHeartbeats 2000000 in
theorem c_eqRoom (A1 A2 A3 A4 A5:Option Addr) (n1 c1 n2 c2 n3 c3 n4 c4 n5 c5:Nat) (B1 B2 B3 B4 B5:Option Addr) (m1 d1 m2 d2 m3 d3 m4 d4 m5 d5:Nat) (r r':Room) (w:World) (h:RoomAt w A1 A2 A3 A4 A5 n1 c1 n2 c2 n3 c3 n4 c4 n5 c5 r) (i:RoomAt w B1 B2 B3 B4 B5 m1 d1 m2 d2 m3 d3 m4 d4 m5 d5 r') (hl:r.Like r'):
  Calls Tryz.prog 26 #[.agg #[.slice A1 n1 c1,.slice A2 n2 c2,.slice A3 n3 c3,.slice A4 n4 c4,.slice A5 n5 c5],.agg #[.slice B1 m1 d1,.slice B2 m2 d2,.slice B3 m3 d3,.slice B4 m4 d4,.slice B5 m5 d5]] w (Ret (.bool true) w):=by
 obtain ⟨i1,i2,i3,i4,i5,i6⟩:=i
 obtain ⟨e1,e2,e3,e4,HE5⟩:=hl
 have HE:=hide HE5
 rw [←e1] at i1
 rw [←e2] at i2
 rw [←e3] at i3
 rw [←e4] at i4
 clear e1 e2 e3 e4 HE5
 have hinA:=(RoomIn.new w A1 A2 A3 A4 A5 n1 c1 n2 c2 n3 c3 n4 c4 n5 c5 32).ext (Ext.alloc _ (.cells #[.slice B1 m1 d1,.slice B2 m2 d2,.slice B3 m3 d3,.slice B4 m4 d4,.slice B5 m5 d5] 32))
 have hinB:=RoomIn.new (w.alloc (.cells #[.slice A1 n1 c1,.slice A2 n2 c2,.slice A3 n3 c3,.slice A4 n4 c4,.slice A5 n5 c5] 32)) B1 B2 B3 B4 B5 m1 d1 m2 d2 m3 d3 m4 d4 m5 d5 32
 go_enter Tryz.func26,Tryz.ntmps26
 go_wp2_with fail
 have x0:Ext w ((w.alloc (.cells #[.slice A1 n1 c1,.slice A2 n2 c2,.slice A3 n3 c3,.slice A4 n4 c4,.slice A5 n5 c5] 32)).alloc (.cells #[.slice B1 m1 d1,.slice B2 m2 d2,.slice B3 m3 d3,.slice B4 m4 d4,.slice B5 m5 d5] 32)):=(Ext.alloc _ _).and_alloc _
 refine (c_eqNetwork _ _ _ _ _ _ _ _ _ _ _ _ r.ns r.ps _ (h.s1.ext x0) (h.s2.ext x0) (i1.ext x0) (i2.ext x0)).mono ?_
 rintro e w1 ⟨rfl,hx1⟩
 obtain ⟨ha,a0,a1,a2,a3,a4⟩:=hinA.ext hx1
 obtain ⟨hb,b0,b1,b2,b3,b4⟩:=hinB.ext hx1
 simp only [World.size_alloc] at b0 b1 b2 b3 b4
 have x1:=x0.trans hx1
 go_wp2_with fail
 refine (c_eqContractS _ _ _ _ _ _ r.xs _ (h.s3.ext x1) (i3.ext x1)).mono ?_
 rintro e w2 ⟨rfl,hx2⟩
 clear ha a0 a1 a2 a3 a4 hb b0 b1 b2 b3 b4
 have hx12:=hx1.trans hx2
 obtain ⟨ha,a0,a1,a2,a3,a4⟩:=hinA.ext hx12
 obtain ⟨hb,b0,b1,b2,b3,b4⟩:=hinB.ext hx12
 simp only [World.size_alloc] at b0 b1 b2 b3 b4
 have x2:=x0.trans hx12
 go_wp2_with fail
 refine (c_eqNominationS _ _ _ _ _ _ r.L _ (h.s4.ext x2) (i4.ext x2)).mono ?_
 rintro e w3 ⟨rfl,hx3⟩
 clear ha a0 a1 a2 a3 a4 hb b0 b1 b2 b3 b4
 have hx13:=hx12.trans hx3
 obtain ⟨ha,a0,a1,a2,a3,a4⟩:=hinA.ext hx13
 obtain ⟨hb,b0,b1,b2,b3,b4⟩:=hinB.ext hx13
 simp only [World.size_alloc] at b0 b1 b2 b3 b4
 have x3:=x0.trans hx13
 go_wp2_with fail
 refine (c_eqReadingSS _ _ _ _ _ _ r.rs r'.rs _ (h.s5.ext x3) (fun q hq=>(h.s6 q hq).ext x3) (i5.ext x3) (fun q hq=>(i6 q hq).ext x3) HE.out).mono ?_
 rintro e w4 ⟨rfl,hx4⟩
 go_wp2_with fail
 go_ret
 exact Ret.bool rfl (x3.trans hx4)
end Go.Proofs.YtinindjjapblcaaGreatDoor
