/-
  Clones of slices and of networks, of the program and of the reference.
-/
import Derived.Test.YtjpmiokbgpggbaaGreatRb16
import Derived.Test.YtjpmiokbgpggbaaGreatRb07
import Derived.Test.YtjpmiokbgpggbaaGreatRb02
import Derived.Test.YtjpmiokbgpggbaaGreatRb03
namespace Go.Proofs.YtjpmiokbgpggbaaGreat
open Go.RowKit
/-- a new slice, by its address -/
def RetA {α : Type} (t : TypeId) (f : α → List Value) (L : List α) (w : World) (e : Ending) (w' : World) : Prop :=
  ∃ A n c, e = .returned (.slice A n c) ∧ OwnA w' t f A n c L ∧ (∀ b, blkOf A n = some b → w.heap.size ≤ b) ∧ Ext w w'
theorem OwnL.toA {α : Type} {w : World} {base : Nat} {t : TypeId} {size : Nat} {f : α → List Value} {v : Value} {L : List α} (h : OwnL w base t size f v L) (hf : ∀ x, (f x).length = size) (hs : 0 < size) :
    ∃ A c, v = .slice A L.length c ∧ OwnA w t f A L.length c L ∧ ∀ b, blkOf A L.length = some b → base ≤ b := by
  obtain ⟨A, c, g, hv, hg, hn, hc, ho⟩ := h.own hf hs
  exact ⟨A, c, hv, ho.toA hn hc, fun b hb => by have := (ho.blk hb).1; omega⟩
/-- a new slice that may be appended to -/
def RetL {α : Type} (t : TypeId) (size : Nat) (f : α → List Value) (L : List α) (w : World) (e : Ending) (w' : World) : Prop := ∃ v, e = .returned v ∧ OwnL w' w.heap.size t size f v L ∧ Ext w w'
theorem RetL.toA {α : Type} {t : TypeId} {size : Nat} {f : α → List Value} {L : List α} {w w' : World} {e : Ending} (h : RetL t size f L w e w') (hf : ∀ x, (f x).length = size) (hs : 0 < size) : RetA t f L w e w' := by
  obtain ⟨v, rfl, ho, hx⟩ := h
  obtain ⟨A', c', hv, ho, hb⟩ := ho.toA hf hs
  exact ⟨A', _, c', by rw [hv], ho, hb, hx⟩
theorem node_one (y : Node) : ∀ u ∈ y.cells, u.oneCell' = true := by intro u hu; simp [Node.cells] at hu; rcases hu with rfl | rfl | rfl <;> rfl
theorem pipe_one (y : Pipe) : ∀ u ∈ y.cells, u.oneCell' = true := by intro u hu; simp [Pipe.cells] at hu; rcases hu with rfl | rfl | rfl | rfl | rfl <;> rfl
theorem contract_one (y : Contract) : ∀ u ∈ y.cells, u.oneCell' = true := by intro u hu; simp [Contract.cells] at hu; rcases hu with rfl | rfl | rfl | rfl | rfl | rfl | rfl | rfl <;> rfl
theorem nomination_one (y : Nomination) : ∀ u ∈ y.cells, u.oneCell' = true := by intro u hu; simp [Nomination.cells] at hu; rcases hu with rfl | rfl | rfl | rfl <;> rfl
theorem reading_one (y : Reading) : ∀ u ∈ y.cells, u.oneCell' = true := by intro u hu; simp [Reading.cells] at hu; rcases hu with rfl | rfl <;> rfl
set_option maxRecDepth 8000 in
set_option maxHeartbeats 1000000 in
theorem l_cloneNode (A : Option Addr) (n c : Nat) (xs : List Node) (w : World) (hs : SliceOf w 3 Node.cells A n c xs) (hn : n ≤ 1048576) :
    Calls Tryz.prog 129 #[.slice A n c] w (RetL 115 3 Node.cells xs w) := by
  cases A with
  | none =>
    obtain ⟨rfl, rfl⟩ := hs.none_nil
    have hnil : ∀ W, (binOp .eql 24 (.slice none 0 c) (.slice none 0 0)).run Tryz.prog W = .ok (.bool true) W := fun W => run_eql_nil_slice W _ _ none 0 c 0 0 Tryz.underlying24
    go_enter Tryz.func129, Tryz.ntmps129
    go_wp2_with fail
    go_ret
    exact ⟨_, rfl, OwnL.nil_ _ _ _ _ _, Ext.refl _⟩
  | some ad =>
    have hnil : ∀ W, (binOp .eql 24 (.slice (some ad) n c) (.slice none 0 0)).run Tryz.prog W = .ok (.bool false) W := fun W => run_eql_nil_slice W _ _ (some ad) n c 0 0 Tryz.underlying24
    go_enter Tryz.func129, Tryz.ntmps129
    go_wp2_with (at_builtin; go_must (refine wpList_append_slice rfl _ _ 24 rfl (w.heap.size) 115 _ 3 32 Tryz.underlying24 node_info rfl (by decide) Node.cells node_len node_one _ [] rfl (OwnL.empty w _ _ _ _ (Nat.le_refl _)) (some ad) n c xs rfl (hs.ext (Ext.alloc _ _)) (by first | omega | (simp; omega)) (by omega) (by first | exact Nat.le_refl _ | omega | (simp; done) | (simp; omega)) ?_))
    intro v w1 hown hext
    have hx := hext w (Nat.le_refl _) (Ext.alloc _ _)
    go_wp2_with fail
    go_ret
    exact ⟨v, rfl, hown, hx⟩
theorem c_cloneNode (A : Option Addr) (n c : Nat) (xs : List Node) (w : World) (hs : SliceOf w 3 Node.cells A n c xs) (hn : n ≤ 1048576) :
    Calls Tryz.prog 129 #[.slice A n c] w (RetA 115 Node.cells xs w) :=
  (l_cloneNode A n c xs w hs hn).mono fun _ _ h => h.toA node_len (by decide)
set_option maxRecDepth 8000 in
set_option maxHeartbeats 1000000 in
theorem l_clonePipe (A : Option Addr) (n c : Nat) (xs : List Pipe) (w : World) (hs : SliceOf w 5 Pipe.cells A n c xs) (hn : n ≤ 1048576) :
    Calls Tryz.prog 130 #[.slice A n c] w (RetL 117 5 Pipe.cells xs w) := by
  cases A with
  | none =>
    obtain ⟨rfl, rfl⟩ := hs.none_nil
    have hnil : ∀ W, (binOp .eql 25 (.slice none 0 c) (.slice none 0 0)).run Tryz.prog W = .ok (.bool true) W := fun W => run_eql_nil_slice W _ _ none 0 c 0 0 Tryz.underlying25
    go_enter Tryz.func130, Tryz.ntmps130
    go_wp2_with fail
    go_ret
    exact ⟨_, rfl, OwnL.nil_ _ _ _ _ _, Ext.refl _⟩
  | some ad =>
    have hnil : ∀ W, (binOp .eql 25 (.slice (some ad) n c) (.slice none 0 0)).run Tryz.prog W = .ok (.bool false) W := fun W => run_eql_nil_slice W _ _ (some ad) n c 0 0 Tryz.underlying25
    go_enter Tryz.func130, Tryz.ntmps130
    go_wp2_with (at_builtin; go_must (refine wpList_append_slice rfl _ _ 25 rfl (w.heap.size) 117 _ 5 40 Tryz.underlying25 pipe_info rfl (by decide) Pipe.cells pipe_len pipe_one _ [] rfl (OwnL.empty w _ _ _ _ (Nat.le_refl _)) (some ad) n c xs rfl (hs.ext (Ext.alloc _ _)) (by first | omega | (simp; omega)) (by omega) (by first | exact Nat.le_refl _ | omega | (simp; done) | (simp; omega)) ?_))
    intro v w1 hown hext
    have hx := hext w (Nat.le_refl _) (Ext.alloc _ _)
    go_wp2_with fail
    go_ret
    exact ⟨v, rfl, hown, hx⟩
theorem c_clonePipe (A : Option Addr) (n c : Nat) (xs : List Pipe) (w : World) (hs : SliceOf w 5 Pipe.cells A n c xs) (hn : n ≤ 1048576) :
    Calls Tryz.prog 130 #[.slice A n c] w (RetA 117 Pipe.cells xs w) :=
  (l_clonePipe A n c xs w hs hn).mono fun _ _ h => h.toA pipe_len (by decide)
set_option maxRecDepth 8000 in
set_option maxHeartbeats 1000000 in
theorem l_cloneContract (A : Option Addr) (n c : Nat) (xs : List Contract) (w : World) (hs : SliceOf w 8 Contract.cells A n c xs) (hn : n ≤ 1048576) :
    Calls Tryz.prog 95 #[.slice A n c] w (RetL 68 8 Contract.cells xs w) := by
  cases A with
  | none =>
    obtain ⟨rfl, rfl⟩ := hs.none_nil
    have hnil : ∀ W, (binOp .eql 28 (.slice none 0 c) (.slice none 0 0)).run Tryz.prog W = .ok (.bool true) W := fun W => run_eql_nil_slice W _ _ none 0 c 0 0 Tryz.underlying28
    go_enter Tryz.func95, Tryz.ntmps95
    go_wp2_with fail
    go_ret
    exact ⟨_, rfl, OwnL.nil_ _ _ _ _ _, Ext.refl _⟩
  | some ad =>
    have hnil : ∀ W, (binOp .eql 28 (.slice (some ad) n c) (.slice none 0 0)).run Tryz.prog W = .ok (.bool false) W := fun W => run_eql_nil_slice W _ _ (some ad) n c 0 0 Tryz.underlying28
    go_enter Tryz.func95, Tryz.ntmps95
    go_wp2_with (at_builtin; go_must (refine wpList_append_slice rfl _ _ 28 rfl (w.heap.size) 68 _ 8 64 Tryz.underlying28 contract_info rfl (by decide) Contract.cells contract_len contract_one _ [] rfl (OwnL.empty w _ _ _ _ (Nat.le_refl _)) (some ad) n c xs rfl (hs.ext (Ext.alloc _ _)) (by first | omega | (simp; omega)) (by omega) (by first | exact Nat.le_refl _ | omega | (simp; done) | (simp; omega)) ?_))
    intro v w1 hown hext
    have hx := hext w (Nat.le_refl _) (Ext.alloc _ _)
    go_wp2_with fail
    go_ret
    exact ⟨v, rfl, hown, hx⟩
theorem c_cloneContract (A : Option Addr) (n c : Nat) (xs : List Contract) (w : World) (hs : SliceOf w 8 Contract.cells A n c xs) (hn : n ≤ 1048576) :
    Calls Tryz.prog 95 #[.slice A n c] w (RetA 68 Contract.cells xs w) :=
  (l_cloneContract A n c xs w hs hn).mono fun _ _ h => h.toA contract_len (by decide)
set_option maxRecDepth 8000 in
set_option maxHeartbeats 1000000 in
theorem l_cloneNomination (A : Option Addr) (n c : Nat) (xs : List Nomination) (w : World) (hs : SliceOf w 4 Nomination.cells A n c xs) (hn : n ≤ 1048576) :
    Calls Tryz.prog 110 #[.slice A n c] w (RetL 70 4 Nomination.cells xs w) := by
  cases A with
  | none =>
    obtain ⟨rfl, rfl⟩ := hs.none_nil
    have hnil : ∀ W, (binOp .eql 29 (.slice none 0 c) (.slice none 0 0)).run Tryz.prog W = .ok (.bool true) W := fun W => run_eql_nil_slice W _ _ none 0 c 0 0 Tryz.underlying29
    go_enter Tryz.func110, Tryz.ntmps110
    go_wp2_with fail
    go_ret
    exact ⟨_, rfl, OwnL.nil_ _ _ _ _ _, Ext.refl _⟩
  | some ad =>
    have hnil : ∀ W, (binOp .eql 29 (.slice (some ad) n c) (.slice none 0 0)).run Tryz.prog W = .ok (.bool false) W := fun W => run_eql_nil_slice W _ _ (some ad) n c 0 0 Tryz.underlying29
    go_enter Tryz.func110, Tryz.ntmps110
    go_wp2_with (at_builtin; go_must (refine wpList_append_slice rfl _ _ 29 rfl (w.heap.size) 70 _ 4 32 Tryz.underlying29 nomination_info rfl (by decide) Nomination.cells nomination_len nomination_one _ [] rfl (OwnL.empty w _ _ _ _ (Nat.le_refl _)) (some ad) n c xs rfl (hs.ext (Ext.alloc _ _)) (by first | omega | (simp; omega)) (by omega) (by first | exact Nat.le_refl _ | omega | (simp; done) | (simp; omega)) ?_))
    intro v w1 hown hext
    have hx := hext w (Nat.le_refl _) (Ext.alloc _ _)
    go_wp2_with fail
    go_ret
    exact ⟨v, rfl, hown, hx⟩
theorem c_cloneNomination (A : Option Addr) (n c : Nat) (xs : List Nomination) (w : World) (hs : SliceOf w 4 Nomination.cells A n c xs) (hn : n ≤ 1048576) :
    Calls Tryz.prog 110 #[.slice A n c] w (RetA 70 Nomination.cells xs w) :=
  (l_cloneNomination A n c xs w hs hn).mono fun _ _ h => h.toA nomination_len (by decide)
set_option maxRecDepth 8000 in
set_option maxHeartbeats 1000000 in
theorem l_cloneReading (A : Option Addr) (n c : Nat) (xs : List Reading) (w : World) (hs : SliceOf w 2 Reading.cells A n c xs) (hn : n ≤ 1048576) :
    Calls Tryz.prog 111 #[.slice A n c] w (RetL 93 2 Reading.cells xs w) := by
  cases A with
  | none =>
    obtain ⟨rfl, rfl⟩ := hs.none_nil
    have hnil : ∀ W, (binOp .eql 72 (.slice none 0 c) (.slice none 0 0)).run Tryz.prog W = .ok (.bool true) W := fun W => run_eql_nil_slice W _ _ none 0 c 0 0 Tryz.underlying72
    go_enter Tryz.func111, Tryz.ntmps111
    go_wp2_with fail
    go_ret
    exact ⟨_, rfl, OwnL.nil_ _ _ _ _ _, Ext.refl _⟩
  | some ad =>
    have hnil : ∀ W, (binOp .eql 72 (.slice (some ad) n c) (.slice none 0 0)).run Tryz.prog W = .ok (.bool false) W := fun W => run_eql_nil_slice W _ _ (some ad) n c 0 0 Tryz.underlying72
    go_enter Tryz.func111, Tryz.ntmps111
    go_wp2_with (at_builtin; go_must (refine wpList_append_slice rfl _ _ 72 rfl (w.heap.size) 93 _ 2 16 Tryz.underlying72 reading_info rfl (by decide) Reading.cells reading_len reading_one _ [] rfl (OwnL.empty w _ _ _ _ (Nat.le_refl _)) (some ad) n c xs rfl (hs.ext (Ext.alloc _ _)) (by first | omega | (simp; omega)) (by omega) (by first | exact Nat.le_refl _ | omega | (simp; done) | (simp; omega)) ?_))
    intro v w1 hown hext
    have hx := hext w (Nat.le_refl _) (Ext.alloc _ _)
    go_wp2_with fail
    go_ret
    exact ⟨v, rfl, hown, hx⟩
theorem c_cloneReading (A : Option Addr) (n c : Nat) (xs : List Reading) (w : World) (hs : SliceOf w 2 Reading.cells A n c xs) (hn : n ≤ 1048576) :
    Calls Tryz.prog 111 #[.slice A n c] w (RetA 93 Reading.cells xs w) :=
  (l_cloneReading A n c xs w hs hn).mono fun _ _ h => h.toA reading_len (by decide)
/-- a new network, in blocks of its own -/
def RetNet (ns : List Node) (ps : List Pipe) (w : World) (e : Ending) (w' : World) : Prop :=
  ∃ A1 n1 c1 A2 n2 c2, e = .returned (.agg #[.slice A1 n1 c1, .slice A2 n2 c2]) ∧ OwnA w' 115 Node.cells A1 n1 c1 ns ∧ OwnA w' 117 Pipe.cells A2 n2 c2 ps ∧
    (∀ b, blkOf A1 n1 = some b → w.heap.size ≤ b) ∧ (∀ b, blkOf A2 n2 = some b → w.heap.size ≤ b) ∧ (∀ b, blkOf A1 n1 = some b → blkOf A2 n2 ≠ some b) ∧ Ext w w'
theorem sameC_of {cs : List (Nat × Nat)} {a b : World} (h : ∀ q ∈ cs, b.cell? ⟨q.1, q.2, none⟩ = a.cell? ⟨q.1, q.2, none⟩) : SameC cs a b := h
theorem OwnA.far {α : Type} {w : World} {t : TypeId} {f : α → List Value} {A : Option Addr} {n c : Nat} {xs : List α} (h : OwnA w t f A n c xs) {p : Addr} (hp : ∀ b, blkOf A n = some b → b ≠ p.block) (u : Value) : OwnA (w.setCell p u) t f A n c xs :=
  ⟨h.1, h.2.1, h.2.2.1, fun hn => let ⟨g, hA, r, hr⟩ := h.2.2.2 hn; ⟨g, hA, r, hr.far (hp g (by unfold blkOf; rw [if_neg (by omega), hA]; rfl)) u⟩⟩
set_option maxHeartbeats 1000000 in
theorem c_cloneNetwork (A1 A2 : Option Addr) (n1 c1 n2 c2 : Nat) (ns : List Node) (ps : List Pipe) (w : World) (h1 : SliceOf w 3 Node.cells A1 n1 c1 ns) (h2 : SliceOf w 5 Pipe.cells A2 n2 c2 ps) (m1 : n1 ≤ 1048576) (m2 : n2 ≤ 1048576) :
    Calls Tryz.prog 94 #[.agg #[.slice A1 n1 c1, .slice A2 n2 c2]] w (RetNet ns ps w) := by
  have x0 : Ext w ((w.alloc (.cells #[.slice A1 n1 c1, .slice A2 n2 c2] 27)).alloc (.cells #[.slice none 0 0, .slice none 0 0] 27)) := (Ext.alloc _ _).and_alloc _
  go_enter Tryz.func94, Tryz.ntmps94
  go_wp2_with fail
  refine wp_region_phC [(w.heap.size, 0), (w.heap.size, 1)] [([0, 1, 3, 4], 2), ([], 5), ([6], 7)] [] (by kernel_rfl) (by kernel_rfl) (by intro c a w d v h; cases d <;> exact h) ?_
  simp only [wpPhC, pickL, nthO]
  repeat (go_big_quiet_step (fail))
  refine wpQuiet_nil ?_
  go_wp2_with fail
  refine (c_cloneNode A1 n1 c1 ns _ (h1.ext x0.drew) m1).mono ?_
  rintro e w1 ⟨B1, k1, d1, rfl, o1, b1, hx1⟩
  have hz1 := hx1.size
  simp at hz1
  go_wp2_with fail
  refine ⟨SameC.of_ext ((Ext.refl _).drew.trans hx1) (by simp; omega), wpQuiet_nil ?_⟩
  go_wp2_with fail
  refine (c_clonePipe A2 n2 c2 ps _ (h2.ext (x0.drew.trans hx1)) m2).mono ?_
  rintro e w2 ⟨B2, k2, d2, rfl, o2, b2, hx2⟩
  have hz2 := hx2.size
  have hx12 := (Ext.refl ((w.alloc (.cells #[.slice A1 n1 c1, .slice A2 n2 c2] 27)).alloc (.cells #[.slice none 0 0, .slice none 0 0] 27))).drew.trans (hx1.trans hx2)
  have hcl := hx12.cell
  have hfr := hx12.frozen
  have hz3 : w.heap.size < w2.heap.size := by omega
  have hz4 : w.heap.size + 1 < w2.heap.size := by omega
  go_wp2_with fail
  refine ⟨SameC.of_ext hx12 (by simp; omega), ?_⟩
  repeat (go_big_quiet_step (fail))
  refine wpQuiet_nil ?_
  go_wp2_with fail
  refine ⟨SameC.setCell (SameC.setCell (SameC.of_ext hx12 (by simp; omega)) (by simp) _) (by simp) _, wpQuiet_nil ?_⟩
  go_wp2
  have f1 : ∀ b, blkOf B1 k1 = some b → b ≠ w.heap.size + 1 := fun b hb => by have := b1 b hb; simp at this; omega
  have f2 : ∀ b, blkOf B2 k2 = some b → b ≠ w.heap.size + 1 := fun b hb => by have := b2 b hb; omega
  refine bodyPost_ret (v := .agg #[.slice B1 k1 d1, .slice B2 k2 d2]) (by simp [results, Tryz.results94, go_sem, hcl]) rfl ⟨B1, k1, d1, B2, k2, d2, rfl, ?_, ?_, ?_, ?_, ?_, ?_⟩
  · repeat (refine OwnA.far ?_ f1 _)
    exact o1.ext hx2
  · repeat (refine OwnA.far ?_ f2 _)
    exact o2
  · intro b hb; have := b1 b hb; simp at this; omega
  · intro b hb; have := b2 b hb; omega
  · intro b hb hb'
    have := o1.lt hb
    have := b2 b hb'
    omega
  · repeat (refine Ext.setCell ?_ (by first | (simp; done) | (simp; omega) | omega) _)
    exact x0.trans hx12

/-- a network elsewhere -/
def NetAt (ns : List Node) (ps : List Pipe) (w : World) (e : Ending) (w' : World) : Prop :=
  ∃ A1 n1 c1 A2 n2 c2, e = .returned (.agg #[.slice A1 n1 c1, .slice A2 n2 c2]) ∧ SliceOf w' 3 Node.cells A1 n1 c1 ns ∧ SliceOf w' 5 Pipe.cells A2 n2 c2 ps ∧ (∀ b, blkOf A1 n1 = some b → w.heap.size ≤ b) ∧ (∀ b, blkOf A2 n2 = some b → w.heap.size ≤ b) ∧ Ext w w'
theorem OwnL.blk_ne {α : Type} {w : World} {base : Nat} {e : TypeId} {size : Nat} {f : α → List Value} {v : Value} {L : List α} {g : Nat} {cs : List Value} {t : TypeId} (h : OwnL w base e size f v L) (hr : Row w g t cs) (ht : t ≠ e) : ∀ k, v.ownBlock = some k → some g ≠ some k := by
  intro k hk he
  injection he with he
  subst he
  rcases h.2 with ⟨rfl, _⟩ | ⟨k', cap, cur, rfl, hb, hh, _⟩
  · simp [Value.ownBlock] at hk
  · simp [Value.ownBlock] at hk
    subst hk
    unfold Row at hr
    rw [hh] at hr
    simp at hr
    exact ht hr.2.symm
theorem Only.of_grown {w w' : World} {g : Nat} (h : w.grownBy w' (some g)) : Only g w w' := h
theorem OwnL.far {α : Type} {w : World} {base : Nat} {e : TypeId} {size : Nat} {f : α → List Value} {v : Value} {L : List α} (h : OwnL w base e size f v L) {p : Addr} (hp : p.block < base) (u : Value) : OwnL (w.setCell p u) base e size f v L := by
  obtain ⟨h1, h2⟩ := h
  refine ⟨h1, ?_⟩
  rcases h2 with h2 | ⟨k, cap, cur, hv, hb, hh, r⟩
  · exact .inl h2
  · exact .inr ⟨k, cap, cur, hv, hb, (Below.heap_setCell w p u k (by omega)).trans hh, r⟩
theorem own_new {α : Type} (W : World) (base : Nat) (t : TypeId) (size : Nat) (f : α → List Value) (g : Nat) (hg : g = W.heap.size) (hb : base ≤ g) : OwnL (W.alloc (.cells #[] t)) base t size f (.slice (some ⟨g, 0, none⟩) 0 0) [] := by
  subst hg; exact OwnL.empty W base t size f hb
theorem wp_ext_only {w0 w w' : World} {g : Nat} (h : Ext w0 w) (k : w.grownBy w' (some g)) (hg : w0.heap.size ≤ g) : Ext w0 w' := h.only k hg
set_option maxHeartbeats 4000000 in
theorem c_l02Own (A1 A2 : Option Addr) (n1 c1 n2 c2 : Nat) (ns : List Node) (ps : List Pipe) (w : World) (h1 : SliceOf w 3 Node.cells A1 n1 c1 ns) (h2 : SliceOf w 5 Pipe.cells A2 n2 c2 ps) (m1 : n1 ≤ 1048576) (m2 : n2 ≤ 1048576) :
    Calls Tryz.prog 88 #[.agg #[.slice A1 n1 c1, .slice A2 n2 c2]] w (NetAt ns ps w) := by
  obtain ⟨W, HW⟩ : ∃ W, Hid (W = ((w.alloc (.cells #[.slice A1 n1 c1, .slice A2 n2 c2] 27)).alloc (.cells #[.slice none 0 0, .slice none 0 0] 27))) := ⟨_, hide rfl⟩
  have x0 : Ext w W := by rw [HW.out]; exact (Ext.alloc _ _).and_alloc _
  have hza : W.heap.size ≤ w.heap.size + 2 := by rw [HW.out]; simp
  have hzb : w.heap.size + 2 ≤ W.heap.size := by rw [HW.out]; simp
  have k0 : W.cell? ⟨w.heap.size, 0, none⟩ = some (.slice A1 n1 c1) := by rw [HW.out]; simp
  have k1 : W.cell? ⟨w.heap.size, 1, none⟩ = some (.slice A2 n2 c2) := by rw [HW.out]; simp
  have j0 : W.cell? ⟨w.heap.size + 1, 0, none⟩ = some (.slice none 0 0) := by rw [HW.out]; simp
  have j1 : W.cell? ⟨w.heap.size + 1, 1, none⟩ = some (.slice none 0 0) := by rw [HW.out]; simp
  have f0 : ∀ o, W.frozen? ⟨w.heap.size + 1, o, none⟩ = false := by rw [HW.out]; intro o; simp
  go_enter Tryz.func88, Tryz.ntmps88
  go_wp2_with fail
  rw [← HW.out]
  have rz : ∀ X : World, Ext W X → SameC [(w.heap.size, 0), (w.heap.size, 1)] W X := fun X hX => SameC.of_ext hX (by simp; omega)
  refine wp_region_phT [(w.heap.size, 0), (w.heap.size, 1)] (.two [1, 2, 5, 6] 0 (.two [] 3 (.one [] 4 (.one [] 7 (.one [8] 9 (.last [])))) 4 (.one [] 3 (.one [] 7 (.one [8] 9 (.last []))))) 4 (.one [] 0 (.one [] 3 (.one [] 7 (.one [8] 9 (.last [])))))) (by kernel_rfl) (by kernel_rfl) (by intro c a w d v h; cases d <;> exact h) ?_
  simp only [wpPhT, pickL, nthO]
  repeat (go_big_quiet_step (fail))
  refine wpQuiet_nil ?_
  refine ⟨?_, ?_⟩
  · go_wp2_with fail
    have hXa : Ext W (W.alloc (.cells #[] 115)).drew := (Ext.alloc _ _).drew
    refine ⟨rz _ hXa, wpQuiet_nil ⟨?_, ?_⟩⟩
    · have hn0 : OwnL (W.alloc (.cells #[] 115)).drew (w.heap.size + 2) 115 3 Node.cells (.slice (some ⟨W.heap.size, 0, none⟩) 0 0) [] := (own_new W _ _ _ _ _ rfl (by omega)).ext (Ext.refl _).drew
      go_wp2_with (at_builtin; go_must (refine wpList_append_grow rfl _ _ 24 rfl (w.heap.size + 2) 115 _ 3 32 Tryz.underlying24 node_info rfl (by decide) Node.cells node_len node_one (.slice (some ⟨W.heap.size, 0, none⟩) 0 0) [] rfl (hn0) A1 n1 c1 ns rfl (h1.ext (x0.trans hXa)) (by first | omega | (simp; omega)) (by omega) (by first | exact Nat.le_refl _ | omega | (simp; done) | (simp; omega)) ?_))
      intro v1 w1 o1 g1
      have hX1 := wp_ext_only hXa g1 (Nat.le_refl _)
      have hz1 := hX1.size
      go_wp2_with fail
      refine ⟨rz _ hX1, wpQuiet_nil ?_⟩
      go_wp2_with fail
      refine ⟨rz _ (hX1.and_alloc _), wpQuiet_nil ?_⟩
      have hp0 : OwnL (w1.alloc (.cells #[] 117)) (w.heap.size + 2) 117 5 Pipe.cells (.slice (some ⟨w1.heap.size, 0, none⟩) 0 0) [] := own_new w1 _ _ _ _ _ rfl (by omega)
      go_wp2_with (at_builtin; go_must (refine wpList_append_grow rfl _ _ 25 rfl (w.heap.size + 2) 117 _ 5 40 Tryz.underlying25 pipe_info rfl (by decide) Pipe.cells pipe_len pipe_one (.slice (some ⟨w1.heap.size, 0, none⟩) 0 0) [] rfl (hp0) A2 n2 c2 ps rfl (h2.ext (x0.trans (hX1.and_alloc _))) (by first | omega | (simp; omega)) (by omega) (by first | exact Nat.le_refl _ | omega | (simp; done) | (simp; omega)) ?_))
      intro v2 w2 o2 g2
      have hX := wp_ext_only (hX1.and_alloc _) g2 (by first | (simp; done) | (simp; omega) | omega)
      have o1 := (o1.ext (Ext.alloc _ _)).grown g2 (OwnL.blk_ne (o1.ext (Ext.alloc _ _)) (Row.new w1 117 []) (by decide))
      go_wp2_with fail
      obtain ⟨B1, d1, rfl, p1, q1⟩ := o1.toA node_len (by omega)
      obtain ⟨B2, d2, rfl, p2, q2⟩ := o2.toA pipe_len (by omega)
      have j0' := (hX.cell (w.heap.size + 1) 0 (by omega)).trans j0
      have j1' := (hX.cell (w.heap.size + 1) 1 (by omega)).trans j1
      have f0' := fun o => (hX.frozen (w.heap.size + 1) o (by omega)).trans (f0 o)
      have hzz : w.heap.size + 1 < w2.heap.size := by have := hX.size; omega
      refine ⟨SameC.of_ext hX (by simp; omega), ?_⟩
      repeat (go_big_quiet_step (fail))
      refine wpQuiet_nil ?_
      go_wp2_with fail
      refine ⟨SameC.setCell (SameC.setCell (SameC.of_ext hX (by simp; omega)) (by simp) _) (by simp) _, wpQuiet_nil ?_⟩
      go_wp2
      have u1 : ∀ b, blkOf B1 ns.length = some b → b ≠ w.heap.size + 1 := fun b hb => by have := q1 b hb; omega
      have u2 : ∀ b, blkOf B2 ps.length = some b → b ≠ w.heap.size + 1 := fun b hb => by have := q2 b hb; omega
      refine bodyPost_ret (v := .agg #[.slice B1 ns.length d1, .slice B2 ps.length d2]) (by simp [results, Tryz.results88, go_sem, j0', j1']) rfl ⟨B1, _, d1, B2, _, d2, rfl, ?_, ?_, fun b hb => by have := q1 b hb; omega, fun b hb => by have := q2 b hb; omega, ?_⟩
      · refine OwnA.slice (t := 115) ?_ node_len
        repeat (refine OwnA.far ?_ u1 _)
        exact p1
      · refine OwnA.slice (t := 117) ?_ pipe_len
        repeat (refine OwnA.far ?_ u2 _)
        exact p2
      · refine Ext.setCell (Ext.setCell (x0.trans hX) (by simp) _) (by simp) _
    · go_wp2_with fail
      have hXb : Ext W ((W.alloc (.cells #[] 115)).alloc (.cells #[] 117)).drew := ((Ext.alloc _ _).and_alloc _).drew
      refine ⟨rz _ hXb, wpQuiet_nil ?_⟩
      have hn0 : OwnL ((W.alloc (.cells #[] 115)).alloc (.cells #[] 117)).drew (w.heap.size + 2) 115 3 Node.cells (.slice (some ⟨W.heap.size, 0, none⟩) 0 0) [] := (own_new W _ _ _ _ _ rfl (by omega)).ext (Ext.alloc _ _).drew
      have hp0 : OwnL ((W.alloc (.cells #[] 115)).alloc (.cells #[] 117)).drew (w.heap.size + 2) 117 5 Pipe.cells (.slice (some ⟨W.heap.size + 1, 0, none⟩) 0 0) [] := (own_new (W.alloc (.cells #[] 115)) _ _ _ _ _ (by simp) (by omega)).ext (Ext.refl _).drew
      have rp : Row ((W.alloc (.cells #[] 115)).alloc (.cells #[] 117)).drew (W.heap.size + 1) 117 [] := by have := (Row.new (W.alloc (.cells #[] 115)) 117 []).drew; simpa using this
      go_wp2_with (at_builtin; go_must (refine wpList_append_grow rfl _ _ 24 rfl (w.heap.size + 2) 115 _ 3 32 Tryz.underlying24 node_info rfl (by decide) Node.cells node_len node_one (.slice (some ⟨W.heap.size, 0, none⟩) 0 0) [] rfl (hn0) A1 n1 c1 ns rfl (h1.ext (x0.trans hXb)) (by first | omega | (simp; omega)) (by omega) (by first | exact Nat.le_refl _ | omega | (simp; done) | (simp; omega)) ?_))
      intro v1 w1 o1 g1
      have hX1 := wp_ext_only hXb g1 (Nat.le_refl _)
      have hp1 := hp0.grown g1 (by intro k hk; simp [Value.ownBlock] at hk ⊢; omega)
      have rp1 := rp.only (Only.of_grown g1) (by first | (simp; done) | (simp; omega) | omega)
      have hz1 := hX1.size
      go_wp2_with fail
      refine ⟨rz _ hX1, wpQuiet_nil ?_⟩
      go_wp2_with (at_builtin; go_must (refine wpList_append_grow rfl _ _ 25 rfl (w.heap.size + 2) 117 _ 5 40 Tryz.underlying25 pipe_info rfl (by decide) Pipe.cells pipe_len pipe_one (.slice (some ⟨W.heap.size + 1, 0, none⟩) 0 0) [] rfl (hp1) A2 n2 c2 ps rfl (h2.ext (x0.trans hX1)) (by first | omega | (simp; omega)) (by omega) (by first | exact Nat.le_refl _ | omega | (simp; done) | (simp; omega)) ?_))
      intro v2 w2 o2 g2
      have hX := wp_ext_only hX1 g2 (by first | (simp; done) | (simp; omega) | omega)
      have o1 := o1.grown g2 (OwnL.blk_ne o1 rp1 (by decide))
      go_wp2_with fail
      obtain ⟨B1, d1, rfl, p1, q1⟩ := o1.toA node_len (by omega)
      obtain ⟨B2, d2, rfl, p2, q2⟩ := o2.toA pipe_len (by omega)
      have j0' := (hX.cell (w.heap.size + 1) 0 (by omega)).trans j0
      have j1' := (hX.cell (w.heap.size + 1) 1 (by omega)).trans j1
      have f0' := fun o => (hX.frozen (w.heap.size + 1) o (by omega)).trans (f0 o)
      have hzz : w.heap.size + 1 < w2.heap.size := by have := hX.size; omega
      refine ⟨SameC.of_ext hX (by simp; omega), ?_⟩
      repeat (go_big_quiet_step (fail))
      refine wpQuiet_nil ?_
      go_wp2_with fail
      refine ⟨SameC.setCell (SameC.setCell (SameC.of_ext hX (by simp; omega)) (by simp) _) (by simp) _, wpQuiet_nil ?_⟩
      go_wp2
      have u1 : ∀ b, blkOf B1 ns.length = some b → b ≠ w.heap.size + 1 := fun b hb => by have := q1 b hb; omega
      have u2 : ∀ b, blkOf B2 ps.length = some b → b ≠ w.heap.size + 1 := fun b hb => by have := q2 b hb; omega
      refine bodyPost_ret (v := .agg #[.slice B1 ns.length d1, .slice B2 ps.length d2]) (by simp [results, Tryz.results88, go_sem, j0', j1']) rfl ⟨B1, _, d1, B2, _, d2, rfl, ?_, ?_, fun b hb => by have := q1 b hb; omega, fun b hb => by have := q2 b hb; omega, ?_⟩
      · refine OwnA.slice (t := 115) ?_ node_len
        repeat (refine OwnA.far ?_ u1 _)
        exact p1
      · refine OwnA.slice (t := 117) ?_ pipe_len
        repeat (refine OwnA.far ?_ u2 _)
        exact p2
      · refine Ext.setCell (Ext.setCell (x0.trans hX) (by simp) _) (by simp) _
  · go_wp2_with fail
    have hXa : Ext W (W.alloc (.cells #[] 117)).drew := (Ext.alloc _ _).drew
    refine ⟨rz _ hXa, wpQuiet_nil ?_⟩
    go_wp2_with fail
    have hXb : Ext W ((W.alloc (.cells #[] 117)).alloc (.cells #[] 115)).drew := ((Ext.alloc _ _).and_alloc _).drew
    refine ⟨rz _ hXb, wpQuiet_nil ?_⟩
    have hn0 : OwnL ((W.alloc (.cells #[] 117)).alloc (.cells #[] 115)).drew (w.heap.size + 2) 115 3 Node.cells (.slice (some ⟨W.heap.size + 1, 0, none⟩) 0 0) [] := (own_new (W.alloc (.cells #[] 117)) _ _ _ _ _ (by simp) (by omega)).ext (Ext.refl _).drew
    have hp0 : OwnL ((W.alloc (.cells #[] 117)).alloc (.cells #[] 115)).drew (w.heap.size + 2) 117 5 Pipe.cells (.slice (some ⟨W.heap.size, 0, none⟩) 0 0) [] := (own_new W _ _ _ _ _ rfl (by omega)).ext (Ext.alloc _ _).drew
    have rp : Row ((W.alloc (.cells #[] 117)).alloc (.cells #[] 115)).drew W.heap.size 117 [] := ((Row.new W 117 []).alloc _).drew
    go_wp2_with (at_builtin; go_must (refine wpList_append_grow rfl _ _ 24 rfl (w.heap.size + 2) 115 _ 3 32 Tryz.underlying24 node_info rfl (by decide) Node.cells node_len node_one (.slice (some ⟨W.heap.size + 1, 0, none⟩) 0 0) [] rfl (hn0) A1 n1 c1 ns rfl (h1.ext (x0.trans hXb)) (by first | omega | (simp; omega)) (by omega) (by first | exact Nat.le_refl _ | omega | (simp; done) | (simp; omega)) ?_))
    intro v1 w1 o1 g1
    have hX1 := wp_ext_only hXb g1 (by first | (simp; done) | (simp; omega) | omega)
    have hp1 := hp0.grown g1 (by intro k hk; simp [Value.ownBlock] at hk ⊢; omega)
    have rp1 := rp.only (Only.of_grown g1) (by first | (simp; done) | (simp; omega) | omega)
    have hz1 := hX1.size
    go_wp2_with fail
    refine ⟨rz _ hX1, wpQuiet_nil ?_⟩
    go_wp2_with (at_builtin; go_must (refine wpList_append_grow rfl _ _ 25 rfl (w.heap.size + 2) 117 _ 5 40 Tryz.underlying25 pipe_info rfl (by decide) Pipe.cells pipe_len pipe_one (.slice (some ⟨W.heap.size, 0, none⟩) 0 0) [] rfl (hp1) A2 n2 c2 ps rfl (h2.ext (x0.trans hX1)) (by first | omega | (simp; omega)) (by omega) (by first | exact Nat.le_refl _ | omega | (simp; done) | (simp; omega)) ?_))
    intro v2 w2 o2 g2
    have hX := wp_ext_only hX1 g2 (by first | (simp; done) | (simp; omega) | omega)
    have o1 := o1.grown g2 (OwnL.blk_ne o1 rp1 (by decide))
    go_wp2_with fail
    obtain ⟨B1, d1, rfl, p1, q1⟩ := o1.toA node_len (by omega)
    obtain ⟨B2, d2, rfl, p2, q2⟩ := o2.toA pipe_len (by omega)
    have j0' := (hX.cell (w.heap.size + 1) 0 (by omega)).trans j0
    have j1' := (hX.cell (w.heap.size + 1) 1 (by omega)).trans j1
    have f0' := fun o => (hX.frozen (w.heap.size + 1) o (by omega)).trans (f0 o)
    have hzz : w.heap.size + 1 < w2.heap.size := by have := hX.size; omega
    refine ⟨SameC.of_ext hX (by simp; omega), ?_⟩
    repeat (go_big_quiet_step (fail))
    refine wpQuiet_nil ?_
    go_wp2_with fail
    refine ⟨SameC.setCell (SameC.setCell (SameC.of_ext hX (by simp; omega)) (by simp) _) (by simp) _, wpQuiet_nil ?_⟩
    go_wp2
    have u1 : ∀ b, blkOf B1 ns.length = some b → b ≠ w.heap.size + 1 := fun b hb => by have := q1 b hb; omega
    have u2 : ∀ b, blkOf B2 ps.length = some b → b ≠ w.heap.size + 1 := fun b hb => by have := q2 b hb; omega
    refine bodyPost_ret (v := .agg #[.slice B1 ns.length d1, .slice B2 ps.length d2]) (by simp [results, Tryz.results88, go_sem, j0', j1']) rfl ⟨B1, _, d1, B2, _, d2, rfl, ?_, ?_, fun b hb => by have := q1 b hb; omega, fun b hb => by have := q2 b hb; omega, ?_⟩
    · refine OwnA.slice (t := 115) ?_ node_len
      repeat (refine OwnA.far ?_ u1 _)
      exact p1
    · refine OwnA.slice (t := 117) ?_ pipe_len
      repeat (refine OwnA.far ?_ u2 _)
      exact p2
    · refine Ext.setCell (Ext.setCell (x0.trans hX) (by simp) _) (by simp) _
end Go.Proofs.YtjpmiokbgpggbaaGreat
