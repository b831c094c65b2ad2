/-
  New rooms, of the program and of the reference. The helpers of the laws on Event: copying, comparing, measuring, marking. Marking and holding slices of int64; what a call that returns a slice and a code leaves.
-/
import Derived.Test.YtjpmiokbgpggbaaGreatQa22
import Derived.Test.YtjpmiokbgpggbaaGreatQa29
import Derived.Test.YtjpmiokbgpggbaaGreatQa14
import Derived.Test.YtjpmiokbgpggbaaGreatQa03
namespace Go.Proofs.YtjpmiokbgpggbaaGreat
open Go.RowKit
theorem sepP {x1 x2 x3 x4 x5 : Option Nat} (h12 : ∀ b, x1 = some b → x2 ≠ some b) (h13 : ∀ b, x1 = some b → x3 ≠ some b) (h14 : ∀ b, x1 = some b → x4 ≠ some b) (h15 : ∀ b, x1 = some b → x5 ≠ some b)
    (h23 : ∀ b, x2 = some b → x3 ≠ some b) (h24 : ∀ b, x2 = some b → x4 ≠ some b) (h25 : ∀ b, x2 = some b → x5 ≠ some b) (h34 : ∀ b, x3 = some b → x4 ≠ some b) (h35 : ∀ b, x3 = some b → x5 ≠ some b) (h45 : ∀ b, x4 = some b → x5 ≠ some b) : SepL [x1, x2, x3, x4, x5] := by
  intro i j b hij hi hj
  have key : ∀ i, [x1, x2, x3, x4, x5][i]? = some (some b) → (i = 0 ∧ x1 = some b) ∨ (i = 1 ∧ x2 = some b) ∨ (i = 2 ∧ x3 = some b) ∨ (i = 3 ∧ x4 = some b) ∨ (i = 4 ∧ x5 = some b) := by
    intro i hi
    match i with
    | 0 => simp at hi; exact .inl ⟨rfl, hi⟩
    | 1 => simp at hi; exact .inr (.inl ⟨rfl, hi⟩)
    | 2 => simp at hi; exact .inr (.inr (.inl ⟨rfl, hi⟩))
    | 3 => simp at hi; exact .inr (.inr (.inr (.inl ⟨rfl, hi⟩)))
    | 4 => simp at hi; exact .inr (.inr (.inr (.inr ⟨rfl, hi⟩)))
    | i + 5 => simp at hi
  rcases key i hi with ⟨rfl, h⟩ | ⟨rfl, h⟩ | ⟨rfl, h⟩ | ⟨rfl, h⟩ | ⟨rfl, h⟩ <;> rcases key j hj with ⟨rfl, h'⟩ | ⟨rfl, h'⟩ | ⟨rfl, h'⟩ | ⟨rfl, h'⟩ | ⟨rfl, h'⟩ <;>
    first
    | exact hij rfl
    | exact h12 b h h'
    | exact h13 b h h'
    | exact h14 b h h'
    | exact h15 b h h'
    | exact h23 b h h'
    | exact h24 b h h'
    | exact h25 b h h'
    | exact h34 b h h'
    | exact h35 b h h'
    | exact h45 b h h'
    | exact h12 b h' h
    | exact h13 b h' h
    | exact h14 b h' h
    | exact h15 b h' h
    | exact h23 b h' h
    | exact h24 b h' h
    | exact h25 b h' h
    | exact h34 b h' h
    | exact h35 b h' h
    | exact h45 b h' h
theorem Row.new' {W : World} {g : Nat} {t : TypeId} {cs : List Value} (hg : g = W.heap.size) : Row (W.alloc (.cells cs.toArray t)) g t cs := by subst hg; exact Row.new W t cs
theorem blk_zero (A : Option Addr) (b : Nat) : blkOf A 0 ≠ some b := by simp [blkOf]
def newR (ns : List Node) (ps : List Pipe) (xs : List Contract) : Room := ⟨ns, ps, xs, [], [⟨none, 0, 0, []⟩]⟩
def RetRoom (R : Room) (w : World) (e : Ending) (w' : World) : Prop :=
  ∃ (A1 A2 A3 A4 A5 : Option Addr) (n1 c1 n2 c2 n3 c3 n4 c4 n5 c5 : Nat) (r' : Room), e = .returned (.agg #[.slice A1 n1 c1, .slice A2 n2 c2, .slice A3 n3 c3, .slice A4 n4 c4, .slice A5 n5 c5]) ∧ ROwn w' w.heap.size w'.heap.size A1 A2 A3 A4 A5 n1 c1 n2 c2 n3 c3 n4 c4 n5 c5 r' ∧ r'.Like R ∧ Ext w w'
def BXR : Array Value := #[.slice none 0 0, .slice none 0 0, .slice none 0 0, .slice none 0 0, .slice none 0 0]
theorem OwnA.set5 {α : Type} {w : World} {t : TypeId} {f : α → List Value} {A : Option Addr} {n c : Nat} {xs : List α} (h : OwnA w t f A n c xs) {g : Nat} (hg : ∀ b, blkOf A n = some b → b ≠ g) (u0 u1 u2 u3 u4 : Value) :
    OwnA (((((w.setCell ⟨g, 0, none⟩ u0).setCell ⟨g, 1, none⟩ u1).setCell ⟨g, 2, none⟩ u2).setCell ⟨g, 3, none⟩ u3).setCell ⟨g, 4, none⟩ u4) t f A n c xs :=
  ((((h.far (p := ⟨g, 0, none⟩) hg u0).far (p := ⟨g, 1, none⟩) hg u1).far (p := ⟨g, 2, none⟩) hg u2).far (p := ⟨g, 3, none⟩) hg u3).far (p := ⟨g, 4, none⟩) hg u4
set_option maxHeartbeats 2000000 in
theorem c_newRoom (A1 A2 : Option Addr) (n1 c1 n2 c2 : Nat) (ns : List Node) (ps : List Pipe) (A : Option Addr) (n c : Nat) (xs : List Contract) (w : World) (h1 : SliceOf w 3 Node.cells A1 n1 c1 ns) (h2 : SliceOf w 5 Pipe.cells A2 n2 c2 ps) (hs : SliceOf w 8 Contract.cells A n c xs)
    (m1 : n1 ≤ 1048576) (m2 : n2 ≤ 1048576) (m3 : n ≤ 1048576) :
    Calls Tryz.prog 50 #[.agg #[.slice A1 n1 c1, .slice A2 n2 c2], .slice A n c] w (RetRoom (newR ns ps xs) w) := by
  have x0 : Ext w ((w.alloc (.cells #[.slice A1 n1 c1, .slice A2 n2 c2] 27)).alloc (.cells #[.slice none 0 0, .slice none 0 0, .slice none 0 0, .slice none 0 0, .slice none 0 0] 32)) := (Ext.alloc _ _).and_alloc _
  go_enter Tryz.func50, Tryz.ntmps50
  go_wp2_with fail
  refine (c_cloneNetwork A1 A2 n1 c1 n2 c2 ns ps _ (h1.ext x0) (h2.ext x0) m1 m2).mono ?_
  rintro e w1 ⟨B1, k1, d1, B2, k2, d2, rfl, o1, o2, b1, b2, b12, hx1⟩
  have hz1 := hx1.size
  simp at hz1
  go_wp2_with fail
  refine (c_cloneContract A n c xs _ (hs.ext (x0.trans hx1)) m3).mono ?_
  rintro e w2 ⟨B3, k3, d3, rfl, o3, b3, hx2⟩
  have hz2 := hx2.size
  have hx02 := hx1.trans hx2
  have hcl := hx02.cell
  have hfr := hx02.frozen
  have hz3 : w.heap.size + 1 < w2.heap.size := by omega
  go_wp2
  have f1 : ∀ b, blkOf B1 k1 = some b → b ≠ w.heap.size + 1 := fun b hb => by have := b1 b hb; simp at this; omega
  have f2 : ∀ b, blkOf B2 k2 = some b → b ≠ w.heap.size + 1 := fun b hb => by have := b2 b hb; simp at this; omega
  have f3 : ∀ b, blkOf B3 k3 = some b → b ≠ w.heap.size + 1 := fun b hb => by have := b3 b hb; omega
  have g5 : ∀ b, blkOf (some ⟨w2.heap.size, 0, none⟩) 1 = some b → b = w2.heap.size := fun b hb => by simp [blkOf] at hb; exact hb.symm
  refine bodyPost_ret (v := .agg #[.slice B1 k1 d1, .slice B2 k2 d2, .slice B3 k3 d3, .slice none 0 0, .slice (some ⟨w2.heap.size, 0, none⟩) 1 1]) (by simp [results, Tryz.results50, go_sem, hcl, hz3]) rfl
    ⟨B1, B2, B3, none, some ⟨w2.heap.size, 0, none⟩, k1, d1, k2, d2, k3, d3, 0, 0, 1, 1, newR ns ps xs, rfl, ⟨?_, ?_, ?_, ?_, ?_, ?_, ?_, ?_, ?_, ?_, ?_⟩, ⟨rfl, rfl, rfl, rfl, rfl⟩, ?_⟩
  · exact ((o1.ext hx2).set5 f1 _ _ _ _ _).ext (Ext.alloc _ _)
  · exact ((o2.ext hx2).set5 f2 _ _ _ _ _).ext (Ext.alloc _ _)
  · exact (o3.set5 f3 _ _ _ _ _).ext (Ext.alloc _ _)
  · exact ⟨rfl, by omega, by omega, fun h => absurd h (by omega)⟩
  · exact ⟨rfl, by omega, by omega, fun _ => ⟨w2.heap.size, rfl, [], Row.new' (by simp)⟩⟩
  · intro q hq
    simp [newR] at hq
    subst hq
    exact ⟨rfl, by simp, by simp, fun h => absurd h (by simp)⟩
  · refine sepP b12 (fun b h h' => ?_) (fun b _ h' => blk_zero _ _ h') (fun b h h' => ?_) (fun b h h' => ?_) (fun b _ h' => blk_zero _ _ h') (fun b h h' => ?_) (fun b _ h' => blk_zero _ _ h') (fun b h h' => ?_) (fun b h _ => blk_zero _ _ h)
    · have := o1.lt h; have := b3 b h'; omega
    · have := o1.lt h; have := g5 b h'; omega
    · have := o2.lt h; have := b3 b h'; omega
    · have := o2.lt h; have := g5 b h'; omega
    · have := o3.lt h; have := g5 b h'; omega
  · intro i j b hij hi hj
    simp [newR, blkOf, List.getElem?_singleton] at hi
  · rintro b _ ⟨q, hq, hb⟩
    simp [newR] at hq
    subst hq
    exact blk_zero _ _ hb
  · intro b hb
    simp only [List.mem_cons, List.not_mem_nil, or_false] at hb
    simp
    rcases hb with hb | hb | hb | hb | hb
    · have := o1.lt hb.symm; have := b1 b hb.symm; simp at this; omega
    · have := o2.lt hb.symm; have := b2 b hb.symm; simp at this; omega
    · have := o3.lt hb.symm; have := b3 b hb.symm; omega
    · exact absurd hb.symm (blk_zero _ _)
    · have := g5 b hb.symm; omega
  · rintro b ⟨q, hq, hb⟩
    simp [newR] at hq
    subst hq
    exact absurd hb (blk_zero _ _)
  · refine Ext.and_alloc ?_ _
    repeat (refine Ext.setCell ?_ (by first | (simp; done) | (simp; omega) | omega) _)
    exact x0.trans hx02
end Go.Proofs.YtjpmiokbgpggbaaGreat

namespace Go.Proofs.YtjpmiokbgpggbaaGreat
open Go.RowKit

structure Event where
  kind : Int
  a : Int
  b : Int
  c : Int
  d : Int
def Event.cells (x : Event) : List Value := [.int .i64 x.kind, .int .i64 x.a, .int .i64 x.b, .int .i64 x.c, .int .i64 x.d]
theorem event_len (x : Event) : x.cells.length = 5 := rfl
theorem event_info : (Tryz.prog.info? 34).map (fun i => (i.zero, i.size, i.bytes)) = some (some (.agg #[.int .i64 0, .int .i64 0, .int .i64 0, .int .i64 0, .int .i64 0]), 5, 40) := by kernel_rfl

theorem c_toEvent (x : Event) (w : World) :
    Calls Tryz.prog 19 #[.agg #[.int .i64 x.kind, .int .i64 x.a, .int .i64 x.b, .int .i64 x.c, .int .i64 x.d]] w (Ret (.agg #[.int .i64 x.kind, .int .i64 x.a, .int .i64 x.b, .int .i64 x.c, .int .i64 x.d]) w) := by
  go_enter Tryz.func19, Tryz.ntmps19
  go_wp2
  exact bodyPost_ret (v := .agg #[.int .i64 x.kind, .int .i64 x.a, .int .i64 x.b, .int .i64 x.c, .int .i64 x.d]) (by simp [results, Tryz.results19, go_sem]) rfl ⟨rfl, (((Ext.refl _).and_alloc _).and_alloc _).and_alloc _⟩









end Go.Proofs.YtjpmiokbgpggbaaGreat

namespace Go.Proofs.YtjpmiokbgpggbaaGreat
open Go.RowKit

/-- a slice of the call's own, and a code -/
def RetS {α : Type} (t : TypeId) (f : α → List Value) (r : List α × Int) (w : World) (e : Ending) (w' : World) : Prop :=
  ∃ A n c g, e = .returned (.tuple #[.slice A n c, .int .i64 r.2]) ∧ n ≤ c ∧ c ≤ 9223372036854775807 ∧ w.heap.size ≤ g ∧ OwnS w' g t f A n r.1 ∧ Ext w w'
theorem RetS.nil_ {α : Type} {t : TypeId} {f : α → List Value} {r : List α × Int} {k : Int} {w w' : World} (h : r = ([], k)) (hx : Ext w w') : RetS t f r w (.returned (.tuple #[.slice none 0 0, .int .i64 k])) w' := by
  subst h
  exact ⟨none, 0, 0, w.heap.size, rfl, Nat.le_refl _, by omega, Nat.le_refl _, OwnS.nil, hx⟩
theorem RetS.row {α : Type} {t : TypeId} {f : α → List Value} {r : List α × Int} {xs : List α} {k : Int} {w w' : World} {g n : Nat} (h : r = (xs, k)) (hn : n = xs.length) (hm : n ≤ 9223372036854775807) (hg : w.heap.size ≤ g) (hr : RowOf w' g t f xs) (hx : Ext w w') :
    RetS t f r w (.returned (.tuple #[.slice (some ⟨g, 0, none⟩) n n, .int .i64 k])) w' := by
  subst h
  subst hn
  exact ⟨_, _, _, g, rfl, Nat.le_refl _, hm, hg, OwnS.of_row hr, hx⟩




end Go.Proofs.YtjpmiokbgpggbaaGreat
