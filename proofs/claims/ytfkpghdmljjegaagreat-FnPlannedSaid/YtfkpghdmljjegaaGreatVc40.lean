/-
  The settlement of an hour, of the reference, exactly.
-/
import Derived.Test.YtfkpghdmljjegaaGreatVc32
import Derived.Test.YtfkpghdmljjegaaGreatVc37
import Derived.Test.YtfkpghdmljjegaaGreatVc38
import Derived.Test.YtfkpghdmljjegaaGreatVc39
import Derived.Deep.CutRange
namespace Go.Proofs.YtfkpghdmljjegaaGreat
open Go.RowKit
theorem reads_48 {nn : Int} {rs : List Reading} (h : readsB nn rs = true) : rs.length ≤ 48 := by
  unfold readsB at h
  rw [Bool.and_eq_true, decide_eq_true_eq] at h
  exact h.1
/-- two sums by shipper, in blocks of their own -/
structure Acc2 (W wr : World) (g1 g2 : Nat) (C T : List Int) : Prop where
  c : RowOf wr g1 2 intC C
  t : RowOf wr g2 2 intC T
  ext : Ext W wr
  lo : W.heap.size ≤ g1 ∧ W.heap.size ≤ g2
  ne : g1 ≠ g2
/-- a settlement, read -/
structure StlAt (w : World) (A0 A1 A2 A3 A4 : Option Addr) (n0 c0 n1 c1 n2 c2 n3 c3 n4 c4 : Nat) (X : Stl) : Prop where
  s0 : SliceOf w 1 intC A0 n0 c0 X.sc
  s1 : SliceOf w 4 Order.cells A1 n1 c1 X.os
  s2 : SliceOf w 1 intC A2 n2 c2 X.got
  s3 : SliceOf w 1 intC A3 n3 c3 X.chg
  s4 : SliceOf w 4 Posting.cells A4 n4 c4 X.psn
/-- the blocks of a settlement lie from a number on -/
def StlLo (lo : Nat) (A0 A1 A2 A3 A4 : Option Addr) (n0 n1 n2 n3 n4 : Nat) : Prop :=
  ∀ b, (blkOf A0 n0 = some b ∨ blkOf A1 n1 = some b ∨ blkOf A2 n2 = some b ∨ blkOf A3 n3 = some b ∨ blkOf A4 n4 = some b) → lo ≤ b
theorem StlAt.turn {S : Nat → Prop} {w w' : World} {lo : Nat} {A0 A1 A2 A3 A4 : Option Addr} {n0 c0 n1 c1 n2 c2 n3 c3 n4 c4 : Nat} {X : Stl} (h : StlAt w A0 A1 A2 A3 A4 n0 c0 n1 c1 n2 c2 n3 c3 n4 c4 X) (hl : StlLo lo A0 A1 A2 A3 A4 n0 n1 n2 n3 n4) (k : Turn S w w') (hs : ∀ b, S b → b < lo) : StlAt w' A0 A1 A2 A3 A4 n0 c0 n1 c1 n2 c2 n3 c3 n4 c4 X :=
  ⟨h.s0.turn k (fun b hb hS => by have := hl b (.inl hb); have := hs b hS; omega), h.s1.turn k (fun b hb hS => by have := hl b (.inr (.inl hb)); have := hs b hS; omega), h.s2.turn k (fun b hb hS => by have := hl b (.inr (.inr (.inl hb))); have := hs b hS; omega), h.s3.turn k (fun b hb hS => by have := hl b (.inr (.inr (.inr (.inl hb)))); have := hs b hS; omega), h.s4.turn k (fun b hb hS => by have := hl b (.inr (.inr (.inr (.inr hb)))); have := hs b hS; omega)⟩
/-- a block is a row of cells -/
def RowAt (w : World) (b : Nat) : Prop := ∃ (t : TypeId) (cs : List Value), Row w b t cs
theorem RowAt.turn {S : Nat → Prop} {w w' : World} {b : Nat} (h : RowAt w b) (k : Turn S w w') (hne : ¬ S b) : RowAt w' b := let ⟨t, cs, r⟩ := h; ⟨t, cs, r.turn k hne⟩
theorem RowAt.lt {w : World} {b : Nat} (h : RowAt w b) : b < w.heap.size := let ⟨_, _, r⟩ := h; Row.lt r
/-- the amounts and the changes of a settlement lie in rows, each list in a block of its own -/
structure StlW (w : World) (A2 A3 A4 : Option Addr) (n2 n3 n4 : Nat) : Prop where
  f2 : ∀ b, blkOf A2 n2 = some b → RowAt w b
  f3 : ∀ b, blkOf A3 n3 = some b → RowAt w b
  n23 : ∀ b, blkOf A2 n2 = some b → blkOf A3 n3 ≠ some b
  n24 : ∀ b, blkOf A2 n2 = some b → blkOf A4 n4 ≠ some b
  n34 : ∀ b, blkOf A3 n3 = some b → blkOf A4 n4 ≠ some b
theorem StlW.turn {S : Nat → Prop} {w w' : World} {A2 A3 A4 : Option Addr} {n2 n3 n4 : Nat} (h : StlW w A2 A3 A4 n2 n3 n4) (k : Turn S w w') (h2 : ∀ b, blkOf A2 n2 = some b → ¬ S b) (h3 : ∀ b, blkOf A3 n3 = some b → ¬ S b) : StlW w' A2 A3 A4 n2 n3 n4 :=
  ⟨fun b hb => (h.f2 b hb).turn k (h2 b hb), fun b hb => (h.f3 b hb).turn k (h3 b hb), h.n23, h.n24, h.n34⟩
theorem StlW.ext {w w' : World} {A2 A3 A4 : Option Addr} {n2 n3 n4 : Nat} (h : StlW w A2 A3 A4 n2 n3 n4) (hx : Ext w w') : StlW w' A2 A3 A4 n2 n3 n4 := h.turn (S := fun _ => False) (Turn.of_ext hx) (fun _ _ e => e) (fun _ _ e => e)
theorem StlAt.ext {w w' : World} {A0 A1 A2 A3 A4 : Option Addr} {n0 c0 n1 c1 n2 c2 n3 c3 n4 c4 : Nat} {X : Stl} (h : StlAt w A0 A1 A2 A3 A4 n0 c0 n1 c1 n2 c2 n3 c3 n4 c4 X) (hx : Ext w w') : StlAt w' A0 A1 A2 A3 A4 n0 c0 n1 c1 n2 c2 n3 c3 n4 c4 X :=
  ⟨h.s0.ext hx, h.s1.ext hx, h.s2.ext hx, h.s3.ext hx, h.s4.ext hx⟩
theorem five_rowS {w : World} {g : Nat} {t : TypeId} {u0 u1 u2 u3 u4 v0 v1 v2 v3 v4 : Value} (h : Row w g t [v0, v1, v2, v3, v4]) : Row (((((w.setCell ⟨g, 0, none⟩ u0).setCell ⟨g, 1, none⟩ u1).setCell ⟨g, 2, none⟩ u2).setCell ⟨g, 3, none⟩ u3).setCell ⟨g, 4, none⟩ u4) g t [u0, u1, u2, u3, u4] :=
  ((((h.set_ 0 u0).set_ 1 u1).set_ 2 u2).set_ 3 u3).set_ 4 u4
theorem Acc2.grown {W wr wr' W4 : World} {g1 g2 : Nat} {C T : List Int} {v : Value} (h : Acc2 W wr g1 g2 C T) (hx : Ext wr W4) (hg : W4.grownBy wr' v.ownBlock) (hb : ∀ k, v.ownBlock = some k → k ≠ g1 ∧ k ≠ g2 ∧ W.heap.size ≤ k) : Acc2 W wr' g1 g2 C T :=
  ⟨Row.grown (h.c.ext hx) hg (fun e => (hb g1 e).1 rfl), Row.grown (h.t.ext hx) hg (fun e => (hb g2 e).2.1 rfl), (h.ext.trans hx).grown hg (fun k hk => (hb k hk).2.2), h.lo, h.ne⟩
theorem Acc2.more {W wr wr' : World} {g1 g2 : Nat} {C T : List Int} (h : Acc2 W wr g1 g2 C T) (hx : Ext wr wr') : Acc2 W wr' g1 g2 C T := ⟨h.c.ext hx, h.t.ext hx, h.ext.trans hx, h.lo, h.ne⟩
theorem new_post (W : World) (x : Posting) {g : Nat} (hg : g = W.heap.size) : SliceOf (W.alloc (.cells #[.int .i64 x.debit, .int .i64 x.credit, .int .i64 x.gas, .int .i64 x.money] 188)) 4 Posting.cells (some ⟨g, 0, none⟩) 1 1 [x] := by
  subst hg; exact new_one post_len W 188 x
theorem bd_id {g : List Int} (h : Bd 10000000 g) : ∀ z ∈ g, -10000000 ≤ id z ∧ id z ≤ 10000000 := h
theorem bd_pos {g : List Int} (h : Bd 10000000 g) : ∀ z ∈ g, -10000000 ≤ pos0 z ∧ pos0 z ≤ 10000000 := fun z hz => by have := h z hz; unfold pos0; split <;> omega
theorem Turn.fiveS {g : Nat} (b : World) (u0 u1 u2 u3 u4 : Value) : Turn (fun x => x = g) b (((((b.setCell ⟨g, 0, none⟩ u0).setCell ⟨g, 1, none⟩ u1).setCell ⟨g, 2, none⟩ u2).setCell ⟨g, 3, none⟩ u3).setCell ⟨g, 4, none⟩ u4) :=
  Turn.of_only (g := g) ((((((Only.refl g b).setCell (p := ⟨g, 0, none⟩) rfl u0).setCell (p := ⟨g, 1, none⟩) rfl u1).setCell (p := ⟨g, 2, none⟩) rfl u2).setCell (p := ⟨g, 3, none⟩) rfl u3).setCell (p := ⟨g, 4, none⟩) rfl u4) (fun _ => rfl)
end Go.Proofs.YtfkpghdmljjegaaGreat
