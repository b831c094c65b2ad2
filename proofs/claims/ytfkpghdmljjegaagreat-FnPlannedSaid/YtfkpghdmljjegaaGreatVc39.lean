/-
  What the laws on hours share: boxes of a network, blocks of copies, bounds of what is returned.
-/
import Derived.Test.YtfkpghdmljjegaaGreatVc38
import Derived.Test.YtfkpghdmljjegaaGreatVc37
import Derived.Test.YtfkpghdmljjegaaGreatVc00
namespace Go.Proofs.YtfkpghdmljjegaaGreat
open Go.RowKit
/-- a box of a network, by its block -/
structure NBoxL (w : World) (b : Nat) (A1 A2 : Option Addr) (n1 c1 n2 c2 : Nat) : Prop where
  lt : b < w.heap.size
  x0 : w.cell? ⟨b, 0, none⟩ = some (.slice A1 n1 c1)
  x1 : w.cell? ⟨b, 1, none⟩ = some (.slice A2 n2 c2)
theorem NBoxL.ext {w w' : World} {b : Nat} {A1 A2 : Option Addr} {n1 c1 n2 c2 : Nat} (h : NBoxL w b A1 A2 n1 c1 n2 c2) (hx : Ext w w') : NBoxL w' b A1 A2 n1 c1 n2 c2 :=
  ⟨Nat.lt_of_lt_of_le h.lt hx.size, (hx.cell _ _ h.lt).trans h.x0, (hx.cell _ _ h.lt).trans h.x1⟩
theorem NBoxL.new (w : World) (A1 A2 : Option Addr) (n1 c1 n2 c2 : Nat) (t : TypeId) : NBoxL (w.alloc (.cells #[.slice A1 n1 c1, .slice A2 n2 c2] t)) w.heap.size A1 A2 n1 c1 n2 c2 := by
  have hR := Row.new w t [.slice A1 n1 c1, .slice A2 n2 c2]
  exact ⟨by simp, hR.cell 0, hR.cell 1⟩
theorem blk_is {g n b : Nat} (h : blkOf (some ⟨g, 0, none⟩) n = some b) : b = g := by
  unfold blkOf at h
  split at h
  · cases h
  · simpa using h.symm
/-- a list read, and a code -/
def RetSl {α : Type} (size : Nat) (f : α → List Value) (p : List α × Int) (w : World) (e : Ending) (w' : World) : Prop :=
  ∃ A n c l z, e = .returned (.tuple #[.slice A n c, .int .i64 z]) ∧ SliceOf w' size f A n c l ∧ Ext w w' ∧ Hid ((l, z) = p)
theorem sp_PlannedFlows (A1 A2 : Option Addr) (n1 c1 n2 c2 : Nat) (ns : List Node) (ps : List Pipe) (A : Option Addr) (n c : Nat) (xs : List Contract) (B : Option Addr) (m d : Nat) (L : List Nomination) (h : Int) (w : World) (hs1 : SliceOf w 3 Node.cells A1 n1 c1 ns) (hs2 : SliceOf w 5 Pipe.cells A2 n2 c2 ps) (hs : SliceOf w 8 Contract.cells A n c xs) (hL : SliceOf w 4 Nomination.cells B m d L) (hnm : ∀ x ∈ ns, x.name.size ≤ 1048576) : Calls Tryz.prog 21 #[.agg #[.slice A1 n1 c1, .slice A2 n2 c2], .slice A n c, .slice B m d, .int .i64 h] w (RetSl 1 intC (pfV n1 ns ps xs L h) w) :=
  (c_specPlannedFlows A1 A2 n1 c1 n2 c2 ns ps A n c xs B m d L h w hs1 hs2 hs hL hnm).mono fun _ _ h => h
theorem sp_PlannedReadings (A1 A2 : Option Addr) (n1 c1 n2 c2 : Nat) (ns : List Node) (ps : List Pipe) (A : Option Addr) (n c : Nat) (xs : List Contract) (B : Option Addr) (m d : Nat) (L : List Nomination) (h : Int) (w : World) (hs1 : SliceOf w 3 Node.cells A1 n1 c1 ns) (hs2 : SliceOf w 5 Pipe.cells A2 n2 c2 ps) (hs : SliceOf w 8 Contract.cells A n c xs) (hL : SliceOf w 4 Nomination.cells B m d L) (hnm : ∀ x ∈ ns, x.name.size ≤ 1048576) : Calls Tryz.prog 35 #[.agg #[.slice A1 n1 c1, .slice A2 n2 c2], .slice A n c, .slice B m d, .int .i64 h] w (RetSl 2 Reading.cells (prV n1 ns ps xs L h) w) :=
  (c_specPlannedReadings A1 A2 n1 c1 n2 c2 ns ps A n c xs B m d L h w hs1 hs2 hs hL hnm).mono fun _ _ ⟨v, l, z, he, ho, hx, hp⟩ => by
    obtain ⟨A, c, rfl, hs⟩ := ho.sl reading_len (by omega)
    exact ⟨A, _, c, l, z, he, hs, hx, hp⟩
end Go.Proofs.YtfkpghdmljjegaaGreat
