
/-
  Marking and holding slices of int64; what a call that returns a slice and a code leaves.
-/
import Derived.Test.YtjpmiokbgpggbaaInts
import Derived.Test.YtjpmiokbgpggbaaOwn
namespace Go.Proofs.Ytjpmiokbgpggbaa
open Go.RowKit

/-- a slice of the call's own, and a code -/
def RetS {α : Type} (t : TypeId) (f : α → List Value) (r : List α × Int) (w : World) (e : Ending) (w' : World) : Prop :=
  ∃ A n c g, e = .returned (.tuple #[.slice A n c, .int .i64 r.2]) ∧ n ≤ c ∧ c ≤ 9223372036854775807 ∧ w.heap.size ≤ g ∧ OwnS w' g t f A n r.1 ∧ Ext w w'
theorem RetS.nil_ {α : Type} {t : TypeId} {f : α → List Value} {r : List α × Int} {k : Int} {w w' : World} (h : r = ([], k)) (hx : Ext w w') : RetS t f r w (.returned (.tuple #[.slice none 0 0, .int .i64 k])) w' := by
  subst h
  exact ⟨none, 0, 0, w.heap.size, rfl, Nat.le_refl _, by omega, Nat.le_refl _, OwnS.nil, hx⟩
theorem RetS.row {α : Type} {t : TypeId} {f : α → List Value} {r : List α × Int} {xs : List α} {k : Int} {w w' : World} {g n : Nat} (h : r = (xs, k)) (hn : n = xs.length) (hm : n ≤ 9223372036854775807) (hg : w.heap.size ≤ g) (hr : RowOf w' g t f xs) (hx : Ext w w') :
    RetS t f r w (.returned (.tuple #[.slice (some ⟨g, 0, none⟩) n n, .int .i64 k])) w' := by
  subst h
  subst hn
  exact ⟨_, _, _, g, rfl, Nat.le_refl _, hm, hg, OwnS.of_row hr, hx⟩




end Go.Proofs.Ytjpmiokbgpggbaa
