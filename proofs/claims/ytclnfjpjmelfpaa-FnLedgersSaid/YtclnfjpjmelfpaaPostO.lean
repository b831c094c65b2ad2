/-
  A posting's cells are single cells.
-/
import Derived.Test.YtclnfjpjmelfpaaPostH
namespace Go.Proofs.Ytclnfjpjmelfpaa
open Go.RowKit
theorem post_one (y : Posting) : ∀ u ∈ y.cells, u.oneCell' = true := by intro u hu; simp [Posting.cells] at hu; rcases hu with rfl | rfl | rfl | rfl <;> rfl
end Go.Proofs.Ytclnfjpjmelfpaa
