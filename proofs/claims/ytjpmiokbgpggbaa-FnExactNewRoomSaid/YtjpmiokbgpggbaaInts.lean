
/-
  Contracts of the functions on slices of int64.
-/
import Derived.Test.YtjpmiokbgpggbaaNum
import Derived.Test.YtjpmiokbgpggbaaRowsB
import Derived.Test.YtjpmiokbgpggbaaSched
namespace Go.Proofs.Ytjpmiokbgpggbaa
open Go.RowKit

def intC (z : Int) : List Value := [.int .i64 z]
theorem intC_len (z : Int) : (intC z).length = 1 := rfl
theorem int_info : (Try.prog.info? 2).map (fun i => (i.zero, i.size, i.bytes)) = some (some (.int .i64 0), 1, 8) := by kernel_rfl
section
variable {w : World} {A : Option Addr} {n c : Nat} {xs : List Int}
theorem SliceOf.get1 (h : SliceOf w 1 intC A n c xs) {k : Nat} (hk : k < n) :
    ∃ b off x, A = some ⟨b, off, none⟩ ∧ b < w.heap.size ∧ xs[k]? = some x ∧ w.cell? ⟨b, off + k, none⟩ = some (.int .i64 x) := by
  obtain ⟨b, off, x, hA, hb, hx, hc⟩ := h.get hk
  exact ⟨b, off, x, hA, hb, hx, by simpa using hc 0 _ rfl⟩
end
theorem RowOf.set1 {w : World} {g : Nat} {t : TypeId} {L : List Int} (h : RowOf w g t intC L) {d : Nat} (hd : d < L.length) (v : Int) : RowOf (w.setCell ⟨g, d, none⟩ (.int .i64 v)) g t intC (L.set d v) := by
  have := h.put intC_len (i := d) hd v
  rw [Nat.mul_one] at this
  exact this
/-- a new slice of the call's own -/
def NewRow {α : Type} (t : TypeId) (f : α → List Value) (xs : List α) (w : World) (e : Ending) (w' : World) : Prop :=
  ∃ g, e = .returned (.slice (some ⟨g, 0, none⟩) xs.length xs.length) ∧ w.heap.size ≤ g ∧ RowOf w' g t f xs ∧ Ext w w'




end Go.Proofs.Ytjpmiokbgpggbaa
