/-
  Events: validity, of the program and of the reference (over the helpers' record of an event).
-/
import Derived.Test.YtjpmiokbgpggbaaRa08
import Derived.Test.YtjpmiokbgpggbaaRa17
import Derived.Test.YtjpmiokbgpggbaaRa37
namespace Go.Proofs.Ytjpmiokbgpggbaa
open Go.RowKit
def flowB (z : Int) : Bool := inB z (-30000) 30000
def evB (p : Event) : Bool := inB p.kind 1 3 && flowB p.a && flowB p.b && flowB p.c && flowB p.d
theorem evB_facts {p : Event} (h : evB p = true) : (p.kind = 1 ∨ p.kind = 2 ∨ p.kind = 3) ∧ (-30000 ≤ p.a ∧ p.a ≤ 30000) ∧ (-30000 ≤ p.b ∧ p.b ≤ 30000) ∧ (-30000 ≤ p.c ∧ p.c ≤ 30000) ∧ (-30000 ≤ p.d ∧ p.d ≤ 30000) := by
  simp only [evB, flowB, Bool.and_eq_true, inB_true] at h
  omega
theorem Row.new1 (w : World) (o : Obj) (t : TypeId) (cs : List Value) : Row ((w.alloc o).alloc (.cells cs.toArray t)) (w.heap.size + 1) t cs := by
  have h := Row.new (w.alloc o) t cs
  rwa [show (w.alloc o).heap.size = w.heap.size + 1 by simp] at h
end Go.Proofs.Ytjpmiokbgpggbaa
