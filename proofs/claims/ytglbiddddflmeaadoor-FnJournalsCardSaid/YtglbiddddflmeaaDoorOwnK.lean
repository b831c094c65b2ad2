/-
  Plain lemmas: what append and a source's draw keep. No function of the program is named here.
-/
import Derived.Test.YtglbiddddflmeaaDoorAppend
namespace Go.Proofs.YtglbiddddflmeaaDoor
open Go.RowKit

/-- the blocks below base stayed -/
structure Kept (base : Nat) (w w' : World) : Prop where
  os : w'.os = w.os
  tape : w'.tape = w.tape
  output : w'.output = w.output
  size : base ≤ w'.heap.size
  block : ∀ k, k < base → w'.heap[k]? = w.heap[k]?
theorem kept_append {w w' : World} {base : Nat} (hb : base ≤ w.heap.size) (h : ∀ w0 : World, w0.heap.size ≤ base → Ext w0 w → Ext w0 w') : Kept base w w' := by
  have hT : Ext { w with heap := w.heap.extract 0 base } w := by
    refine ⟨rfl, rfl, rfl, by simp; omega, fun k hk => ?_⟩
    simp at hk
    simp [Array.getElem?_extract]
    omega
  have h2 := h _ (by simp; omega) hT
  refine ⟨h2.os, h2.tape, h2.output, ?_, fun k hk => ?_⟩
  · have := h2.size
    simp at this
    omega
  · have := h2.block k (by simp; omega)
    rw [this]
    simp [Array.getElem?_extract]
    omega
section
variable {α : Type} {w w' : World} {base g : Nat} {e : TypeId} {size : Nat} {f : α → List Value} {v : Value} {L : List α}
theorem Row.kept {cs : List Value} (h : Row w g e cs) (hx : Kept base w w') (hg : g < base) : Row w' g e cs := (hx.block g hg).trans h
theorem Only.kept {w0 : World} (h : Only g w0 w) (hx : Kept base w w') (hb : w0.heap.size ≤ base) : Only g w0 w' :=
  ⟨hx.os.trans h.os, hx.tape.trans h.tape, hx.output.trans h.output, Nat.le_trans hb hx.size, fun k hk hne => (hx.block k (by omega)).trans (h.block k hk hne)⟩
theorem OwnL.only (h : OwnL w base e size f v L) (hx : Only g w w') (hg : g < base) : OwnL w' base e size f v L := by
  obtain ⟨h1, h2⟩ := h
  refine ⟨h1, ?_⟩
  rcases h2 with h2 | ⟨k, cap, cur, hv, hb, hh, r⟩
  · exact .inl h2
  · refine .inr ⟨k, cap, cur, hv, hb, ?_, r⟩
    have hlt : k < w.heap.size := by
      rcases Nat.lt_or_ge k w.heap.size with hlt | hge
      · exact hlt
      · rw [Array.getElem?_eq_none hge] at hh; cases hh
    exact (hx.block k hlt (by simp; omega)).trans hh
end
end Go.Proofs.YtglbiddddflmeaaDoor
