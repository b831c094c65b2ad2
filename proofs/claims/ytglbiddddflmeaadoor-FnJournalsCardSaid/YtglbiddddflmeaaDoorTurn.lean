/-
  Plain lemmas: a world of which some blocks have turned; slices of the call's own, by their address; blocks that are apart. No function of the program is named here.
-/
import Derived.Test.YtglbiddddflmeaaDoorOwn
namespace Go.Proofs.YtglbiddddflmeaaDoor
open Go.RowKit

/-- only blocks of S have turned -/
structure Turn (S : Nat → Prop) (w w' : World) : Prop where
  os : w'.os = w.os
  tape : w'.tape = w.tape
  output : w'.output = w.output
  size : w.heap.size ≤ w'.heap.size
  block : ∀ k, k < w.heap.size → ¬ S k → w'.heap[k]? = w.heap[k]?
section
variable {S S' : Nat → Prop} {w w' w'' : World}
theorem Turn.of_ext (h : Ext w w') : Turn S w w' := ⟨h.os, h.tape, h.output, h.size, fun k hk _ => h.block k hk⟩
theorem Turn.refl (w : World) : Turn S w w := Turn.of_ext (Ext.refl _)
theorem Turn.of_only {g : Nat} (h : Only g w w') (hg : g < w.heap.size → S g) : Turn S w w' :=
  ⟨h.os, h.tape, h.output, h.size, fun k hk hne => h.block k hk (by intro e; simp at e; subst e; exact hne (hg hk))⟩
theorem Turn.trans (h : Turn S w w') (k : Turn S w' w'') : Turn S w w'' :=
  ⟨k.os.trans h.os, k.tape.trans h.tape, k.output.trans h.output, Nat.le_trans h.size k.size, fun i hi hne => (k.block i (Nat.lt_of_lt_of_le hi h.size) hne).trans (h.block i hi hne)⟩
theorem Turn.mono (h : Turn S w w') (hs : ∀ k, S k → S' k) : Turn S' w w' := ⟨h.os, h.tape, h.output, h.size, fun k hk hne => h.block k hk (fun h' => hne (hs k h'))⟩
theorem Ext.turn {w0 : World} (h : Ext w0 w) (k : Turn S w w') (hs : ∀ b, S b → w0.heap.size ≤ b) : Ext w0 w' :=
  ⟨k.os.trans h.os, k.tape.trans h.tape, k.output.trans h.output, Nat.le_trans h.size k.size, fun i hi => (k.block i (Nat.lt_of_lt_of_le hi h.size) (fun h' => by have := hs i h'; omega)).trans (h.block i hi)⟩
theorem Turn.cell (h : Turn S w w') {b o : Nat} (hb : b < w.heap.size) (hne : ¬ S b) : w'.cell? ⟨b, o, none⟩ = w.cell? ⟨b, o, none⟩ := World.cell?_of_block (w := w) (h.block b hb hne)
theorem Row.turn {t : TypeId} {cs : List Value} {g : Nat} (h : Row w g t cs) (k : Turn S w w') (hne : ¬ S g) : Row w' g t cs := (k.block g h.lt hne).trans h
end
/-- the block of a slice that is not empty -/
def blkOf (A : Option Addr) (n : Nat) : Option Nat := if n = 0 then none else A.map Addr.block
/-- a slice of the call's own, by its address -/
def OwnA {α : Type} (w : World) (t : TypeId) (f : α → List Value) (A : Option Addr) (n c : Nat) (xs : List α) : Prop :=
  n = xs.length ∧ n ≤ c ∧ c ≤ 9223372036854775807 ∧ (0 < n → ∃ g, A = some ⟨g, 0, none⟩ ∧ ∃ rest, Row w g t (xs.flatMap f ++ rest))
section
variable {α : Type} {S : Nat → Prop} {w w' : World} {t : TypeId} {f : α → List Value} {size : Nat} {A : Option Addr} {n c g : Nat} {xs : List α}
theorem OwnS.toA (h : OwnS w g t f A n xs) (hc : n ≤ c) (hm : c ≤ 9223372036854775807) : OwnA w t f A n c xs := ⟨h.1, hc, hm, fun hn => ⟨g, h.2 hn⟩⟩
theorem OwnS.blk (h : OwnS w g t f A n xs) {b : Nat} (hb : blkOf A n = some b) : b = g ∧ 0 < n := by
  unfold blkOf at hb
  split at hb
  · cases hb
  · have hn : 0 < n := by omega
    rw [(h.2 hn).1] at hb
    simp at hb
    exact ⟨hb.symm, hn⟩
theorem RowOf.toA (h : RowOf w g t f xs) (hn : n = xs.length) (hc : n ≤ c) (hm : c ≤ 9223372036854775807) : OwnA w t f (some ⟨g, 0, none⟩) n c xs := by
  subst hn
  exact (OwnS.of_row h).toA hc hm
theorem OwnA.ext (h : OwnA w t f A n c xs) (hx : Ext w w') : OwnA w' t f A n c xs := ⟨h.1, h.2.1, h.2.2.1, fun hn => let ⟨g, hA, r, hr⟩ := h.2.2.2 hn; ⟨g, hA, r, hr.ext hx⟩⟩
theorem OwnA.turn (h : OwnA w t f A n c xs) (k : Turn S w w') (hne : ∀ b, blkOf A n = some b → ¬ S b) : OwnA w' t f A n c xs :=
  ⟨h.1, h.2.1, h.2.2.1, fun hn => let ⟨g, hA, r, hr⟩ := h.2.2.2 hn; ⟨g, hA, r, hr.turn k (hne g (by unfold blkOf; rw [if_neg (by omega), hA]; rfl))⟩⟩
theorem OwnA.own (h : OwnA w t f A n c xs) : ∃ g, OwnS w g t f A n xs ∧ (g < w.heap.size → blkOf A n = some g) := by
  by_cases hn : 0 < n
  · obtain ⟨g, hA, r, hr⟩ := h.2.2.2 hn
    exact ⟨g, ⟨h.1, fun _ => ⟨hA, r, hr⟩⟩, fun _ => by unfold blkOf; rw [if_neg (by omega), hA]; rfl⟩
  · exact ⟨w.heap.size, ⟨h.1, fun h0 => absurd h0 hn⟩, fun h0 => absurd h0 (Nat.lt_irrefl _)⟩
theorem OwnA.slice (h : OwnA w t f A n c xs) (hf : ∀ x, (f x).length = size) : SliceOf w size f A n c xs := by
  obtain ⟨g, ho, _⟩ := h.own
  exact ho.slice hf h.2.1 h.2.2.1
theorem OwnA.lt (h : OwnA w t f A n c xs) {b : Nat} (hb : blkOf A n = some b) : b < w.heap.size := by
  obtain ⟨g, ho, _⟩ := h.own
  obtain ⟨rfl, hn⟩ := ho.blk hb
  exact ho.lt hn
theorem SliceOf.turn (h : SliceOf w size f A n c xs) (k : Turn S w w') (hne : ∀ b, blkOf A n = some b → ¬ S b) : SliceOf w' size f A n c xs := by
  obtain ⟨h1, h2, h3, h4⟩ := h
  refine ⟨h1, h2, h3, fun hn => ?_⟩
  obtain ⟨b, off, hA, hb, hc⟩ := h4 hn
  exact ⟨b, off, hA, Nat.lt_of_lt_of_le hb k.size, fun i x hx j u hu => (k.cell hb (hne b (by unfold blkOf; rw [if_neg (by omega), hA]; rfl))).trans (hc i x hx j u hu)⟩
theorem SliceOf.blk (h : SliceOf w size f A n c xs) {b : Nat} (hb : blkOf A n = some b) : b < w.heap.size := by
  unfold blkOf at hb
  split at hb
  · cases hb
  · obtain ⟨b', off, hA, hlt, _⟩ := h.2.2.2 (by omega)
    rw [hA] at hb
    simp at hb
    omega
end
/-- blocks that are apart -/
def SepL (l : List (Option Nat)) : Prop := ∀ (i j b : Nat), i ≠ j → l[i]? = some (some b) → l[j]? ≠ some (some b)
end Go.Proofs.YtglbiddddflmeaaDoor
