/-
  Plain lemmas: a world of which some blocks have turned; slices of the call's own, by their address; blocks that are apart. No function of the program is named here. append of a whole slice: which block alone may turn. No function of the program is named here.
-/
import Derived.Test.YtegkeeeohileiaaSa02
import Derived.Test.YtegkeeeohileiaaSa05
namespace Go.Proofs.Ytegkeeeohileiaa
open Go.RowKit

/-- only blocks of S have turned -/
structure Turn (S : Nat → Prop) (w w' : World) : Prop where
  os : w'.os = w.os
  tape : w'.tape = w.tape
  output : w'.output = w.output
  size : w.heap.size ≤ w'.heap.size
  block : ∀ k, k < w.heap.size → ¬ S k → w'.heap[k]? = w.heap[k]?
section
variable {S S' : Nat → Prop} {w w' w'' : World}
theorem Turn.of_ext (h : Ext w w') : Turn S w w' := ⟨h.os, h.tape, h.output, h.size, fun k hk _ => h.block k hk⟩
theorem Turn.refl (w : World) : Turn S w w := Turn.of_ext (Ext.refl _)
theorem Turn.of_only {g : Nat} (h : Only g w w') (hg : g < w.heap.size → S g) : Turn S w w' :=
  ⟨h.os, h.tape, h.output, h.size, fun k hk hne => h.block k hk (by intro e; simp at e; subst e; exact hne (hg hk))⟩
theorem Turn.trans (h : Turn S w w') (k : Turn S w' w'') : Turn S w w'' :=
  ⟨k.os.trans h.os, k.tape.trans h.tape, k.output.trans h.output, Nat.le_trans h.size k.size, fun i hi hne => (k.block i (Nat.lt_of_lt_of_le hi h.size) hne).trans (h.block i hi hne)⟩
theorem Turn.mono (h : Turn S w w') (hs : ∀ k, S k → S' k) : Turn S' w w' := ⟨h.os, h.tape, h.output, h.size, fun k hk hne => h.block k hk (fun h' => hne (hs k h'))⟩
theorem Ext.turn {w0 : World} (h : Ext w0 w) (k : Turn S w w') (hs : ∀ b, S b → w0.heap.size ≤ b) : Ext w0 w' :=
  ⟨k.os.trans h.os, k.tape.trans h.tape, k.output.trans h.output, Nat.le_trans h.size k.size, fun i hi => (k.block i (Nat.lt_of_lt_of_le hi h.size) (fun h' => by have := hs i h'; omega)).trans (h.block i hi)⟩
theorem Turn.cell (h : Turn S w w') {b o : Nat} (hb : b < w.heap.size) (hne : ¬ S b) : w'.cell? ⟨b, o, none⟩ = w.cell? ⟨b, o, none⟩ := World.cell?_of_block (w := w) (h.block b hb hne)
theorem Row.turn {t : TypeId} {cs : List Value} {g : Nat} (h : Row w g t cs) (k : Turn S w w') (hne : ¬ S g) : Row w' g t cs := (k.block g h.lt hne).trans h
end
/-- the block of a slice that is not empty -/
def blkOf (A : Option Addr) (n : Nat) : Option Nat := if n = 0 then none else A.map Addr.block
/-- a slice of the call's own, by its address -/
def OwnA {α : Type} (w : World) (t : TypeId) (f : α → List Value) (A : Option Addr) (n c : Nat) (xs : List α) : Prop :=
  n = xs.length ∧ n ≤ c ∧ c ≤ 9223372036854775807 ∧ (0 < n → ∃ g, A = some ⟨g, 0, none⟩ ∧ ∃ rest, Row w g t (xs.flatMap f ++ rest))
section
variable {α : Type} {S : Nat → Prop} {w w' : World} {t : TypeId} {f : α → List Value} {size : Nat} {A : Option Addr} {n c g : Nat} {xs : List α}
theorem OwnS.toA (h : OwnS w g t f A n xs) (hc : n ≤ c) (hm : c ≤ 9223372036854775807) : OwnA w t f A n c xs := ⟨h.1, hc, hm, fun hn => ⟨g, h.2 hn⟩⟩
theorem OwnS.blk (h : OwnS w g t f A n xs) {b : Nat} (hb : blkOf A n = some b) : b = g ∧ 0 < n := by
  unfold blkOf at hb
  split at hb
  · cases hb
  · have hn : 0 < n := by omega
    rw [(h.2 hn).1] at hb
    simp at hb
    exact ⟨hb.symm, hn⟩
theorem RowOf.toA (h : RowOf w g t f xs) (hn : n = xs.length) (hc : n ≤ c) (hm : c ≤ 9223372036854775807) : OwnA w t f (some ⟨g, 0, none⟩) n c xs := by
  subst hn
  exact (OwnS.of_row h).toA hc hm
theorem OwnA.ext (h : OwnA w t f A n c xs) (hx : Ext w w') : OwnA w' t f A n c xs := ⟨h.1, h.2.1, h.2.2.1, fun hn => let ⟨g, hA, r, hr⟩ := h.2.2.2 hn; ⟨g, hA, r, hr.ext hx⟩⟩
theorem OwnA.turn (h : OwnA w t f A n c xs) (k : Turn S w w') (hne : ∀ b, blkOf A n = some b → ¬ S b) : OwnA w' t f A n c xs :=
  ⟨h.1, h.2.1, h.2.2.1, fun hn => let ⟨g, hA, r, hr⟩ := h.2.2.2 hn; ⟨g, hA, r, hr.turn k (hne g (by unfold blkOf; rw [if_neg (by omega), hA]; rfl))⟩⟩
theorem OwnA.own (h : OwnA w t f A n c xs) : ∃ g, OwnS w g t f A n xs ∧ (g < w.heap.size → blkOf A n = some g) := by
  by_cases hn : 0 < n
  · obtain ⟨g, hA, r, hr⟩ := h.2.2.2 hn
    exact ⟨g, ⟨h.1, fun _ => ⟨hA, r, hr⟩⟩, fun _ => by unfold blkOf; rw [if_neg (by omega), hA]; rfl⟩
  · exact ⟨w.heap.size, ⟨h.1, fun h0 => absurd h0 hn⟩, fun h0 => absurd h0 (Nat.lt_irrefl _)⟩
theorem OwnA.slice (h : OwnA w t f A n c xs) (hf : ∀ x, (f x).length = size) : SliceOf w size f A n c xs := by
  obtain ⟨g, ho, _⟩ := h.own
  exact ho.slice hf h.2.1 h.2.2.1
theorem OwnA.lt (h : OwnA w t f A n c xs) {b : Nat} (hb : blkOf A n = some b) : b < w.heap.size := by
  obtain ⟨g, ho, _⟩ := h.own
  obtain ⟨rfl, hn⟩ := ho.blk hb
  exact ho.lt hn
theorem SliceOf.turn (h : SliceOf w size f A n c xs) (k : Turn S w w') (hne : ∀ b, blkOf A n = some b → ¬ S b) : SliceOf w' size f A n c xs := by
  obtain ⟨h1, h2, h3, h4⟩ := h
  refine ⟨h1, h2, h3, fun hn => ?_⟩
  obtain ⟨b, off, hA, hb, hc⟩ := h4 hn
  exact ⟨b, off, hA, Nat.lt_of_lt_of_le hb k.size, fun i x hx j u hu => (k.cell hb (hne b (by unfold blkOf; rw [if_neg (by omega), hA]; rfl))).trans (hc i x hx j u hu)⟩
theorem SliceOf.blk (h : SliceOf w size f A n c xs) {b : Nat} (hb : blkOf A n = some b) : b < w.heap.size := by
  unfold blkOf at hb
  split at hb
  · cases hb
  · obtain ⟨b', off, hA, hlt, _⟩ := h.2.2.2 (by omega)
    rw [hA] at hb
    simp at hb
    omega
end
/-- blocks that are apart -/
def SepL (l : List (Option Nat)) : Prop := ∀ (i j b : Nat), i ≠ j → l[i]? = some (some b) → l[j]? ≠ some (some b)
end Go.Proofs.Ytegkeeeohileiaa

namespace Go.Proofs.Ytegkeeeohileiaa
open Go.RowKit
section
variable {P : Program}
theorem OwnL.grown {α : Type} {w w' : World} {base : Nat} {e : TypeId} {size : Nat} {f : α → List Value} {v : Value} {L : List α} {row : Option Nat} (h : OwnL w base e size f v L) (hx : w.grownBy w' row) (hne : ∀ k, v.ownBlock = some k → row ≠ some k) : OwnL w' base e size f v L := by
  obtain ⟨h1, h2⟩ := h
  refine ⟨h1, ?_⟩
  rcases h2 with h2 | ⟨k, cap, cur, hv, hb, hh, r⟩
  · exact .inl h2
  · refine .inr ⟨k, cap, cur, hv, hb, ?_, r⟩
    have hlt : k < w.heap.size := by
      rcases Nat.lt_or_ge k w.heap.size with hlt | hge
      · exact hlt
      · rw [Array.getElem?_eq_none hge] at hh; cases hh
    exact (hx.block k hlt (fun e => hne k (by rw [hv]; rfl) e.symm)).trans hh
theorem wpList_append_grow {α : Type} {ops : Array Oper} {rest : List Oper} {o : Oper} {a : Act} {Q : Exit → Act → World → Prop} {w : World} (hgd : o.guard = none) (s x : Operand) (t : TypeId)
    (ho : o.op = .call { callee := .builtin .append, args := #[s, x], argTypes := #[t, t] }) (base : Nat) (e : TypeId) (z : Value) (size bytes : Nat) (ht : P.underlying t = some (.slice e))
    (hi : (P.info? e).map (fun i => (i.zero, i.size, i.bytes)) = some (some z, size, bytes)) (hzs : z.cells.size = size) (hsz : 0 < size) (f : α → List Value) (hf : ∀ y, (f y).length = size) (h1 : ∀ y, ∀ u ∈ f y, u.oneCell' = true)
    (v : Value) (L : List α) (hs : a.eval s = v) (hown : OwnL w base e size f v L) (A : Option Addr) (m c : Nat) (ys : List α) (hx : a.eval x = .slice A m c) (hsrc : SliceOf w size f A m c ys)
    (hlen : L.length + m ≤ 1000000000) (hb : bytes ≤ 10000) (hbase : base ≤ w.heap.size)
    (h : ∀ v' w', OwnL w' base e size f v' (L ++ ys) → w.grownBy w' v.ownBlock → wpList P ops Q rest (a.put o.dst v') w') : wpList P ops Q (o :: rest) a w := by
  cases A with
  | none =>
    obtain ⟨rfl, rfl⟩ := hsrc.none_nil
    obtain ⟨i, hi1, _⟩ := info_parts hi
    refine Lib.wpList_append_run w hgd s x t t ho v (.slice none 0 c) hs hx v w (run_append_of_nil w base t o.type e i size ht hi1 v L.length (L.flatMap f) hown c) (h v w (by rw [List.append_nil]; exact hown) ⟨rfl, rfl, rfl, Nat.le_refl _, fun _ _ _ => rfl⟩)
  | some ad =>
    obtain ⟨i, hi1, hi2, hi3, hi4⟩ := info_parts hi
    obtain ⟨hm, hc1, hc2, hc3⟩ := hsrc
    refine wpList_append_own w hgd s x t ho base e i z size bytes ht hi1 hi2 hi3 hi4 hzs hsz v L.length (L.flatMap f) hs hown ad m c (ys.flatMap f) hx (by rw [flat_len hf, hm]) ?_ ?_ (by simp only [maxLen]; omega) ?_ hbase ?_
    · intro j u hu
      have hj : j < (ys.flatMap f).length := (List.getElem?_eq_some_iff.1 hu).1
      rw [flat_len hf] at hj
      have hm0 : 0 < m := by
        rcases Nat.eq_zero_or_pos m with h0 | h0
        · rw [← hm, h0] at hj; omega
        · exact h0
      obtain ⟨b, off, hA, _, hc⟩ := hc3 hm0
      injection hA with hA
      subst hA
      have hadd : (Addr.add ⟨b, off, none⟩ j) = ⟨b, off + j, none⟩ := by unfold Addr.add; split <;> simp_all
      rw [hadd]
      have hq : j / size < ys.length := by
        apply Nat.div_lt_of_lt_mul; rw [Nat.mul_comm]; exact hj
      have hy : ys[j / size]? = some ys[j / size] := List.getElem?_eq_getElem hq
      have hr : j % size < (f ys[j / size]).length := by rw [hf]; exact Nat.mod_lt _ hsz
      have hu' : (f ys[j / size])[j % size]? = some ((f ys[j / size])[j % size]) := List.getElem?_eq_getElem hr
      have hfl := flat_get hf hy hu'
      have hjj : j / size * size + j % size = j := by rw [Nat.mul_comm]; exact Nat.div_add_mod j size
      rw [hjj] at hfl
      rw [hfl] at hu
      injection hu with hu
      rw [← hu]
      have := hc _ _ hy _ _ hu'
      rw [Nat.add_assoc, hjj] at this
      exact this
    · intro u hu
      obtain ⟨y, _, hy⟩ := List.mem_flatMap.1 hu
      exact h1 y u hy
    · have : (L.length + m) * bytes ≤ 1000000000 * 10000 := Nat.mul_le_mul hlen hb
      omega
    · intro v' w' h2 h3 _
      refine h v' w' ?_ h3
      unfold OwnL
      rw [List.length_append, List.flatMap_append, ← hm]
      exact h2
end
end Go.Proofs.Ytegkeeeohileiaa
