/-
  append of one structure, and of a whole slice, onto a slice of the call's own. No function of the program is named here. Plain lemmas: what append and a source's draw keep. No function of the program is named here.
-/
import Derived.Test.YtegkeeeohileiaaSa02
import Derived.Laws.AppendOwn
import Derived.Lib.AppendZeros
namespace Go.Proofs.Ytegkeeeohileiaa
open Go.RowKit

/-- a slice of the call's own that append may grow: its blocks lie from base on -/
def OwnL {α : Type} (w : World) (base : Nat) (e : TypeId) (size : Nat) (f : α → List Value) (v : Value) (L : List α) : Prop := w.ownsRow base e size v L.length (L.flatMap f)
section
variable {α : Type} {w w' : World} {base : Nat} {e : TypeId} {size : Nat} {f : α → List Value} {v : Value} {L : List α}
theorem OwnL.nil_ (w : World) (base : Nat) (e : TypeId) (size : Nat) (f : α → List Value) : OwnL w base e size f (.slice none 0 0) [] := ⟨by simp, .inl ⟨rfl, rfl⟩⟩
theorem OwnL.empty (W : World) (base : Nat) (e : TypeId) (size : Nat) (f : α → List Value) (hb : base ≤ W.heap.size) : OwnL (W.alloc (.cells #[] e)) base e size f (.slice (some ⟨W.heap.size, 0, none⟩) 0 0) [] :=
  ⟨by simp, .inr ⟨W.heap.size, 0, #[], rfl, hb, heap_alloc_new W _, by simp, by simp, by simp, by simp⟩⟩
theorem OwnL.block_le (h : OwnL w base e size f v L) {k : Nat} (hk : v.ownBlock = some k) : base ≤ k := by
  rcases h.2 with ⟨rfl, _⟩ | ⟨g, cap, cur, rfl, hb, _⟩
  · simp [Value.ownBlock] at hk
  · simp [Value.ownBlock] at hk; omega
theorem OwnL.ext (h : OwnL w base e size f v L) (hx : Ext w w') : OwnL w' base e size f v L := by
  obtain ⟨h1, h2⟩ := h
  refine ⟨h1, ?_⟩
  rcases h2 with h2 | ⟨g, cap, cur, hv, hb, hh, r⟩
  · exact .inl h2
  · refine .inr ⟨g, cap, cur, hv, hb, ?_, r⟩
    have hlt : g < w.heap.size := by
      rcases Nat.lt_or_ge g w.heap.size with hlt | hge
      · exact hlt
      · rw [Array.getElem?_eq_none hge] at hh; cases hh
    exact (hx.block g hlt).trans hh
theorem OwnL.form (h : OwnL w base e size f v L) : ∃ A c, v = .slice A L.length c ∧ L.length ≤ c ∧ c ≤ 9223372036854775807 := by
  rcases h.2 with ⟨rfl, hn⟩ | ⟨g, cap, cur, rfl, _, _, hnc, hcm, _⟩
  · exact ⟨none, 0, by rw [hn], by omega, by omega⟩
  · exact ⟨_, cap, rfl, hnc, hcm⟩
theorem OwnL.own (h : OwnL w base e size f v L) (hf : ∀ x, (f x).length = size) (hs : 0 < size) :
    ∃ A c g, v = .slice A L.length c ∧ base ≤ g ∧ L.length ≤ c ∧ c ≤ 9223372036854775807 ∧ OwnS w g e f A L.length L := by
  obtain ⟨A, c, g, h1, h2, h3, h4, h5, _⟩ := OwnS.of_owns hf hs h rfl
  exact ⟨A, c, g, h1, h2, h3, h4, h5⟩
end

section
variable {P : Program}
theorem wpList_append_one {α : Type} {ops : Array Oper} {rest : List Oper} {o : Oper} {a : Act} {Q : Exit → Act → World → Prop} {w : World} (hgd : o.guard = none) (s x : Operand) (t : TypeId)
    (ho : o.op = .call { callee := .builtin .append, args := #[s, x], argTypes := #[t, t] }) (base : Nat) (e : TypeId) (z : Value) (size bytes : Nat) (ht : P.underlying t = some (.slice e))
    (hi : (P.info? e).map (fun i => (i.zero, i.size, i.bytes)) = some (some z, size, bytes)) (hzs : z.cells.size = size) (hsz : 0 < size) (f : α → List Value) (hf : ∀ y, (f y).length = size) (h1 : ∀ y, ∀ u ∈ f y, u.oneCell' = true)
    (v : Value) (L : List α) (hs : a.eval s = v) (hown : OwnL w base e size f v L) (W : World) (y : α) (hW : w = W.alloc (.cells (f y).toArray e)) (b : Nat) (hx : a.eval x = .slice (some ⟨b, 0, none⟩) 1 1) (hbW : b = W.heap.size)
    (hlen : L.length ≤ 1000000000) (hb : bytes ≤ 10000) (hbase : base ≤ W.heap.size)
    (h : ∀ v' w', OwnL w' base e size f v' (L ++ [y]) → (∀ w0 : World, w0.heap.size ≤ base → Ext w0 w → Ext w0 w') → wpList P ops Q rest (a.put o.dst v') w') : wpList P ops Q (o :: rest) a w := by
  subst hbW
  obtain ⟨i, hi1, hi2, hi3, hi4⟩ := info_parts hi
  have hnew : Row w W.heap.size e (f y) := by rw [hW]; exact Row.new W e (f y)
  refine wpList_append_own w hgd s x t ho base e i z size bytes ht hi1 hi2 hi3 hi4 hzs hsz v L.length (L.flatMap f) hs hown ⟨W.heap.size, 0, none⟩ 1 1 (f y) hx (by rw [hf, Nat.one_mul]) ?_ (h1 y) (by simp only [maxLen]; omega) ?_ (by rw [hW]; simp; omega) ?_
  · intro j u hu
    have hadd : (Addr.add ⟨W.heap.size, 0, none⟩ j) = ⟨W.heap.size, j, none⟩ := by unfold Addr.add; split <;> simp_all
    rw [hadd, hnew.cell]; exact hu
  · have : (L.length + 1) * bytes ≤ 1000000001 * 10000 := Nat.mul_le_mul (by omega) hb
    omega
  · intro v' w' h2 h3 _
    refine h v' w' ?_ ?_
    · unfold OwnL
      rw [List.length_append, List.length_singleton, List.flatMap_append, List.flatMap_singleton]
      exact h2
    · intro w0 hw0 hx0
      exact hx0.grown h3 (fun k hk => Nat.le_trans hw0 (hown.block_le hk))
theorem wpList_append_many {α : Type} {ops : Array Oper} {rest : List Oper} {o : Oper} {a : Act} {Q : Exit → Act → World → Prop} {w : World} (hgd : o.guard = none) (s x : Operand) (t : TypeId)
    (ho : o.op = .call { callee := .builtin .append, args := #[s, x], argTypes := #[t, t] }) (base : Nat) (e : TypeId) (z : Value) (size bytes : Nat) (ht : P.underlying t = some (.slice e))
    (hi : (P.info? e).map (fun i => (i.zero, i.size, i.bytes)) = some (some z, size, bytes)) (hzs : z.cells.size = size) (hsz : 0 < size) (f : α → List Value) (hf : ∀ y, (f y).length = size) (h1 : ∀ y, ∀ u ∈ f y, u.oneCell' = true)
    (v : Value) (L : List α) (hs : a.eval s = v) (hown : OwnL w base e size f v L) (ad : Addr) (m c : Nat) (ys : List α) (hx : a.eval x = .slice (some ad) m c) (hsrc : SliceOf w size f (some ad) m c ys)
    (hlen : L.length + m ≤ 1000000000) (hb : bytes ≤ 10000) (hbase : base ≤ w.heap.size)
    (h : ∀ v' w', OwnL w' base e size f v' (L ++ ys) → (∀ w0 : World, w0.heap.size ≤ base → Ext w0 w → Ext w0 w') → wpList P ops Q rest (a.put o.dst v') w') : wpList P ops Q (o :: rest) a w := by
  obtain ⟨i, hi1, hi2, hi3, hi4⟩ := info_parts hi
  obtain ⟨hm, hc1, hc2, hc3⟩ := hsrc
  refine wpList_append_own w hgd s x t ho base e i z size bytes ht hi1 hi2 hi3 hi4 hzs hsz v L.length (L.flatMap f) hs hown ad m c (ys.flatMap f) hx (by rw [flat_len hf, hm]) ?_ ?_ (by simp only [maxLen]; omega) ?_ hbase ?_
  · intro j u hu
    have hj : j < (ys.flatMap f).length := (List.getElem?_eq_some_iff.1 hu).1
    rw [flat_len hf] at hj
    have hm0 : 0 < m := by
      rcases Nat.eq_zero_or_pos m with h0 | h0
      · rw [← hm, h0] at hj; omega
      · exact h0
    obtain ⟨b, off, hA, _, hc⟩ := hc3 hm0
    injection hA with hA
    subst hA
    have hadd : (Addr.add ⟨b, off, none⟩ j) = ⟨b, off + j, none⟩ := by unfold Addr.add; split <;> simp_all
    rw [hadd]
    have hq : j / size < ys.length := by
      apply Nat.div_lt_of_lt_mul; rw [Nat.mul_comm]; exact hj
    have hy : ys[j / size]? = some ys[j / size] := List.getElem?_eq_getElem hq
    have hr : j % size < (f ys[j / size]).length := by rw [hf]; exact Nat.mod_lt _ hsz
    have hu' : (f ys[j / size])[j % size]? = some ((f ys[j / size])[j % size]) := List.getElem?_eq_getElem hr
    have hfl := flat_get hf hy hu'
    have hjj : j / size * size + j % size = j := by rw [Nat.mul_comm]; exact Nat.div_add_mod j size
    rw [hjj] at hfl
    rw [hfl] at hu
    injection hu with hu
    rw [← hu]
    have := hc _ _ hy _ _ hu'
    rw [Nat.add_assoc, hjj] at this
    exact this
  · intro u hu
    obtain ⟨y, _, hy⟩ := List.mem_flatMap.1 hu
    exact h1 y u hy
  · have : (L.length + m) * bytes ≤ 1000000000 * 10000 := Nat.mul_le_mul hlen hb
    omega
  · intro v' w' h2 h3 _
    refine h v' w' ?_ ?_
    · unfold OwnL
      rw [List.length_append, List.flatMap_append, ← hm]
      exact h2
    · intro w0 hw0 hx0
      exact hx0.grown h3 (fun k hk => Nat.le_trans hw0 (hown.block_le hk))
theorem run_append_of_nil (w : World) (base : Nat) (t ty e : TypeId) (i : TypeInfo) (size : Nat) (ht : P.underlying t = some (.slice e)) (hi : P.info? e = some i)
    (v : Value) (n : Nat) (xs : List Value) (hown : w.ownsRow base e size v n xs) (c : Nat) : (Builtin.append_ #[t, t] ty #[v, .slice none 0 c]).run P w = .ok v w := by
  rcases hown.2 with ⟨rfl, rfl⟩ | ⟨g, cap, cur, rfl, _, _, hnc, _⟩
  · simp [Builtin.append_, run_underlying ht, sizeOf, typeInfo, hi, Builtin.lenOf, Builtin.firstCells]
  · simp [Builtin.append_, run_underlying ht, sizeOf, typeInfo, hi, Builtin.lenOf, Builtin.firstCells, hnc, storeCells]
theorem SliceOf.none_nil {α : Type} {w : World} {size : Nat} {f : α → List Value} {n c : Nat} {xs : List α} (h : SliceOf w size f none n c xs) : n = 0 ∧ xs = [] := by
  have hn0 : n = 0 := by
    rcases Nat.eq_zero_or_pos n with h0 | h0
    · exact h0
    · obtain ⟨_, _, hA, _⟩ := h.2.2.2 h0; cases hA
  exact ⟨hn0, List.eq_nil_of_length_eq_zero (by rw [← h.1]; exact hn0)⟩
/-- append of a whole slice, nil or not -/
theorem wpList_append_slice {α : Type} {ops : Array Oper} {rest : List Oper} {o : Oper} {a : Act} {Q : Exit → Act → World → Prop} {w : World} (hgd : o.guard = none) (s x : Operand) (t : TypeId)
    (ho : o.op = .call { callee := .builtin .append, args := #[s, x], argTypes := #[t, t] }) (base : Nat) (e : TypeId) (z : Value) (size bytes : Nat) (ht : P.underlying t = some (.slice e))
    (hi : (P.info? e).map (fun i => (i.zero, i.size, i.bytes)) = some (some z, size, bytes)) (hzs : z.cells.size = size) (hsz : 0 < size) (f : α → List Value) (hf : ∀ y, (f y).length = size) (h1 : ∀ y, ∀ u ∈ f y, u.oneCell' = true)
    (v : Value) (L : List α) (hs : a.eval s = v) (hown : OwnL w base e size f v L) (A : Option Addr) (m c : Nat) (ys : List α) (hx : a.eval x = .slice A m c) (hsrc : SliceOf w size f A m c ys)
    (hlen : L.length + m ≤ 1000000000) (hb : bytes ≤ 10000) (hbase : base ≤ w.heap.size)
    (h : ∀ v' w', OwnL w' base e size f v' (L ++ ys) → (∀ w0 : World, w0.heap.size ≤ base → Ext w0 w → Ext w0 w') → wpList P ops Q rest (a.put o.dst v') w') : wpList P ops Q (o :: rest) a w := by
  cases A with
  | some ad => exact wpList_append_many hgd s x t ho base e z size bytes ht hi hzs hsz f hf h1 v L hs hown ad m c ys hx hsrc hlen hb hbase h
  | none =>
    obtain ⟨rfl, rfl⟩ := hsrc.none_nil
    obtain ⟨i, hi1, _⟩ := info_parts hi
    refine Lib.wpList_append_run w hgd s x t t ho v (.slice none 0 c) hs hx v w (run_append_of_nil w base t o.type e i size ht hi1 v L.length (L.flatMap f) hown c) (h v w (by rw [List.append_nil]; exact hown) (fun _ _ hx0 => hx0))
end
end Go.Proofs.Ytegkeeeohileiaa

namespace Go.Proofs.Ytegkeeeohileiaa
open Go.RowKit

/-- the blocks below base stayed -/
structure Kept (base : Nat) (w w' : World) : Prop where
  os : w'.os = w.os
  tape : w'.tape = w.tape
  output : w'.output = w.output
  size : base ≤ w'.heap.size
  block : ∀ k, k < base → w'.heap[k]? = w.heap[k]?
theorem kept_append {w w' : World} {base : Nat} (hb : base ≤ w.heap.size) (h : ∀ w0 : World, w0.heap.size ≤ base → Ext w0 w → Ext w0 w') : Kept base w w' := by
  have hT : Ext { w with heap := w.heap.extract 0 base } w := by
    refine ⟨rfl, rfl, rfl, by simp; omega, fun k hk => ?_⟩
    simp at hk
    simp [Array.getElem?_extract]
    omega
  have h2 := h _ (by simp; omega) hT
  refine ⟨h2.os, h2.tape, h2.output, ?_, fun k hk => ?_⟩
  · have := h2.size
    simp at this
    omega
  · have := h2.block k (by simp; omega)
    rw [this]
    simp [Array.getElem?_extract]
    omega
section
variable {α : Type} {w w' : World} {base g : Nat} {e : TypeId} {size : Nat} {f : α → List Value} {v : Value} {L : List α}
theorem Row.kept {cs : List Value} (h : Row w g e cs) (hx : Kept base w w') (hg : g < base) : Row w' g e cs := (hx.block g hg).trans h
theorem Only.kept {w0 : World} (h : Only g w0 w) (hx : Kept base w w') (hb : w0.heap.size ≤ base) : Only g w0 w' :=
  ⟨hx.os.trans h.os, hx.tape.trans h.tape, hx.output.trans h.output, Nat.le_trans hb hx.size, fun k hk hne => (hx.block k (by omega)).trans (h.block k hk hne)⟩
theorem OwnL.only (h : OwnL w base e size f v L) (hx : Only g w w') (hg : g < base) : OwnL w' base e size f v L := by
  obtain ⟨h1, h2⟩ := h
  refine ⟨h1, ?_⟩
  rcases h2 with h2 | ⟨k, cap, cur, hv, hb, hh, r⟩
  · exact .inl h2
  · refine .inr ⟨k, cap, cur, hv, hb, ?_, r⟩
    have hlt : k < w.heap.size := by
      rcases Nat.lt_or_ge k w.heap.size with hlt | hge
      · exact hlt
      · rw [Array.getElem?_eq_none hge] at hh; cases hh
    exact (hx.block k hlt (by simp; omega)).trans hh
end
end Go.Proofs.Ytegkeeeohileiaa
