/-
  append of a whole slice: which block alone may turn. No function of the program is named here.
-/
import Derived.Test.YtglbiddddflmeaaDoorAppend
import Derived.Test.YtglbiddddflmeaaDoorTurn
namespace Go.Proofs.YtglbiddddflmeaaDoor
open Go.RowKit
section
variable {P : Program}
theorem OwnL.grown {α : Type} {w w' : World} {base : Nat} {e : TypeId} {size : Nat} {f : α → List Value} {v : Value} {L : List α} {row : Option Nat} (h : OwnL w base e size f v L) (hx : w.grownBy w' row) (hne : ∀ k, v.ownBlock = some k → row ≠ some k) : OwnL w' base e size f v L := by
  obtain ⟨h1, h2⟩ := h
  refine ⟨h1, ?_⟩
  rcases h2 with h2 | ⟨k, cap, cur, hv, hb, hh, r⟩
  · exact .inl h2
  · refine .inr ⟨k, cap, cur, hv, hb, ?_, r⟩
    have hlt : k < w.heap.size := by
      rcases Nat.lt_or_ge k w.heap.size with hlt | hge
      · exact hlt
      · rw [Array.getElem?_eq_none hge] at hh; cases hh
    exact (hx.block k hlt (fun e => hne k (by rw [hv]; rfl) e.symm)).trans hh
theorem wpList_append_grow {α : Type} {ops : Array Oper} {rest : List Oper} {o : Oper} {a : Act} {Q : Exit → Act → World → Prop} {w : World} (hgd : o.guard = none) (s x : Operand) (t : TypeId)
    (ho : o.op = .call { callee := .builtin .append, args := #[s, x], argTypes := #[t, t] }) (base : Nat) (e : TypeId) (z : Value) (size bytes : Nat) (ht : P.underlying t = some (.slice e))
    (hi : (P.info? e).map (fun i => (i.zero, i.size, i.bytes)) = some (some z, size, bytes)) (hzs : z.cells.size = size) (hsz : 0 < size) (f : α → List Value) (hf : ∀ y, (f y).length = size) (h1 : ∀ y, ∀ u ∈ f y, u.oneCell' = true)
    (v : Value) (L : List α) (hs : a.eval s = v) (hown : OwnL w base e size f v L) (A : Option Addr) (m c : Nat) (ys : List α) (hx : a.eval x = .slice A m c) (hsrc : SliceOf w size f A m c ys)
    (hlen : L.length + m ≤ 1000000000) (hb : bytes ≤ 10000) (hbase : base ≤ w.heap.size)
    (h : ∀ v' w', OwnL w' base e size f v' (L ++ ys) → w.grownBy w' v.ownBlock → wpList P ops Q rest (a.put o.dst v') w') : wpList P ops Q (o :: rest) a w := by
  cases A with
  | none =>
    obtain ⟨rfl, rfl⟩ := hsrc.none_nil
    obtain ⟨i, hi1, _⟩ := info_parts hi
    refine Lib.wpList_append_run w hgd s x t t ho v (.slice none 0 c) hs hx v w (run_append_of_nil w base t o.type e i size ht hi1 v L.length (L.flatMap f) hown c) (h v w (by rw [List.append_nil]; exact hown) ⟨rfl, rfl, rfl, Nat.le_refl _, fun _ _ _ => rfl⟩)
  | some ad =>
    obtain ⟨i, hi1, hi2, hi3, hi4⟩ := info_parts hi
    obtain ⟨hm, hc1, hc2, hc3⟩ := hsrc
    refine wpList_append_own w hgd s x t ho base e i z size bytes ht hi1 hi2 hi3 hi4 hzs hsz v L.length (L.flatMap f) hs hown ad m c (ys.flatMap f) hx (by rw [flat_len hf, hm]) ?_ ?_ (by simp only [maxLen]; omega) ?_ hbase ?_
    · intro j u hu
      have hj : j < (ys.flatMap f).length := (List.getElem?_eq_some_iff.1 hu).1
      rw [flat_len hf] at hj
      have hm0 : 0 < m := by
        rcases Nat.eq_zero_or_pos m with h0 | h0
        · rw [← hm, h0] at hj; omega
        · exact h0
      obtain ⟨b, off, hA, _, hc⟩ := hc3 hm0
      injection hA with hA
      subst hA
      have hadd : (Addr.add ⟨b, off, none⟩ j) = ⟨b, off + j, none⟩ := by unfold Addr.add; split <;> simp_all
      rw [hadd]
      have hq : j / size < ys.length := by
        apply Nat.div_lt_of_lt_mul; rw [Nat.mul_comm]; exact hj
      have hy : ys[j / size]? = some ys[j / size] := List.getElem?_eq_getElem hq
      have hr : j % size < (f ys[j / size]).length := by rw [hf]; exact Nat.mod_lt _ hsz
      have hu' : (f ys[j / size])[j % size]? = some ((f ys[j / size])[j % size]) := List.getElem?_eq_getElem hr
      have hfl := flat_get hf hy hu'
      have hjj : j / size * size + j % size = j := by rw [Nat.mul_comm]; exact Nat.div_add_mod j size
      rw [hjj] at hfl
      rw [hfl] at hu
      injection hu with hu
      rw [← hu]
      have := hc _ _ hy _ _ hu'
      rw [Nat.add_assoc, hjj] at this
      exact this
    · intro u hu
      obtain ⟨y, _, hy⟩ := List.mem_flatMap.1 hu
      exact h1 y u hy
    · have : (L.length + m) * bytes ≤ 1000000000 * 10000 := Nat.mul_le_mul hlen hb
      omega
    · intro v' w' h2 h3 _
      refine h v' w' ?_ h3
      unfold OwnL
      rw [List.length_append, List.flatMap_append, ← hm]
      exact h2
end
end Go.Proofs.YtglbiddddflmeaaDoor
