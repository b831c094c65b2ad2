/-
  append onto an empty slice that was just made: nothing that was there turns. No function of the program is named here. A new empty slice that may be appended to.
-/
import Derived.Test.YtegkeeeohileiaaSa06
import Derived.Test.YtegkeeeohileiaaSa05
namespace Go.Proofs.Ytegkeeeohileiaa
open Go.RowKit
section
variable {P : Program}
theorem run_append_zero (w : World) (t ty e : TypeId) (i : TypeInfo) (ht : P.underlying t = some (.slice e)) (hi : P.info? e = some i) (g : Nat) (A : Option Addr) (c : Nat) :
    (Builtin.append_ #[t, t] ty #[.slice (some ⟨g, 0, none⟩) 0 0, .slice A 0 c]).run P w = .ok (.slice (some ⟨g, 0, none⟩) 0 0) w := by
  cases A <;> simp [Builtin.append_, run_underlying ht, sizeOf, typeInfo, hi, Builtin.lenOf, Builtin.firstCells, storeCells, loadCells, loadCellsFrom]
/-- append of a whole slice onto an empty one -/
theorem wpList_append_fresh {α : Type} {ops : Array Oper} {rest : List Oper} {o : Oper} {a : Act} {Q : Exit → Act → World → Prop} {w : World} (hgd : o.guard = none) (s x : Operand) (t : TypeId)
    (ho : o.op = .call { callee := .builtin .append, args := #[s, x], argTypes := #[t, t] }) (base : Nat) (e : TypeId) (z : Value) (size bytes : Nat) (ht : P.underlying t = some (.slice e))
    (hi : (P.info? e).map (fun i => (i.zero, i.size, i.bytes)) = some (some z, size, bytes)) (hzs : z.cells.size = size) (hsz : 0 < size) (f : α → List Value) (hf : ∀ y, (f y).length = size) (_ : ∀ y, ∀ u ∈ f y, u.oneCell' = true)
    (g : Nat) (hs : a.eval s = .slice (some ⟨g, 0, none⟩) 0 0) (hr : Row w g e []) (hbg : base ≤ g) (A : Option Addr) (m c : Nat) (ys : List α) (hx : a.eval x = .slice A m c) (hsrc : SliceOf w size f A m c ys)
    (hlen : m ≤ 1000000000) (hb : bytes ≤ 10000) (hbase : base ≤ w.heap.size)
    (h : ∀ v' w', OwnL w' base e size f v' ys → Ext w w' → wpList P ops Q rest (a.put o.dst v') w') : wpList P ops Q (o :: rest) a w := by
  have hown : OwnL w base e size f (.slice (some ⟨g, 0, none⟩) 0 0) [] := ⟨by simp, .inr ⟨g, 0, #[], rfl, hbg, hr, by simp, by simp, by simp, by simp⟩⟩
  by_cases hm : m = 0
  · subst hm
    have hys : ys = [] := List.eq_nil_of_length_eq_zero hsrc.1.symm
    subst hys
    obtain ⟨i, hi1, _⟩ := info_parts hi
    exact Lib.wpList_append_run w hgd s x t t ho _ (.slice A 0 c) hs hx _ w (run_append_zero w t o.type e i ht hi1 g A c) (h _ w hown (Ext.refl _))
  · obtain ⟨i, hi1, hi2, hi3, hi4⟩ := info_parts hi
    obtain ⟨hm1, hc1, hc2, hc3⟩ := hsrc
    obtain ⟨b, off, rfl, hbl, hc⟩ := hc3 (by omega)
    have hnews : ∀ j u, (ys.flatMap f)[j]? = some u → w.cell? ((⟨b, off, none⟩ : Addr).add j) = some u := by
      intro j u hu
      have hj : j < (ys.flatMap f).length := (List.getElem?_eq_some_iff.1 hu).1
      rw [flat_len hf] at hj
      have hadd : (Addr.add ⟨b, off, none⟩ j) = ⟨b, off + j, none⟩ := by unfold Addr.add; split <;> simp_all
      rw [hadd]
      have hq : j / size < ys.length := by
        apply Nat.div_lt_of_lt_mul; rw [Nat.mul_comm]; exact hj
      have hy : ys[j / size]? = some ys[j / size] := List.getElem?_eq_getElem hq
      have hr : j % size < (f ys[j / size]).length := by rw [hf]; exact Nat.mod_lt _ hsz
      have hu' : (f ys[j / size])[j % size]? = some ((f ys[j / size])[j % size]) := List.getElem?_eq_getElem hr
      have hfl := flat_get hf hy hu'
      have hjj : j / size * size + j % size = j := by rw [Nat.mul_comm]; exact Nat.div_add_mod j size
      rw [hjj] at hfl
      rw [hfl] at hu
      injection hu with hu
      rw [← hu]
      have := hc _ _ hy _ _ hu'
      rw [Nat.add_assoc, hjj] at this
      exact this
    have hl : (ys.flatMap f).length = m * i.size := by rw [flat_len hf, hm1, hi3]
    have hmm : m * i.bytes ≤ 1000000000 * 10000 := Nat.mul_le_mul hlen (by rw [hi4]; exact hb)
    have hge := grownCap_ge w m 0 e
    have hcm := grownCap_le_maxLen w m 0 e (by simp only [maxLen]; omega)
    have hr := run_append_grow (P := P) w t o.type e i z ht hi1 hi2 ⟨g, 0, none⟩ 0 0 [] (by simp) (by intro j u hu; simp at hu) ⟨b, off, none⟩ m c (ys.flatMap f) hl hnews (by omega) (by omega) (growslice_fits (by omega) (by rw [Nat.zero_add]; omega))
    simp only [Nat.zero_add] at hr
    refine Lib.wpList_append_run w hgd s x t t ho _ (.slice (some ⟨b, off, none⟩) m c) hs hx _ _ hr (h _ _ ⟨by rw [hl, hi3, hm1], .inr ⟨w.heap.size, _, _, by rw [← hm1], hbase, heap_alloc_new w.drew _, by omega, hcm, ?_, ?_⟩⟩ ((Ext.refl w).drew.and_alloc _))
    · simp only [Array.size_append, List.size_toArray, size_zeroCells, hzs, hl, hi3, List.length_nil, Nat.zero_add, ← Nat.add_mul]
      congr 1
      omega
    · simp only [Array.toList_append, List.nil_append]
      rw [← hm1, ← hi3, ← hl]
      exact List.take_left
theorem src_cells {α : Type} {w : World} {size : Nat} {f : α → List Value} {b off m c : Nat} {ys : List α} (hf : ∀ y, (f y).length = size) (hsz : 0 < size) (hsrc : SliceOf w size f (some ⟨b, off, none⟩) m c ys) :
    ∀ j u, (ys.flatMap f)[j]? = some u → w.cell? ((⟨b, off, none⟩ : Addr).add j) = some u := by
  intro j u hu
  have hj : j < (ys.flatMap f).length := (List.getElem?_eq_some_iff.1 hu).1
  rw [flat_len hf] at hj
  have hadd : (Addr.add ⟨b, off, none⟩ j) = ⟨b, off + j, none⟩ := by unfold Addr.add; split <;> simp_all
  rw [hadd]
  have hq : j / size < ys.length := by
    apply Nat.div_lt_of_lt_mul; rw [Nat.mul_comm]; exact hj
  have hy : ys[j / size]? = some ys[j / size] := List.getElem?_eq_getElem hq
  have hr : j % size < (f ys[j / size]).length := by rw [hf]; exact Nat.mod_lt _ hsz
  have hu' : (f ys[j / size])[j % size]? = some ((f ys[j / size])[j % size]) := List.getElem?_eq_getElem hr
  have hfl := flat_get hf hy hu'
  have hjj : j / size * size + j % size = j := by rw [Nat.mul_comm]; exact Nat.div_add_mod j size
  rw [hjj] at hfl
  rw [hfl] at hu
  injection hu with hu
  rw [← hu]
  obtain ⟨x, hx, hc⟩ := hsrc.at_ (k := j / size) (by rw [hsrc.1]; exact hq)
  rw [hy] at hx
  injection hx with hx
  subst hx
  have := hc _ _ hu'
  rw [Nat.add_assoc, hjj] at this
  exact this
/-- where the result of append lies: in the old block, or in a new one -/
theorem run_append_where (w : World) (base : Nat) (t ty e : TypeId) (i : TypeInfo) (z : Value) (ht : P.underlying t = some (.slice e)) (hi : P.info? e = some i) (hz : i.zero = some z)
    (v : Value) (n : Nat) (xs : List Value) (hown : w.ownsRow base e i.size v n xs) (a : Addr) (m c : Nat) (news : List Value) (hl : news.length = m * i.size) (hnews : ∀ j u, news[j]? = some u → w.cell? (a.add j) = some u) (h1 : ∀ u ∈ news, u.oneCell' = true)
    (h63 : n + m ≤ maxLen) (hbytes : (n + m) * i.bytes ≤ 140737488355328) (v' : Value) (w' : World) (h : (Builtin.append_ #[t, t] ty #[v, .slice (some a) m c]).run P w = .ok v' w') :
    ∀ k, v'.ownBlock = some k → v.ownBlock = some k ∨ w.heap.size ≤ k := by
  have hsmall : n + m ≤ 9223372036854775807 := by simp only [maxLen] at h63; omega
  intro k hk
  rcases hown.2 with ⟨rfl, rfl⟩ | ⟨g, cap, cur, rfl, hbg, hg, hnc, hcm, hcs, htake⟩
  · by_cases hm : m = 0
    · subst hm
      have hr : (Builtin.append_ #[t, t] ty #[.slice none 0 0, .slice (some a) 0 c]).run P w = .ok (.slice none 0 0) w := by
        simp [Builtin.append_, run_underlying ht, sizeOf, typeInfo, hi, Builtin.lenOf, Builtin.firstCells, loadCells, loadCellsFrom]
      rw [hr] at h
      injection h with h _
      subst h
      cases hk
    · have hr := run_append_nil (P := P) w t ty e i z ht hi hz a m c news hl hnews (by omega) (by omega) (by have hb := hbytes; simp only [Nat.zero_add] at hb; omega)
      rw [hr] at h
      injection h with h _
      subst h
      simp [Value.ownBlock] at hk
      right; omega
  · by_cases hroom : n + m ≤ cap
    · have hfit : n * i.size + news.length ≤ cur.size := by rw [hl, hcs, ← Nat.add_mul]; exact Nat.mul_le_mul_right _ hroom
      have hr := run_append_room (P := P) w t ty e i ht hi g n cap cur hg a m c news hl hnews h1 hroom hfit
      rw [hr] at h
      injection h with h _
      subst h
      left; exact hk
    · have holds : ∀ j u, xs[j]? = some u → w.cell? ((⟨g, 0, none⟩ : Addr).add j) = some u := hown.cells (g := g) rfl
      have hr := run_append_grow (P := P) w t ty e i z ht hi hz ⟨g, 0, none⟩ n cap xs hown.1 holds a m c news hl hnews (by omega) (by omega) (growslice_fits (by omega) hbytes)
      rw [hr] at h
      injection h with h _
      subst h
      simp [Value.ownBlock] at hk
      right; omega
theorem wpList_append_where {α : Type} {ops : Array Oper} {rest : List Oper} {o : Oper} {a : Act} {Q : Exit → Act → World → Prop} {w : World} (hgd : o.guard = none) (s x : Operand) (t : TypeId)
    (ho : o.op = .call { callee := .builtin .append, args := #[s, x], argTypes := #[t, t] }) (base : Nat) (e : TypeId) (z : Value) (size bytes : Nat) (ht : P.underlying t = some (.slice e))
    (hi : (P.info? e).map (fun i => (i.zero, i.size, i.bytes)) = some (some z, size, bytes)) (hzs : z.cells.size = size) (hsz : 0 < size) (f : α → List Value) (hf : ∀ y, (f y).length = size) (h1 : ∀ y, ∀ u ∈ f y, u.oneCell' = true)
    (v : Value) (L : List α) (hs : a.eval s = v) (hown : OwnL w base e size f v L) (b off m c : Nat) (ys : List α) (hx : a.eval x = .slice (some ⟨b, off, none⟩) m c) (hsrc : SliceOf w size f (some ⟨b, off, none⟩) m c ys)
    (hlen : L.length + m ≤ 1000000000) (hb : bytes ≤ 10000) (hbase : base ≤ w.heap.size)
    (h : ∀ v' w', OwnL w' base e size f v' (L ++ ys) → w.grownBy w' v.ownBlock → (∀ k, v'.ownBlock = some k → v.ownBlock = some k ∨ w.heap.size ≤ k) → wpList P ops Q rest (a.put o.dst v') w') : wpList P ops Q (o :: rest) a w := by
  obtain ⟨i, hi1, hi2, hi3, hi4⟩ := info_parts hi
  have hnews := src_cells hf hsz hsrc
  have hl : (ys.flatMap f).length = m * size := by rw [flat_len hf, hsrc.1]
  have hone : ∀ u ∈ ys.flatMap f, u.oneCell' = true := fun u hu => by
    obtain ⟨y, _, hy⟩ := List.mem_flatMap.1 hu
    exact h1 y u hy
  have hby : (L.length + m) * bytes ≤ 140737488355328 := by
    have : (L.length + m) * bytes ≤ 1000000000 * 10000 := Nat.mul_le_mul hlen hb
    omega
  have h63 : L.length + m ≤ maxLen := by simp only [maxLen]; omega
  obtain ⟨v', w', hr, h2, h3, _⟩ := run_append_own (P := P) w base t o.type e i z size bytes ht hi1 hi2 hi3 hi4 hzs hsz v L.length (L.flatMap f) hown ⟨b, off, none⟩ m c (ys.flatMap f) hl hnews hone h63 hby hbase
  refine Lib.wpList_append_run w hgd s x t t ho v (.slice (some ⟨b, off, none⟩) m c) hs hx v' w' hr (h v' w' ?_ h3 (run_append_where w base t o.type e i z ht hi1 hi2 v L.length (L.flatMap f) (by rw [hi3]; exact hown) ⟨b, off, none⟩ m c (ys.flatMap f) (by rw [hi3]; exact hl) hnews hone h63 (by rw [hi4]; exact hby) v' w' hr))
  unfold OwnL
  rw [List.length_append, List.flatMap_append, ← hsrc.1]
  exact h2
end
end Go.Proofs.Ytegkeeeohileiaa

namespace Go.Proofs.Ytegkeeeohileiaa
open Go.RowKit
theorem own_new {α : Type} (W : World) (base : Nat) (t : TypeId) (size : Nat) (f : α → List Value) (g : Nat) (hg : g = W.heap.size) (hb : base ≤ g) : OwnL (W.alloc (.cells #[] t)) base t size f (.slice (some ⟨g, 0, none⟩) 0 0) [] := by
  subst hg; exact OwnL.empty W base t size f hb
end Go.Proofs.Ytegkeeeohileiaa
