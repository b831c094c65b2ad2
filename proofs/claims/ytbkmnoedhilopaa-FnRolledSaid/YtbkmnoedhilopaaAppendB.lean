/-
  append onto one of several slices of the call's own: which block it turns and where the new slice lies. No function of the program is named here.
-/
import Derived.Test.YtbkmnoedhilopaaOwnK
namespace Go.Proofs.Ytbkmnoedhilopaa
open Go.RowKit

theorem run_append_own2 {P : Program} (w : World) (base : Nat) (t ty e : TypeId) (i : TypeInfo) (z : Value) (size bytes : Nat) (ht : P.underlying t = some (.slice e)) (hi : P.info? e = some i) (hz : i.zero = some z)
    (hsize : i.size = size) (hby : i.bytes = bytes) (hzs : z.cells.size = size) (hsz : 0 < size)
    (v : Value) (n : Nat) (xs : List Value) (hown : w.ownsRow base e size v n xs)
    (a : Addr) (m c : Nat) (news : List Value) (hl : news.length = m * size) (hnews : ∀ j u, news[j]? = some u → w.cell? (a.add j) = some u) (h1 : ∀ u ∈ news, u.oneCell' = true)
    (h63 : n + m ≤ maxLen) (hbytes : (n + m) * bytes ≤ 140737488355328) (hbase : base ≤ w.heap.size) :
    ∃ v' w', (Builtin.append_ #[t, t] ty #[v, .slice (some a) m c]).run P w = .ok v' w' ∧ w'.ownsRow base e size v' (n + m) (xs ++ news) ∧ w.grownBy w' v.ownBlock ∧ (v'.ownBlock = v.ownBlock ∨ v'.ownBlock = some w.heap.size) := by
  obtain ⟨v', w', hr0, h2, h3, _⟩ := run_append_own (P := P) w base t ty e i z size bytes ht hi hz hsize hby hzs hsz v n xs hown a m c news hl hnews h1 h63 hbytes hbase
  refine ⟨v', w', hr0, h2, h3, ?_⟩
  subst hsize
  subst hby
  have hsmall : n + m ≤ 9223372036854775807 := by simp only [maxLen] at h63; omega
  rcases hown.2 with ⟨rfl, rfl⟩ | ⟨g, cap, cur, rfl, hbg, hg, hnc, hcm, hcs, htake⟩
  · have hx : xs = [] := List.eq_nil_of_length_eq_zero (by simpa using hown.1)
    subst hx
    by_cases hm : m = 0
    · subst hm
      have hn : news = [] := List.eq_nil_of_length_eq_zero (by simpa using hl)
      subst hn
      have hr : (Builtin.append_ #[t, t] ty #[.slice none 0 0, .slice (some a) 0 c]).run P w = .ok (.slice none 0 0) w := by
        simp [Builtin.append_, run_underlying ht, sizeOf, typeInfo, hi, Builtin.lenOf, Builtin.firstCells, loadCells, loadCellsFrom]
      rw [hr] at hr0
      injection hr0 with h4 h5
      subst h4
      exact .inl rfl
    · have hr := run_append_nil (P := P) w t ty e i z ht hi hz a m c news hl hnews (by omega) (by omega) (by have hb := hbytes; simp only [Nat.zero_add] at hb; omega)
      rw [hr] at hr0
      injection hr0 with h4 h5
      subst h4
      exact .inr rfl
  · by_cases hroom : n + m ≤ cap
    · have hfit : n * i.size + news.length ≤ cur.size := by rw [hl, hcs, ← Nat.add_mul]; exact Nat.mul_le_mul_right _ hroom
      have hr := run_append_room (P := P) w t ty e i ht hi g n cap cur hg a m c news hl hnews h1 hroom hfit
      rw [hr] at hr0
      injection hr0 with h4 h5
      subst h4
      exact .inl rfl
    · have holds : ∀ j u, xs[j]? = some u → w.cell? ((⟨g, 0, none⟩ : Addr).add j) = some u := hown.cells (g := g) rfl
      have hr := run_append_grow (P := P) w t ty e i z ht hi hz ⟨g, 0, none⟩ n cap xs hown.1 holds a m c news hl hnews (by omega) (by omega) (growslice_fits (by omega) hbytes)
      rw [hr] at hr0
      injection hr0 with h4 h5
      subst h4
      exact .inr rfl
/-- where an append leaves things -/
structure Appd (w w' : World) (v v' : Value) : Prop where
  grown : w.grownBy w' v.ownBlock
  lies : v'.ownBlock = v.ownBlock ∨ v'.ownBlock = some w.heap.size
section
variable {P : Program}
theorem wpList_append_oneB {α : Type} {ops : Array Oper} {rest : List Oper} {o : Oper} {a : Act} {Q : Exit → Act → World → Prop} {w : World} (hgd : o.guard = none) (s x : Operand) (t : TypeId)
    (ho : o.op = .call { callee := .builtin .append, args := #[s, x], argTypes := #[t, t] }) (base : Nat) (e : TypeId) (z : Value) (size bytes : Nat) (ht : P.underlying t = some (.slice e))
    (hi : (P.info? e).map (fun i => (i.zero, i.size, i.bytes)) = some (some z, size, bytes)) (hzs : z.cells.size = size) (hsz : 0 < size) (f : α → List Value) (hf : ∀ y, (f y).length = size) (h1 : ∀ y, ∀ u ∈ f y, u.oneCell' = true)
    (v : Value) (L : List α) (hs : a.eval s = v) (hown : OwnL w base e size f v L) (W : World) (y : α) (hW : w = W.alloc (.cells (f y).toArray e)) (b : Nat) (hx : a.eval x = .slice (some ⟨b, 0, none⟩) 1 1) (hbW : b = W.heap.size)
    (hlen : L.length ≤ 1000000000) (hb : bytes ≤ 10000) (hbase : base ≤ W.heap.size)
    (h : ∀ v' w', OwnL w' base e size f v' (L ++ [y]) → Appd w w' v v' → wpList P ops Q rest (a.put o.dst v') w') : wpList P ops Q (o :: rest) a w := by
  subst hbW
  obtain ⟨i, hi1, hi2, hi3, hi4⟩ := info_parts hi
  have hnew : Row w W.heap.size e (f y) := by rw [hW]; exact Row.new W e (f y)
  obtain ⟨v', w', hr, h2, h3, h4⟩ := run_append_own2 (P := P) w base t o.type e i z size bytes ht hi1 hi2 hi3 hi4 hzs hsz v L.length (L.flatMap f) hown ⟨W.heap.size, 0, none⟩ 1 1 (f y) (by rw [hf, Nat.one_mul]) (by
    intro j u hu
    have hadd : (Addr.add ⟨W.heap.size, 0, none⟩ j) = ⟨W.heap.size, j, none⟩ := by unfold Addr.add; split <;> simp_all
    rw [hadd, hnew.cell]; exact hu) (h1 y) (by simp only [maxLen]; omega) (by
    have : (L.length + 1) * bytes ≤ 1000000001 * 10000 := Nat.mul_le_mul (by omega) hb
    omega) (by rw [hW]; simp; omega)
  refine Lib.wpList_append_run w hgd s x t t ho v (.slice (some ⟨W.heap.size, 0, none⟩) 1 1) hs hx v' w' hr (h v' w' ?_ ⟨h3, h4⟩)
  unfold OwnL
  rw [List.length_append, List.length_singleton, List.flatMap_append, List.flatMap_singleton]
  exact h2
end
/-- two slices of the call's own lie apart -/
def Apart (v v' : Value) : Prop := ∀ k, v.ownBlock = some k → v'.ownBlock ≠ some k
theorem Apart.symm {v v' : Value} (h : Apart v v') : Apart v' v := fun k h1 h2 => h k h2 h1
section
variable {α : Type} {w w' : World} {base g : Nat} {e : TypeId} {size : Nat} {f : α → List Value} {v v' u : Value} {L : List α}
theorem OwnL.blt (h : OwnL w base e size f v L) {k : Nat} (hk : v.ownBlock = some k) : base ≤ k ∧ k < w.heap.size := World.ownsRow.lt h k hk
/-- another slice is not met by an append -/
theorem OwnL.appd (h : OwnL w base e size f u L) (ha : Appd w w' v v') (hap : Apart v u) : OwnL w' base e size f u L := by
  refine World.ownsRow.kept h ha.grown ?_
  cases hu : u.ownBlock with
  | none => exact .inl rfl
  | some k => exact .inr (fun e => (hap k e.symm) hu)
theorem Apart.appd (hap : Apart v u) (ha : Appd w w' v v') (h : OwnL w base e size f u L) : Apart v' u := by
  intro k h1 h2
  rcases ha.lies with hl | hl
  · exact hap k (hl.symm.trans h1) h2
  · rw [hl] at h1
    injection h1 with h1
    have := (h.blt h2).2
    omega
theorem Appd.kept (ha : Appd w w' v v') (h : OwnL w base e size f v L) (hb : base ≤ w.heap.size) : Kept base w w' :=
  ⟨ha.grown.os, ha.grown.tape, ha.grown.output, Nat.le_trans hb ha.grown.size, fun k hk => ha.grown.block k (by omega) (fun e => by have := (h.blt e.symm).1; omega)⟩
end
end Go.Proofs.Ytbkmnoedhilopaa
