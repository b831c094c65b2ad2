/-
  Slices of the call's own: a block whose first cells are the slice's elements. No function of the program is named here.
-/
import Derived.Test.YtegkeeeohileiaaSa01
import Derived.Laws.AppendOwn
namespace Go.Proofs.Ytegkeeeohileiaa
open Go.RowKit

def OwnS {α : Type} (w : World) (g : Nat) (t : TypeId) (f : α → List Value) (A : Option Addr) (n : Nat) (xs : List α) : Prop :=
  n = xs.length ∧ (0 < n → A = some ⟨g, 0, none⟩ ∧ ∃ rest, Row w g t (xs.flatMap f ++ rest))

/-- only block g has turned -/
def Only (g : Nat) (w w' : World) : Prop := w.grownBy w' (some g)
section
variable {w w' w'' : World} {g : Nat}
theorem Only.refl (g : Nat) (w : World) : Only g w w := ⟨rfl, rfl, rfl, Nat.le_refl _, fun _ _ _ => rfl⟩
theorem Only.of_ext (h : Ext w w') (g : Nat) : Only g w w' := ⟨h.os, h.tape, h.output, h.size, fun k hk _ => h.block k hk⟩
theorem Only.trans (h : Only g w w') (k : Only g w' w'') : Only g w w'' :=
  ⟨k.os.trans h.os, k.tape.trans h.tape, k.output.trans h.output, Nat.le_trans h.size k.size, fun i hi hne => (k.block i (Nat.lt_of_lt_of_le hi h.size) hne).trans (h.block i hi hne)⟩
theorem Only.setCell (h : Only g w w') {p : Addr} (hp : p.block = g) (u : Value) : Only g w (w'.setCell p u) :=
  ⟨h.os, h.tape, h.output, by simpa [World.setCell] using h.size, fun i hi hne => (Below.heap_setCell w' p u i (by rintro rfl; exact hne (by rw [hp]))).trans (h.block i hi hne)⟩
theorem Only.put (h : Only g w w') (o : Nat) (vs : List Value) : Only g w (putCells w' g o vs) := by
  induction vs generalizing w' o with
  | nil => exact h
  | cons v vs ih => exact ih (h.setCell (p := ⟨g, o, none⟩) rfl v) (o + 1)
theorem Only.drew (h : Only g w w') : Only g w w'.drew := ⟨h.os, h.tape, h.output, h.size, h.block⟩
theorem Only.drewN (h : Only g w w') (n : Nat) : Only g w (w'.drewN n) := ⟨h.os, h.tape, h.output, h.size, h.block⟩
/-- a block that is new to w0 may turn -/
theorem Ext.only {w0 : World} (h : Ext w0 w) (k : Only g w w') (hg : w0.heap.size ≤ g) : Ext w0 w' :=
  ⟨k.os.trans h.os, k.tape.trans h.tape, k.output.trans h.output, Nat.le_trans h.size k.size, fun i hi => (k.block i (Nat.lt_of_lt_of_le hi h.size) (by simp; omega)).trans (h.block i hi)⟩
theorem Only.cell (h : Only g w w') {b o : Nat} (hb : b < w.heap.size) (hne : b ≠ g) : w'.cell? ⟨b, o, none⟩ = w.cell? ⟨b, o, none⟩ :=
  World.cell?_of_block (w := w) (h.block b hb (by simpa using hne))
theorem Row.only {t : TypeId} {cs : List Value} {g' : Nat} (h : Row w g' t cs) (k : Only g w w') (hne : g' ≠ g) : Row w' g' t cs := (k.block g' h.lt (by simpa using hne)).trans h
end

section
variable {α : Type} {w w' : World} {g : Nat} {t : TypeId} {f : α → List Value} {size : Nat} {A : Option Addr} {n : Nat} {xs : List α}
theorem RowOf.only {g' : Nat} (h : RowOf w g' t f xs) (k : Only g w w') (hne : g' ≠ g) : RowOf w' g' t f xs := Row.only h k hne
theorem OwnS.of_row (h : RowOf w g t f xs) : OwnS w g t f (some ⟨g, 0, none⟩) xs.length xs := ⟨rfl, fun _ => ⟨rfl, [], by rw [List.append_nil]; exact h⟩⟩
theorem OwnS.nil : OwnS w g t f A 0 [] := ⟨rfl, fun h => absurd h (by omega)⟩
theorem OwnS.ext (h : OwnS w g t f A n xs) (hx : Ext w w') : OwnS w' g t f A n xs := ⟨h.1, fun hn => ⟨(h.2 hn).1, let ⟨r, hr⟩ := (h.2 hn).2; ⟨r, hr.ext hx⟩⟩⟩
theorem OwnS.only {g' : Nat} (h : OwnS w g t f A n xs) (k : Only g' w w') (hne : g ≠ g') : OwnS w' g t f A n xs := ⟨h.1, fun hn => ⟨(h.2 hn).1, let ⟨r, hr⟩ := (h.2 hn).2; ⟨r, hr.only k hne⟩⟩⟩
theorem OwnS.onlyz {g' : Nat} (h : OwnS w g t f A n xs) (k : Only g' w w') (hne : 0 < n → g ≠ g') : OwnS w' g t f A n xs := ⟨h.1, fun hn => ⟨(h.2 hn).1, let ⟨r, hr⟩ := (h.2 hn).2; ⟨r, hr.only k (hne hn)⟩⟩⟩
theorem OwnS.lt (h : OwnS w g t f A n xs) (hn : 0 < n) : g < w.heap.size := let ⟨_, hr⟩ := (h.2 hn).2; hr.lt
theorem OwnS.slice (h : OwnS w g t f A n xs) (hf : ∀ x, (f x).length = size) {c : Nat} (hc : n ≤ c) (hm : c ≤ 9223372036854775807) : SliceOf w size f A n c xs := by
  refine ⟨h.1, hc, hm, fun hn => ?_⟩
  obtain ⟨hA, rest, hr⟩ := h.2 hn
  refine ⟨g, 0, hA, hr.lt, fun i x hx j u hu => ?_⟩
  rw [Nat.zero_add, hr.cell]
  have h1 := flat_get hf hx hu
  rw [List.getElem?_append_left (List.getElem?_eq_some_iff.1 h1).1]
  exact h1
theorem OwnS.there (h : OwnS w g t f A n xs) (hf : ∀ x, (f x).length = size) {i : Nat} (hi : i < n) {j : Nat} (hj : j < size) : ∃ u, w.cell? ⟨g, i * size + j, none⟩ = some u := by
  obtain ⟨_, rest, hr⟩ := h.2 (by omega)
  have hi' : i < xs.length := by rw [← h.1]; exact hi
  have hx : xs[i]? = some xs[i] := List.getElem?_eq_getElem hi'
  have hu : (f xs[i])[j]? = some ((f xs[i])[j]'(by rw [hf]; exact hj)) := List.getElem?_eq_getElem _
  have h1 := flat_get hf hx hu
  exact ⟨_, by rw [hr.cell, List.getElem?_append_left (List.getElem?_eq_some_iff.1 h1).1]; exact h1⟩
theorem OwnS.frozen (h : OwnS w g t f A n xs) (hn : 0 < n) (i : Nat) : w.frozen? ⟨g, i, none⟩ = false := let ⟨_, _, hr⟩ := h.2 hn; hr.frozen i
theorem setCells_left (az rest vs : List Value) (o : Nat) (h : o + vs.length ≤ az.length) : setCells (az ++ rest) o vs = setCells az o vs ++ rest := by
  induction vs generalizing az o with
  | nil => rfl
  | cons v vs ih =>
    simp at h
    simp only [setCells]
    rw [List.set_append_left _ _ (by omega), ih _ _ (by simp; omega)]
theorem OwnS.put (h : OwnS w g t f A n xs) (hf : ∀ x, (f x).length = size) {i : Nat} (hi : i < n) (y : α) : OwnS (putCells w g (i * size) (f y)) g t f A n (xs.set i y) := by
  refine ⟨by rw [List.length_set]; exact h.1, fun hn => ?_⟩
  obtain ⟨hA, rest, hr⟩ := h.2 hn
  have hi' : i < xs.length := by rw [← h.1]; exact hi
  refine ⟨hA, rest, ?_⟩
  have h1 := Row.put hr (i * size) (f y)
  rw [setCells_left _ _ _ _ (by
    rw [flat_len hf, hf]
    have : (i + 1) * size ≤ xs.length * size := Nat.mul_le_mul_right _ hi'
    rw [Nat.add_mul] at this; omega), flat_set hf hi'] at h1
  exact h1
/-- what an append leaves -/
theorem OwnS.of_owns {base : Nat} {v : Value} {cs : List Value} (hf : ∀ x, (f x).length = size) (hs : 0 < size) (h : w.ownsRow base t size v n cs) (hcs : cs = xs.flatMap f) :
    ∃ A c g, v = .slice A n c ∧ base ≤ g ∧ n ≤ c ∧ c ≤ 9223372036854775807 ∧ OwnS w g t f A n xs ∧ (v.ownBlock = none ∨ v.ownBlock = some g) := by
  obtain ⟨h1, h2⟩ := h
  subst hcs
  have hl : n = xs.length := by rw [flat_len hf] at h1; exact (Nat.eq_of_mul_eq_mul_right hs h1).symm
  rcases h2 with ⟨rfl, rfl⟩ | ⟨g, cap, cur, rfl, hb, hh, hnc, hcm, hsz, hcur⟩
  · exact ⟨none, 0, base, rfl, Nat.le_refl _, Nat.le_refl _, by omega, ⟨hl, fun h => absurd h (by omega)⟩, .inl rfl⟩
  · refine ⟨_, cap, g, rfl, hb, hnc, hcm, ⟨hl, fun _ => ⟨rfl, cur.toList.drop (n * size), ?_⟩⟩, .inr rfl⟩
    unfold Row
    rw [← hcur, List.take_append_drop]
    simpa using hh
end
end Go.Proofs.Ytegkeeeohileiaa
