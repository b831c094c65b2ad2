/-
  From an argument as it is read (data) to the cells that hold it: slices whose elements are any data of a known number of cells. No function of the program is named here.
-/
import Derived.Test.YtjpmiokbgpggbaaOpen
namespace Go.Proofs.Ytjpmiokbgpggbaa
open Go.Joins Go.RowKit Go.ChangeShapes Go.WideShapes Go.Deep

section
variable {H : Type} {enc : TypeId × Value → H} {P : Program} {w : World} {base : Nat} {spare : Nat → Bool} {held : Bool}
/-- a slice that came in, element by element -/
theorem open_elems {t e : TypeId} {C : Nat} {fuel : Nat} {v : Value} {x : DataW H × List MemPlace} (ht : P.underlying t = some (.slice e)) (hC : P.cellsOf e = C) (h0 : 0 < C)
    (h : DataW.trod enc P w base spare held fuel t [v] = some x) :
    ∃ (A : Option Addr) (n c : Nat) (xss : List (List Value)), v = .slice A n c ∧ (∀ vs ∈ xss, vs.length = C ∧ ∃ fuel' y, DataW.trod enc P w base spare held fuel' e vs = some y) ∧ SliceOf w C id A n c xss := by
  rcases open_slice ht h with ⟨h0, _⟩ | ⟨a, len, cap, m, n, D, Pl, hcs, hb, hl, hm, hmm, hx, hi⟩
  · simp at h0
    exact ⟨none, 0, 0, [], h0, by simp, by simp [SliceOf]⟩
  · simp at hcs
    have hlm : len ≤ m := by rw [hmm]; split <;> omega
    have hel : ∀ i, i < len → ∃ vs : List Value, (vs.length = C ∧ ∃ fuel' y, DataW.trod enc P w base spare held fuel' e vs = some y) ∧ ∀ j u, vs[j]? = some u → w.cell? (a.add (i * C + j)) = some u := by
      intro i hil
      obtain ⟨cs', hc, ht'⟩ := hi i (by omega)
      rw [hC] at hc
      obtain ⟨_, hcl, hat⟩ := World.cells?_some hc
      refine ⟨cs', ⟨hcl, _, _, ht'⟩, fun j u hu => ?_⟩
      have hj : j < C := by rw [← hcl]; exact (List.getElem?_eq_some_iff.1 hu).1
      rw [← Go.Deep.add_add, hat j hj, hu]
    obtain ⟨xss, hxl, hxp⟩ := mk_list len hel
    refine ⟨some a, len, cap, xss, hcs, ?_, hxl.symm, hl, hm, fun hn => ?_⟩
    · intro zs hzs
      obtain ⟨i, hi', hii⟩ := List.mem_iff_getElem.1 hzs
      exact (hxp i zs (by rw [List.getElem?_eq_getElem hi', hii])).1
    · obtain ⟨zs0, hz0⟩ : ∃ zs, xss[0]? = some zs := ⟨_, List.getElem?_eq_getElem (by omega)⟩
      obtain ⟨⟨hl0, _⟩, hc0⟩ := hxp 0 zs0 hz0
      obtain ⟨u, hu⟩ : ∃ u, zs0[0]? = some u := ⟨_, List.getElem?_eq_getElem (by omega)⟩
      have hcell := hc0 0 u hu
      obtain ⟨b, off, spot⟩ := a
      have hspot : spot = none := by simpa [Addr.add] using World.cell?_spot hcell
      subst hspot
      have hadd : ∀ k, (Addr.add ⟨b, off, none⟩ k) = ⟨b, off + k, none⟩ := fun k => by unfold Addr.add; split <;> simp_all
      refine ⟨b, off, rfl, ?_, fun i zs hz j u hu => ?_⟩
      · have := World.block_lt_of_cell? w _ hcell
        rw [hadd] at this
        exact this
      · have := (hxp i zs hz).2 j u hu
        rw [hadd] at this
        rw [Nat.add_assoc]
        exact this
theorem pick_list {β : Type} {f' : β → List Value} {p : β → Prop} (xss : List (List Value)) (hp : ∀ vs ∈ xss, ∃ y : β, f' y = vs ∧ p y) : ∃ ys : List β, ys.map f' = xss ∧ ∀ y ∈ ys, p y := by
  induction xss with
  | nil => exact ⟨[], rfl, by simp⟩
  | cons vs rest ih =>
    obtain ⟨ys, h1, h2⟩ := ih (fun v hv => hp v (List.mem_cons_of_mem _ hv))
    obtain ⟨y, h3, h4⟩ := hp vs (List.mem_cons_self ..)
    refine ⟨y :: ys, by rw [List.map_cons, h1, h3], fun z hz => ?_⟩
    rcases List.mem_cons.1 hz with rfl | hz
    · exact h4
    · exact h2 z hz
/-- the same cells as a slice of elements that they spell -/
theorem SliceOf.pick {β : Type} {size : Nat} {f' : β → List Value} {p : β → Prop} {A : Option Addr} {n c : Nat} {xss : List (List Value)} (h : SliceOf w size id A n c xss) (hp : ∀ vs ∈ xss, ∃ y : β, f' y = vs ∧ p y) :
    ∃ ys : List β, SliceOf w size f' A n c ys ∧ ∀ y ∈ ys, p y := by
  obtain ⟨ys, hy, hq⟩ := pick_list xss hp
  subst hy
  obtain ⟨h1, h2, h3, h4⟩ := h
  refine ⟨ys, ⟨by simpa using h1, h2, h3, fun hn => ?_⟩, hq⟩
  obtain ⟨b, off, hA, hb, hc⟩ := h4 hn
  refine ⟨b, off, hA, hb, fun i y hy j u hu => hc i (f' y) ?_ j u hu⟩
  rw [List.getElem?_map, hy]; rfl
/-- a structure of fields, by the cells of each -/
theorem open_fields {t : TypeId} {fs : Array Field} {fuel : Nat} {cs : List Value} {x : DataW H × List MemPlace} (hs : P.underlying t = some (.struct fs)) (h : DataW.trod enc P w base spare held fuel t cs = some x)
    {j : Nat} {f : Field} (hj : fs[j]? = some f) {o k : Nat} (ho : f.offset = o) (hk : P.cellsOf f.type = k) : ∃ n y, DataW.trod enc P w base spare held n f.type ((cs.drop o).take k) = some y := by
  obtain ⟨ys, n', _, _, hlen, hyl, hf⟩ := DataW.trod_struct hs h
  have h1 := hf j f hj
  rw [ho, hk] at h1
  have hl : j < ys.length := by
    rw [hyl]
    exact (Array.getElem?_eq_some_iff.1 hj).1
  exact ⟨n', ys[j], h1.trans (List.getElem?_eq_getElem hl)⟩
end
end Go.Proofs.Ytjpmiokbgpggbaa
