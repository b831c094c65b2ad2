/-
  From an argument as it is read (data) to the cells that hold it: slices of structures of integers. No function of the program is named here. From an argument as it is read (data) to the cells that hold it: slices whose elements are any data of a known number of cells. No function of the program is named here. The helpers of the laws on rooms: copying; a room that came in. What the laws on rooms know of an argument and of its copies. markText of the laws: a text for each number.
-/
import Derived.Test.YtfkpghdmljjegaaGreatVb00
import Derived.Deep.Slices
import Derived.Deep.Fields
import Derived.ChangeSame
import Derived.ProofKit
import Derived.OpenShut
import Derived.ShutString
import Derived.ChangeOld
import Derived.Lib.SmallJoins
import Derived.Test.YtfkpghdmljjegaaGreatVb32
import Derived.Test.YtfkpghdmljjegaaGreatVb31
import Derived.Laws.IdiomStrings
import Derived.Laws.BytesString
import Derived.Test.YtfkpghdmljjegaaGreatProg
namespace Go.Proofs.YtfkpghdmljjegaaGreat
open Go.Joins Go.RowKit Go.ChangeShapes Go.WideShapes Go.Deep

section
variable {H : Type} {enc : TypeId × Value → H} {P : Program} {w : World} {base : Nat} {spare : Nat → Bool} {held : Bool}
/-- every field of a structure is an int64 -/
def allInt (P : Program) (fs : Array Field) : Bool := fs.toList.all fun f => match P.underlying f.type with | some (.int .i64) => true | _ => false
theorem allInt_of {fs : Array Field} (h : allInt P fs = true) {j : Nat} {f : Field} (hj : fs[j]? = some f) : P.underlying f.type = some (.int .i64) := by
  have := List.all_eq_true.1 h f (by rw [Array.mem_toList_iff]; exact Array.mem_of_getElem? hj)
  split at this
  · assumption
  · cases this
theorem mk_list {α : Type} {p : Nat → α → Prop} (n : Nat) (h : ∀ i, i < n → ∃ x, p i x) : ∃ xs : List α, xs.length = n ∧ ∀ i x, xs[i]? = some x → p i x := by
  induction n with
  | zero => exact ⟨[], rfl, fun i x hx => by simp at hx⟩
  | succ n ih =>
    obtain ⟨xs, hl, hp⟩ := ih (fun i hi => h i (by omega))
    obtain ⟨x, hx⟩ := h n (by omega)
    refine ⟨xs ++ [x], by simp [hl], fun i y hy => ?_⟩
    by_cases hi : i < n
    · rw [List.getElem?_append_left (by omega)] at hy; exact hp i y hy
    · have hlt : i < (xs ++ [x]).length := (List.getElem?_eq_some_iff.1 hy).1
      have : i = n := by simp [hl] at hlt; omega
      subst this
      rw [List.getElem?_append_right (by omega)] at hy
      simp [hl] at hy
      subst hy
      exact hx
/-- a slice of structures of integers that came in -/
theorem open_flat {t e : TypeId} {fs : Array Field} {fuel : Nat} {v : Value} {x : DataW H × List MemPlace} (ht : P.underlying t = some (.slice e)) (he : P.underlying e = some (.struct fs))
    (hone : oneCellFields P fs = true) (hint : allInt P fs = true) (hC : P.cellsOf e = fs.size) (h0 : 0 < fs.size) (h : DataW.trod enc P w base spare held fuel t [v] = some x) :
    ∃ (A : Option Addr) (n c : Nat) (xss : List (List Int)), v = .slice A n c ∧ (∀ zs ∈ xss, zs.length = fs.size) ∧ SliceOf w fs.size (fun zs => zs.map (Value.int .i64)) A n c xss := by
  rcases open_slice ht h with ⟨h0, _⟩ | ⟨a, len, cap, m, n, D, Pl, hcs, hb, hl, hm, hmm, hx, hi⟩
  · simp at h0
    exact ⟨none, 0, 0, [], h0, by simp, by simp [SliceOf]⟩
  · simp at hcs
    have hlm : len ≤ m := by rw [hmm]; split <;> omega
    have hel : ∀ i, i < len → ∃ zs : List Int, zs.length = fs.size ∧ ∀ j u, (zs.map (Value.int .i64))[j]? = some u → w.cell? (a.add (i * fs.size + j)) = some u := by
      intro i hil
      obtain ⟨cs', hc, ht'⟩ := hi i (by omega)
      rw [hC] at hc
      obtain ⟨ys, n', hn', hy, hlen, hyl, hf⟩ := DataW.trod_struct he ht'
      obtain ⟨_, hcl, hat⟩ := World.cells?_some hc
      have hz : ∀ j, j < fs.size → ∃ z : Int, w.cell? (a.add (i * fs.size + j)) = some (.int .i64 z) := by
        intro j hj
        have hfj : fs[j]? = some fs[j] := Array.getElem?_eq_getElem hj
        obtain ⟨ho, hk⟩ := hone_of hone j _ hfj
        have h1 := hf j _ hfj
        rw [ho, hk] at h1
        have hone' : (cs'.drop j).take 1 = [cs'[j]'(by omega)] := by
          rw [List.drop_eq_getElem_cons (by omega)]
          rfl
        rw [hone'] at h1
        have hys : ys[j]? = some (ys[j]'(by omega)) := List.getElem?_eq_getElem (by omega)
        obtain ⟨z, hz, _, _⟩ := DataW.trod_int (allInt_of hint hfj) (h1.trans hys)
        have hv : cs'[j]? = some (cs'[j]'(by omega)) := List.getElem?_eq_getElem (by omega)
        refine ⟨z, ?_⟩
        rw [← Go.Deep.add_add, hat j hj, hv]
        simp at hz
        rw [hz]
      obtain ⟨zs, hzl, hzp⟩ := mk_list (p := fun j z => w.cell? (a.add (i * fs.size + j)) = some (.int .i64 z)) fs.size hz
      refine ⟨zs, hzl, fun j u hu => ?_⟩
      rw [List.getElem?_map] at hu
      cases hzj : zs[j]? with
      | none => rw [hzj] at hu; simp at hu
      | some z => rw [hzj] at hu; simp at hu; subst hu; exact hzp j z hzj
    obtain ⟨xss, hxl, hxp⟩ := mk_list len hel
    refine ⟨some a, len, cap, xss, hcs, ?_, hxl.symm, hl, hm, fun hn => ?_⟩
    · intro zs hzs
      obtain ⟨i, hi', hii⟩ := List.mem_iff_getElem.1 hzs
      exact (hxp i zs (by rw [List.getElem?_eq_getElem hi', hii])).1
    · obtain ⟨zs0, hz0⟩ : ∃ zs, xss[0]? = some zs := ⟨_, List.getElem?_eq_getElem (by omega)⟩
      obtain ⟨hl0, hc0⟩ := hxp 0 zs0 hz0
      obtain ⟨u, hu⟩ : ∃ u, (zs0.map (Value.int .i64))[0]? = some u := ⟨_, List.getElem?_eq_getElem (by simp; omega)⟩
      have hcell := hc0 0 u hu
      obtain ⟨b, off, spot⟩ := a
      have hspot : spot = none := by simpa [Addr.add] using World.cell?_spot hcell
      subst hspot
      have hadd : ∀ k, (Addr.add ⟨b, off, none⟩ k) = ⟨b, off + k, none⟩ := fun k => by unfold Addr.add; split <;> simp_all
      refine ⟨b, off, rfl, ?_, fun i zs hz j u hu => ?_⟩
      · have := World.block_lt_of_cell? w _ hcell
        rw [hadd] at this
        exact this
      · have := (hxp i zs hz).2 j u hu
        rw [hadd] at this
        rw [Nat.add_assoc]
        exact this
/-- the same cells as a slice of another type's elements -/
theorem SliceOf.map {α β : Type} {size : Nat} {f : α → List Value} {f' : β → List Value} {A : Option Addr} {n c : Nat} {xs : List α} (h : SliceOf w size f A n c xs) (g : α → β) (hg : ∀ x ∈ xs, f' (g x) = f x) :
    SliceOf w size f' A n c (xs.map g) := by
  obtain ⟨h1, h2, h3, h4⟩ := h
  refine ⟨by simpa using h1, h2, h3, fun hn => ?_⟩
  obtain ⟨b, off, hA, hb, hc⟩ := h4 hn
  refine ⟨b, off, hA, hb, fun i y hy j u hu => ?_⟩
  rw [List.getElem?_map] at hy
  cases hx : xs[i]? with
  | none => rw [hx] at hy; simp at hy
  | some x =>
    rw [hx] at hy
    simp at hy
    subst hy
    exact hc i x hx j u (by rw [← hg x (List.mem_of_getElem? hx)]; exact hu)
end
end Go.Proofs.YtfkpghdmljjegaaGreat

namespace Go.Proofs.YtfkpghdmljjegaaGreat
open Go.Joins Go.RowKit Go.ChangeShapes Go.WideShapes Go.Deep

section
variable {H : Type} {enc : TypeId × Value → H} {P : Program} {w : World} {base : Nat} {spare : Nat → Bool} {held : Bool}
/-- a slice that came in, element by element -/
theorem open_elems {t e : TypeId} {C : Nat} {fuel : Nat} {v : Value} {x : DataW H × List MemPlace} (ht : P.underlying t = some (.slice e)) (hC : P.cellsOf e = C) (h0 : 0 < C)
    (h : DataW.trod enc P w base spare held fuel t [v] = some x) :
    ∃ (A : Option Addr) (n c : Nat) (xss : List (List Value)), v = .slice A n c ∧ (∀ vs ∈ xss, vs.length = C ∧ ∃ fuel' y, DataW.trod enc P w base spare held fuel' e vs = some y) ∧ SliceOf w C id A n c xss := by
  rcases open_slice ht h with ⟨h0, _⟩ | ⟨a, len, cap, m, n, D, Pl, hcs, hb, hl, hm, hmm, hx, hi⟩
  · simp at h0
    exact ⟨none, 0, 0, [], h0, by simp, by simp [SliceOf]⟩
  · simp at hcs
    have hlm : len ≤ m := by rw [hmm]; split <;> omega
    have hel : ∀ i, i < len → ∃ vs : List Value, (vs.length = C ∧ ∃ fuel' y, DataW.trod enc P w base spare held fuel' e vs = some y) ∧ ∀ j u, vs[j]? = some u → w.cell? (a.add (i * C + j)) = some u := by
      intro i hil
      obtain ⟨cs', hc, ht'⟩ := hi i (by omega)
      rw [hC] at hc
      obtain ⟨_, hcl, hat⟩ := World.cells?_some hc
      refine ⟨cs', ⟨hcl, _, _, ht'⟩, fun j u hu => ?_⟩
      have hj : j < C := by rw [← hcl]; exact (List.getElem?_eq_some_iff.1 hu).1
      rw [← Go.Deep.add_add, hat j hj, hu]
    obtain ⟨xss, hxl, hxp⟩ := mk_list len hel
    refine ⟨some a, len, cap, xss, hcs, ?_, hxl.symm, hl, hm, fun hn => ?_⟩
    · intro zs hzs
      obtain ⟨i, hi', hii⟩ := List.mem_iff_getElem.1 hzs
      exact (hxp i zs (by rw [List.getElem?_eq_getElem hi', hii])).1
    · obtain ⟨zs0, hz0⟩ : ∃ zs, xss[0]? = some zs := ⟨_, List.getElem?_eq_getElem (by omega)⟩
      obtain ⟨⟨hl0, _⟩, hc0⟩ := hxp 0 zs0 hz0
      obtain ⟨u, hu⟩ : ∃ u, zs0[0]? = some u := ⟨_, List.getElem?_eq_getElem (by omega)⟩
      have hcell := hc0 0 u hu
      obtain ⟨b, off, spot⟩ := a
      have hspot : spot = none := by simpa [Addr.add] using World.cell?_spot hcell
      subst hspot
      have hadd : ∀ k, (Addr.add ⟨b, off, none⟩ k) = ⟨b, off + k, none⟩ := fun k => by unfold Addr.add; split <;> simp_all
      refine ⟨b, off, rfl, ?_, fun i zs hz j u hu => ?_⟩
      · have := World.block_lt_of_cell? w _ hcell
        rw [hadd] at this
        exact this
      · have := (hxp i zs hz).2 j u hu
        rw [hadd] at this
        rw [Nat.add_assoc]
        exact this
theorem pick_list {β : Type} {f' : β → List Value} {p : β → Prop} (xss : List (List Value)) (hp : ∀ vs ∈ xss, ∃ y : β, f' y = vs ∧ p y) : ∃ ys : List β, ys.map f' = xss ∧ ∀ y ∈ ys, p y := by
  induction xss with
  | nil => exact ⟨[], rfl, by simp⟩
  | cons vs rest ih =>
    obtain ⟨ys, h1, h2⟩ := ih (fun v hv => hp v (List.mem_cons_of_mem _ hv))
    obtain ⟨y, h3, h4⟩ := hp vs (List.mem_cons_self ..)
    refine ⟨y :: ys, by rw [List.map_cons, h1, h3], fun z hz => ?_⟩
    rcases List.mem_cons.1 hz with rfl | hz
    · exact h4
    · exact h2 z hz
/-- the same cells as a slice of elements that they spell -/
theorem SliceOf.pick {β : Type} {size : Nat} {f' : β → List Value} {p : β → Prop} {A : Option Addr} {n c : Nat} {xss : List (List Value)} (h : SliceOf w size id A n c xss) (hp : ∀ vs ∈ xss, ∃ y : β, f' y = vs ∧ p y) :
    ∃ ys : List β, SliceOf w size f' A n c ys ∧ ∀ y ∈ ys, p y := by
  obtain ⟨ys, hy, hq⟩ := pick_list xss hp
  subst hy
  obtain ⟨h1, h2, h3, h4⟩ := h
  refine ⟨ys, ⟨by simpa using h1, h2, h3, fun hn => ?_⟩, hq⟩
  obtain ⟨b, off, hA, hb, hc⟩ := h4 hn
  refine ⟨b, off, hA, hb, fun i y hy j u hu => hc i (f' y) ?_ j u hu⟩
  rw [List.getElem?_map, hy]; rfl
/-- a structure of fields, by the cells of each -/
theorem open_fields {t : TypeId} {fs : Array Field} {fuel : Nat} {cs : List Value} {x : DataW H × List MemPlace} (hs : P.underlying t = some (.struct fs)) (h : DataW.trod enc P w base spare held fuel t cs = some x)
    {j : Nat} {f : Field} (hj : fs[j]? = some f) {o k : Nat} (ho : f.offset = o) (hk : P.cellsOf f.type = k) : ∃ n y, DataW.trod enc P w base spare held n f.type ((cs.drop o).take k) = some y := by
  obtain ⟨ys, n', _, _, hlen, hyl, hf⟩ := DataW.trod_struct hs h
  have h1 := hf j f hj
  rw [ho, hk] at h1
  have hl : j < ys.length := by
    rw [hyl]
    exact (Array.getElem?_eq_some_iff.1 hj).1
  exact ⟨n', ys[j], h1.trans (List.getElem?_eq_getElem hl)⟩
end
end Go.Proofs.YtfkpghdmljjegaaGreat

namespace Go.Proofs.YtfkpghdmljjegaaGreat
open Go.RowKit Go.ChangeShapes Go.WideShapes Go.ChangeAt Go.Deep Go.Joins
/-- a new copy of a room -/
def CopiedRoom (r : Room) (w : World) (e : Ending) (w' : World) : Prop :=
  ∃ g1 g2 g3 g4 g5 rs', e = .returned (.agg #[.slice (some ⟨g1, 0, none⟩) r.ns.length r.ns.length, .slice (some ⟨g2, 0, none⟩) r.ps.length r.ps.length, .slice (some ⟨g3, 0, none⟩) r.xs.length r.xs.length, .slice (some ⟨g4, 0, none⟩) r.L.length r.L.length, .slice (some ⟨g5, 0, none⟩) r.rs.length r.rs.length]) ∧
    w.heap.size ≤ g1 ∧ g1 < g2 ∧ g2 < g3 ∧ g3 < g4 ∧ g4 < g5 ∧ RowOf w' g1 223 Node.cells r.ns ∧ RowOf w' g2 181 Pipe.cells r.ps ∧ RowOf w' g3 153 Contract.cells r.xs ∧ RowOf w' g4 157 Nomination.cells r.L ∧
    RowOf w' g5 60 RS.cells rs' ∧ rs'.map RS.xs = r.rs.map RS.xs ∧ (∀ q ∈ rs', OwnRS w' g5 q) ∧ RsApart rs' ∧ Ext w w'
theorem OwnRS.far {w : World} {g : Nat} {q : RS} (h : OwnRS w g q) {p : Addr} (hp : p.block ≤ g) (u : Value) : OwnRS (w.setCell p u) g q := let ⟨g1, a, b, c, d, e, r⟩ := h; ⟨g1, a, b, c, d, e, r.far (by omega) u⟩
set_option maxHeartbeats 4000000 in
theorem c_toRoom (A1 A2 A3 A4 A5 : Option Addr) (n1 c1 n2 c2 n3 c3 n4 c4 n5 c5 : Nat) (r : Room) (w : World) (hat : RoomAt w A1 A2 A3 A4 A5 n1 c1 n2 c2 n3 c3 n4 c4 n5 c5 r) (hz : RoomSz r n1 n2 n3 n4 n5) :
    Calls Tryz.prog 71 #[.agg #[.slice A1 n1 c1, .slice A2 n2 c2, .slice A3 n3 c3, .slice A4 n4 c4, .slice A5 n5 c5]] w (CopiedRoom r w) := by
  obtain ⟨m1, mn, m2, m3, m4, m5, m6, m7⟩ := hz
  clear mn m7
  go_enter Tryz.func71, Tryz.ntmps71
  go_wp2_with fail
  refine (c_toNetwork A1 A2 n1 c1 n2 c2 r.ns r.ps _ (hat.s1.ext (((Ext.alloc _ _).and_alloc _).and_alloc _)) (hat.s2.ext (((Ext.alloc _ _).and_alloc _).and_alloc _)) m1 m2).mono ?_
  rintro e w1 ⟨g1, g2, rfl, hg1, hg12, r1, r2, hx1⟩
  have x1 : Ext w w1 := (((Ext.alloc _ _).and_alloc _).and_alloc _).trans hx1
  have z1a : w.heap.size < w1.heap.size := by have := hx1.size; simp at this; omega
  have z1b : w.heap.size + 1 < w1.heap.size := by have := hx1.size; simp at this; omega
  have z1c : w.heap.size + 1 + 1 < w1.heap.size := by have := hx1.size; simp at this; omega
  have hcl1 := hx1.cell
  have hfr1 := hx1.frozen
  simp at hg1
  have l1 := r2.lt
  go_wp2_with fail
  refine (c_toContractS A3 n3 c3 r.xs _ (hat.s3.ext ((x1.setCell (by first | (simp; done) | (simp; omega) | omega) _).setCell (by first | (simp; done) | (simp; omega) | omega) _)) m3).mono ?_
  rintro e w2 ⟨g3, rfl, hg2, r3, hx2⟩
  have x2 : Ext w w2 := ((x1.setCell (by first | (simp; done) | (simp; omega) | omega) _).setCell (by first | (simp; done) | (simp; omega) | omega) _).trans hx2
  have r1a := RowOf.ext (RowOf.far (RowOf.far r1 (by first | (simp; done) | (simp; omega) | omega) _) (by first | (simp; done) | (simp; omega) | omega) _) hx2
  have r2a := RowOf.ext (RowOf.far (RowOf.far r2 (by first | (simp; done) | (simp; omega) | omega) _) (by first | (simp; done) | (simp; omega) | omega) _) hx2
  have z2a : w.heap.size < w2.heap.size := by have := hx2.size; simp at this; omega
  have z2b : w.heap.size + 1 < w2.heap.size := by have := hx2.size; simp at this; omega
  have z2c : w.heap.size + 1 + 1 < w2.heap.size := by have := hx2.size; simp at this; omega
  have hcl2 := hx2.cell
  have hfr2 := hx2.frozen
  simp at hg2
  have l2 := r3.lt
  go_wp2_with fail
  refine (c_toNominationS A4 n4 c4 r.L _ (hat.s4.ext (x2.setCell (by first | (simp; done) | (simp; omega) | omega) _)) m4).mono ?_
  rintro e w3 ⟨g4, rfl, hg3, r4, hx3⟩
  have x3 : Ext w w3 := (x2.setCell (by first | (simp; done) | (simp; omega) | omega) _).trans hx3
  have r1b := RowOf.ext (RowOf.far r1a (by first | (simp; done) | (simp; omega) | omega) _) hx3
  have r2b := RowOf.ext (RowOf.far r2a (by first | (simp; done) | (simp; omega) | omega) _) hx3
  have r3b := RowOf.ext (RowOf.far r3 (by first | (simp; done) | (simp; omega) | omega) _) hx3
  have z3a : w.heap.size < w3.heap.size := by have := hx3.size; simp at this; omega
  have z3b : w.heap.size + 1 < w3.heap.size := by have := hx3.size; simp at this; omega
  have z3c : w.heap.size + 1 + 1 < w3.heap.size := by have := hx3.size; simp at this; omega
  have hcl3 := hx3.cell
  have hfr3 := hx3.frozen
  simp at hg3
  have l3 := r4.lt
  go_wp2_with fail
  refine (c_toReadingSS A5 n5 c5 r.rs _ (hat.s5.ext (x3.setCell (by first | (simp; done) | (simp; omega) | omega) _)) (fun q hq => (hat.s6 q hq).ext (x3.setCell (by first | (simp; done) | (simp; omega) | omega) _)) m5 m6).mono ?_
  rintro e w4 ⟨g5, rs', rfl, hg4, r5, hmap, hown, hap, hx4⟩
  have x4 : Ext w w4 := (x3.setCell (by first | (simp; done) | (simp; omega) | omega) _).trans hx4
  have r1c := RowOf.ext (RowOf.far r1b (by first | (simp; done) | (simp; omega) | omega) _) hx4
  have r2c := RowOf.ext (RowOf.far r2b (by first | (simp; done) | (simp; omega) | omega) _) hx4
  have r3c := RowOf.ext (RowOf.far r3b (by first | (simp; done) | (simp; omega) | omega) _) hx4
  have r4c := RowOf.ext (RowOf.far r4 (by first | (simp; done) | (simp; omega) | omega) _) hx4
  have z4a : w.heap.size < w4.heap.size := by have := hx4.size; simp at this; omega
  have z4b : w.heap.size + 1 < w4.heap.size := by have := hx4.size; simp at this; omega
  have z4c : w.heap.size + 1 + 1 < w4.heap.size := by have := hx4.size; simp at this; omega
  have hcl4 := hx4.cell
  have hfr4 := hx4.frozen
  simp at hg4
  have HM := hide hmap
  clear hmap
  go_wp2
  refine bodyPost_ret (v := .agg #[.slice (some ⟨g1, 0, none⟩) r.ns.length r.ns.length, .slice (some ⟨g2, 0, none⟩) r.ps.length r.ps.length, .slice (some ⟨g3, 0, none⟩) r.xs.length r.xs.length, .slice (some ⟨g4, 0, none⟩) r.L.length r.L.length, .slice (some ⟨g5, 0, none⟩) r.rs.length r.rs.length]) (by simp [results, Tryz.results71, go_sem, hcl4, hcl3, hcl2, hcl1, z1b, z2b, z3b]) rfl ⟨g1, g2, g3, g4, g5, rs', rfl, ?_, ?_, ?_, ?_, ?_, ?_, ?_, ?_, ?_, ?_, HM.out, ?_, hap, ?_⟩
  · omega
  · omega
  · omega
  · omega
  · omega
  · repeat (refine RowOf.far ?_ (by first | (simp; done) | (simp; omega) | omega) _)
    exact r1c
  · repeat (refine RowOf.far ?_ (by first | (simp; done) | (simp; omega) | omega) _)
    exact r2c
  · repeat (refine RowOf.far ?_ (by first | (simp; done) | (simp; omega) | omega) _)
    exact r3c
  · repeat (refine RowOf.far ?_ (by first | (simp; done) | (simp; omega) | omega) _)
    exact r4c
  · repeat (refine RowOf.far ?_ (by first | (simp; done) | (simp; omega) | omega) _)
    exact r5
  · intro q hq
    repeat (refine OwnRS.far ?_ (by first | (simp; done) | (simp; omega) | omega) _)
    exact hown q hq
  · repeat (refine Ext.setCell ?_ (by first | (simp; done) | (simp; omega) | omega) _)
    exact x4

theorem open_nodes {H : Type} {enc : TypeId × Value → H} {w : World} {base : Nat} {spare : Nat → Bool} {held : Bool} {fuel : Nat} {v : Value} {x : DataW H × List MemPlace}
    (h : DataW.trod enc Tryz.prog w base spare held fuel 31 [v] = some x) : ∃ (A : Option Addr) (n c : Nat) (ns : List Node), v = .slice A n c ∧ SliceOf w 3 Node.cells A n c ns ∧ Named0 ns := by
  obtain ⟨A, n, c, xss, rfl, hp, hs⟩ := open_elems (C := 3) Tryz.underlying31 (by kernel_rfl) (by omega) h
  obtain ⟨ns, hns, hnm⟩ := SliceOf.pick (f' := Node.cells) (p := fun x => x.name.size ≤ 9223372036854775807) hs (by
    intro vs hvs
    obtain ⟨hl, f', y, hy⟩ := hp vs hvs
    match vs, hl with
    | [u0, u1, u2], _ =>
      obtain ⟨i0, y0, f0⟩ := open_fields Tryz.underlying218 hy (j := 0) rfl (o := 0) (k := 1) rfl (by kernel_rfl)
      obtain ⟨i1, y1, f1⟩ := open_fields Tryz.underlying218 hy (j := 1) rfl (o := 1) (k := 1) rfl (by kernel_rfl)
      obtain ⟨i2, y2, f2⟩ := open_fields Tryz.underlying218 hy (j := 2) rfl (o := 2) (k := 1) rfl (by kernel_rfl)
      obtain ⟨s, e0, _, hsz⟩ := DataW.trod_string Tryz.underlying9 f0
      obtain ⟨z1, e1, _, _⟩ := DataW.trod_int Tryz.underlying2 f1
      obtain ⟨z2, e2, _, _⟩ := DataW.trod_int Tryz.underlying2 f2
      have k0 : [u0] = [.string s] := e0
      have k1 : [u1] = [.int .i64 z1] := e1
      have k2 : [u2] = [.int .i64 z2] := e2
      simp only [List.cons.injEq, and_true] at k0 k1 k2
      exact ⟨⟨s, z1, z2⟩, by rw [k0, k1, k2]; rfl, hsz⟩)
  exact ⟨A, n, c, ns, rfl, hns, hnm⟩

def pipeOf : List Int → Pipe
  | [a, b, c, d, e] => ⟨a, b, c, d, e⟩
  | _ => ⟨0, 0, 0, 0, 0⟩
def conOf : List Int → Contract
  | [a, b, c, d, e, f, g, h] => ⟨a, b, c, d, e, f, g, h⟩
  | _ => ⟨0, 0, 0, 0, 0, 0, 0, 0⟩
def nomOf : List Int → Nomination
  | [a, b, c, d] => ⟨a, b, c, d⟩
  | _ => ⟨0, 0, 0, 0⟩
def readOf : List Int → Reading
  | [a, b] => ⟨a, b⟩
  | _ => ⟨0, 0⟩
section
variable {H : Type} {enc : TypeId × Value → H} {w : World} {base : Nat} {spare : Nat → Bool} {held : Bool}
theorem open_net {fuel : Nat} {v0 v1 : Value} {x : DataW H × List MemPlace} (h : DataW.trod enc Tryz.prog w base spare held fuel 34 [v0, v1] = some x) :
    ∃ (A1 A2 : Option Addr) (n1 c1 n2 c2 : Nat) (ns : List Node) (ps : List Pipe), v0 = .slice A1 n1 c1 ∧ v1 = .slice A2 n2 c2 ∧ SliceOf w 3 Node.cells A1 n1 c1 ns ∧ SliceOf w 5 Pipe.cells A2 n2 c2 ps ∧ Named0 ns := by
  obtain ⟨i0, y0, f0⟩ := open_fields Tryz.underlying34 h (j := 0) rfl (o := 0) (k := 1) rfl (by kernel_rfl)
  obtain ⟨i1, y1, f1⟩ := open_fields Tryz.underlying34 h (j := 1) rfl (o := 1) (k := 1) rfl (by kernel_rfl)
  obtain ⟨A1, n1, c1, ns, rfl, s1, hnm⟩ := open_nodes f0
  obtain ⟨A2, n2, c2, ps, rfl, hl, s2⟩ := open_flat Tryz.underlying32 Tryz.underlying226 (by kernel_rfl) (by kernel_rfl) (by kernel_rfl) (by decide) f1
  have s2' : SliceOf w 5 Pipe.cells A2 n2 c2 (ps.map pipeOf) := SliceOf.map s2 pipeOf (by
    intro zs hzs
    match zs, hl zs hzs with
    | [a, b, c, d, e], _ => rfl)
  exact ⟨A1, A2, n1, c1, n2, c2, ns, _, rfl, rfl, s1, s2', hnm⟩
theorem open_contracts {fuel : Nat} {v : Value} {x : DataW H × List MemPlace} (h : DataW.trod enc Tryz.prog w base spare held fuel 35 [v] = some x) :
    ∃ (A : Option Addr) (n c : Nat) (xs : List Contract), v = .slice A n c ∧ SliceOf w 8 Contract.cells A n c xs := by
  obtain ⟨A, n, c, xs, rfl, hl, s⟩ := open_flat Tryz.underlying35 Tryz.underlying155 (by kernel_rfl) (by kernel_rfl) (by kernel_rfl) (by decide) h
  exact ⟨A, n, c, _, rfl, SliceOf.map s conOf (by
    intro zs hzs
    match zs, hl zs hzs with
    | [a, b, c, d, e, f, g, h], _ => rfl)⟩
theorem open_reads {fuel : Nat} {v : Value} {x : DataW H × List MemPlace} (h : DataW.trod enc Tryz.prog w base spare held fuel 102 [v] = some x) :
    ∃ (A : Option Addr) (n c : Nat) (xs : List Reading), v = .slice A n c ∧ SliceOf w 2 Reading.cells A n c xs := by
  obtain ⟨A, n, c, xs, rfl, hl, s⟩ := open_flat Tryz.underlying102 Tryz.underlying196 (by kernel_rfl) (by kernel_rfl) (by kernel_rfl) (by decide) h
  exact ⟨A, n, c, _, rfl, SliceOf.map s readOf (by
    intro zs hzs
    match zs, hl zs hzs with
    | [a, b], _ => rfl)⟩
theorem open_readss {fuel : Nat} {v : Value} {x : DataW H × List MemPlace} (h : DataW.trod enc Tryz.prog w base spare held fuel 88 [v] = some x) :
    ∃ (A : Option Addr) (n c : Nat) (rs : List RS), v = .slice A n c ∧ SliceOf w 1 RS.cells A n c rs ∧ ∀ q ∈ rs, SliceOf w 2 Reading.cells q.A q.n q.c q.xs := by
  obtain ⟨A, n, c, xss, rfl, hp, hs⟩ := open_elems (C := 1) Tryz.underlying88 (by kernel_rfl) (by omega) h
  obtain ⟨rs, hrs, hq⟩ := SliceOf.pick (f' := RS.cells) (p := fun q => SliceOf w 2 Reading.cells q.A q.n q.c q.xs) hs (by
    intro vs hvs
    obtain ⟨hl, f', y, hy⟩ := hp vs hvs
    match vs, hl with
    | [u0], _ =>
      obtain ⟨A, n, c, xs, rfl, s⟩ := open_reads hy
      exact ⟨⟨A, n, c, xs⟩, rfl, s⟩)
  exact ⟨A, n, c, rs, rfl, hrs, hq⟩
set_option maxRecDepth 100000 in
theorem open_room {r0 : Reach} {b0 : Nat} {v : Value} {d : DataW H} {p : List MemPlace} (hv : Value.okWide Tryz.prog w r0 b0 109 v) (h : DataW.Trod enc Tryz.prog w base spare held 109 v d p) :
    ∃ (A1 A2 A3 A4 A5 : Option Addr) (n1 c1 n2 c2 n3 c3 n4 c4 n5 c5 : Nat) (r : Room), v = .agg #[.slice A1 n1 c1, .slice A2 n2 c2, .slice A3 n3 c3, .slice A4 n4 c4, .slice A5 n5 c5] ∧ RoomAt w A1 A2 A3 A4 A5 n1 c1 n2 c2 n3 c3 n4 c4 n5 c5 r ∧ Named0 r.ns := by
  obtain ⟨cs, rfl, hsz⟩ := okWide_struct Tryz.underlying109 hv
  have hC : Tryz.prog.cellsOf 109 = 5 := by kernel_rfl
  obtain ⟨l⟩ := cs
  match l, hsz.trans hC with
  | [v0, v1, v2, v3, v4], _ =>
    obtain ⟨fuel, hf⟩ := h
    obtain ⟨i0, y0, f0⟩ := open_fields Tryz.underlying109 hf (j := 0) rfl (o := 0) (k := 2) rfl (by kernel_rfl)
    obtain ⟨i1, y1, f1⟩ := open_fields Tryz.underlying109 hf (j := 1) rfl (o := 2) (k := 1) rfl (by kernel_rfl)
    obtain ⟨i2, y2, f2⟩ := open_fields Tryz.underlying109 hf (j := 2) rfl (o := 3) (k := 1) rfl (by kernel_rfl)
    obtain ⟨i3, y3, f3⟩ := open_fields Tryz.underlying109 hf (j := 3) rfl (o := 4) (k := 1) rfl (by kernel_rfl)
    obtain ⟨A1, A2, n1, c1, n2, c2, ns, ps, rfl, rfl, s1, s2, hnm⟩ := open_net f0
    obtain ⟨A3, n3, c3, xs, rfl, s3⟩ := open_contracts f1
    obtain ⟨A4, n4, c4, xs4, rfl, hl, s4⟩ := open_flat Tryz.underlying36 Tryz.underlying159 (by kernel_rfl) (by kernel_rfl) (by kernel_rfl) (by decide) f2
    have s4' : SliceOf w 4 Nomination.cells A4 n4 c4 (xs4.map nomOf) := SliceOf.map s4 nomOf (by
      intro zs hzs
      match zs, hl zs hzs with
      | [a, b, c, d], _ => rfl)
    obtain ⟨A5, n5, c5, rs, rfl, s5, s6⟩ := open_readss f3
    exact ⟨A1, A2, A3, A4, A5, n1, c1, n2, c2, n3, c3, n4, c4, n5, c5, ⟨ns, ps, xs, _, rs⟩, rfl, ⟨s1, s2, s3, s4', s5, s6⟩, hnm⟩
end
end Go.Proofs.YtfkpghdmljjegaaGreat

namespace Go.Proofs.YtfkpghdmljjegaaGreat
open Go.RowKit Go.ChangeShapes Go.WideShapes Go.ChangeAt Go.Deep Go.Joins
def roomOk (r : Room) : Bool := roomB r.ns.length r
def RoomLen (r : Room) : Prop := r.ns.length ≤ 1048576 ∧ Named r.ns ∧ r.ps.length ≤ 1048576 ∧ r.xs.length ≤ 1048576 ∧ r.L.length ≤ 1048576 ∧ r.rs.length ≤ 1048576 ∧ (∀ q ∈ r.rs, q.xs.length ≤ 1048576) ∧ ((r.rs.map RS.xs).map List.length).sum ≤ 1048576
section
variable {w w' : World} {A1 A2 A3 A4 A5 : Option Addr} {n1 c1 n2 c2 n3 c3 n4 c4 n5 c5 : Nat} {r r' : Room}
theorem RoomAt.roomLen (h : RoomAt w A1 A2 A3 A4 A5 n1 c1 n2 c2 n3 c3 n4 c4 n5 c5 r) (hz : RoomSz r n1 n2 n3 n4 n5) : RoomLen r :=
  ⟨h.s1.len ▸ hz.n1, hz.nm, h.s2.len ▸ hz.n2, h.s3.len ▸ hz.n3, h.s4.len ▸ hz.n4, h.s5.len ▸ hz.n5, fun q hq => (h.s6 q hq).len ▸ hz.n6 q hq, by
    have : (r.rs.map RS.xs).map List.length = r.rs.map RS.n := by rw [List.map_map]; exact List.map_congr_left (fun q hq => (h.s6 q hq).len.symm)
    rw [this]; exact hz.n7⟩
theorem RoomAt.ok (h : RoomAt w A1 A2 A3 A4 A5 n1 c1 n2 c2 n3 c3 n4 c4 n5 c5 r') (hl : r'.Like r) : roomB n1 r' = roomOk r := by
  unfold roomOk
  rw [h.s1.len, hl.1, roomB_like hl]
end
/-- a copy, as it is read -/
def RoomOf (r : Room) (w : World) (e : Ending) (w' : World) : Prop := ∃ (A1 A2 A3 A4 A5 : Option Addr) (n1 c1 n2 c2 n3 c3 n4 c4 n5 c5 : Nat) (r' : Room), e = .returned (.agg #[.slice A1 n1 c1, .slice A2 n2 c2, .slice A3 n3 c3, .slice A4 n4 c4, .slice A5 n5 c5]) ∧ RoomAt w' A1 A2 A3 A4 A5 n1 c1 n2 c2 n3 c3 n4 c4 n5 c5 r' ∧ r'.Like r ∧ Ext w w'
theorem CopiedRoom.of {r : Room} {w w' : World} {e : Ending} (hl : RoomLen r) (h : CopiedRoom r w e w') : RoomOf r w e w' := by
  obtain ⟨g1, g2, g3, g4, g5, rs', rfl, _, _, _, _, _, r1, r2, r3, r4, r5, hm, ho, _, hx⟩ := h
  obtain ⟨k1, _, k2, k3, k4, k5, _⟩ := hl
  have hlen := congrArg List.length hm
  simp at hlen
  exact ⟨_, _, _, _, _, _, _, _, _, _, _, _, _, _, _, ⟨r.ns, r.ps, r.xs, r.L, rs'⟩, rfl, ⟨r1.slice node_len rfl (by omega), r2.slice pipe_len rfl (by omega), r3.slice contract_len rfl (by omega), r4.slice nomination_len rfl (by omega), r5.slice rs_len hlen.symm (by omega), fun q hq => (ho q hq).slice⟩, ⟨rfl, rfl, rfl, rfl, hm⟩, hx⟩
end Go.Proofs.YtfkpghdmljjegaaGreat

namespace Go.Proofs.YtfkpghdmljjegaaGreat
open Go.RowKit
def mtGo (k : Nat) (out : ByteArray) : ByteArray := if _h : k = 0 then out else mtGo (k / 10) (⟨#[48 + UInt8.ofNat (k % 10)]⟩ ++ out)
termination_by k
decreasing_by omega
theorem mt_step {k : Nat} {out : ByteArray} (h : 0 < k) : mtGo k out = mtGo (k / 10) (⟨#[48 + UInt8.ofNat (k % 10)]⟩ ++ out) := by
  conv => lhs; unfold mtGo
  rw [dif_neg (by omega)]
theorem mt_end (out : ByteArray) : mtGo 0 out = out := by
  unfold mtGo
  rw [dif_pos rfl]
def mtext (k : Int) : ByteArray := if k ≤ 0 then ⟨#[109, 48]⟩ else ⟨#[109]⟩ ++ mtGo k.toNat ByteArray.empty
theorem digit_conv (W : World) (m : Nat) (z : Int) (hz : z = (m : Int)) (hm : m < 10) : (convert 22 9 (.slice (some ⟨W.heap.size, 0, none⟩) 1 1)).run Tryz.prog (W.alloc (.cells #[.int .u8 (48 + z)] 5)) = .ok (.string ⟨#[48 + UInt8.ofNat m]⟩) (W.alloc (.cells #[.int .u8 (48 + z)] 5)) := by
  have h := run_convert_bytes_back (P := Tryz.prog) (W.alloc (.cells #[.int .u8 (48 + z)] 5)) 22 9 5 ⟨W.heap.size, 0, none⟩ 1 [48 + UInt8.ofNat m] Tryz.underlying22 Tryz.underlying5 Tryz.underlying9 (fun j hj => by
    obtain rfl : j = 0 := by simp at hj; omega
    have : (Addr.add ⟨W.heap.size, 0, none⟩ 0) = ⟨W.heap.size, 0, none⟩ := rfl
    rw [this, World.cell?_alloc_mark]
    subst hz
    simp
    omega)
  exact h
set_option maxRecDepth 8000 in
theorem c_markText (k : Int) (w : World) (hk : k ≤ 1000000000000000) :
    Calls Tryz.prog 193 #[.int .i64 k] w (Ret (.string (mtext k)) w) := by
  by_cases h0 : k ≤ 0
  · have HR := hide (show mtext k = ⟨#[109, 48]⟩ by unfold mtext; rw [if_pos h0])
    go_enter Tryz.func193, Tryz.ntmps193
    go_wp2_with fail
    go_ret
    rw [HR.out]
    exact ⟨rfl, Ext.refl _⟩
  · obtain ⟨K, rfl⟩ : ∃ K : Nat, k = K := ⟨k.toNat, by omega⟩
    have HR := hide (show mtext K = ⟨#[109]⟩ ++ mtGo K ByteArray.empty by unfold mtext; rw [if_neg h0]; rfl)
    go_enter Tryz.func193, Tryz.ntmps193
    go_wp2_with fail
    go_loopw [0, 3] (fun i s wr => ∃ (j : Nat) (o : ByteArray), j ≤ 1000000000000000 ∧ i = .int .i64 j ∧ s = .string o ∧ o.size + j ≤ 1000000000000000 ∧ Hid (mtGo j o = mtGo K ByteArray.empty) ∧ Ext w wr) (fun i _ _ => (intOf i).toNat)
    case atStart => exact ⟨K, _, by omega, rfl, rfl, by show 0 + K ≤ _; omega, hide rfl, Ext.refl _⟩
    case round =>
      obtain ⟨j, o, hj, rfl, rfl, hos, HJ, hx⟩ := hrel
      by_cases hlt : 0 < j
      · have e1 : (j : Int).tmod 10 = (j : Int) % 10 := Int.tmod_eq_emod_of_nonneg (by omega)
        have e2 : (j : Int).tdiv 10 = (j : Int) / 10 := Int.tdiv_eq_ediv_of_nonneg (by omega)
        have e3 : IntKind.i64.wrap (48 + (j : Int) % 10) = 48 + (j : Int) % 10 := IntWalk.i64_in _ (by omega)
        have e4 : IntKind.u8.wrap (48 + (j : Int) % 10) = 48 + (j : Int) % 10 := by simp [IntKind.wrap, IntKind.signed, IntKind.bits]; omega
        have hcv := digit_conv wr (j % 10) ((j : Int) % 10) (by omega) (by omega)
        have hsz : ¬ 9223372036854775807 < 1 + o.size := by omega
        go_wp2_with fail
        go_roundw
        case rel => exact ⟨j / 10, _, by omega, by simp, rfl, by rw [ByteArray.size_append]; show 1 + o.size + j / 10 ≤ _; omega, hide (by rw [← HJ.out, mt_step hlt]), hx.and_alloc _⟩
        case measure => simp [intOf]; omega
      · obtain rfl : j = 0 := by omega
        have hsz : ¬ 9223372036854775807 < 1 + o.size := by omega
        have HE := hide (show o = mtGo K ByteArray.empty by rw [← HJ.out, mt_end])
        go_wp2_with fail
        go_ret
        rw [HR.out, ← HE.out]
        exact ⟨rfl, hx⟩
end Go.Proofs.YtfkpghdmljjegaaGreat
