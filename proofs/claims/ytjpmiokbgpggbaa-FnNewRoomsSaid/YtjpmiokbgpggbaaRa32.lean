/-
  From an argument as it is read (data) to the cells that hold it: slices whose elements are any data of a known number of cells. No function of the program is named here. The helpers of the laws on rooms: copying; a room that came in. What the laws on rooms know of an argument and of its copies.
-/
import Derived.Test.YtjpmiokbgpggbaaRa31
namespace Go.Proofs.Ytjpmiokbgpggbaa
open Go.Joins Go.RowKit Go.ChangeShapes Go.WideShapes Go.Deep

section
variable {H : Type} {enc : TypeId × Value → H} {P : Program} {w : World} {base : Nat} {spare : Nat → Bool} {held : Bool}
/-- a slice that came in, element by element -/
theorem open_elems {t e : TypeId} {C : Nat} {fuel : Nat} {v : Value} {x : DataW H × List MemPlace} (ht : P.underlying t = some (.slice e)) (hC : P.cellsOf e = C) (h0 : 0 < C)
    (h : DataW.trod enc P w base spare held fuel t [v] = some x) :
    ∃ (A : Option Addr) (n c : Nat) (xss : List (List Value)), v = .slice A n c ∧ (∀ vs ∈ xss, vs.length = C ∧ ∃ fuel' y, DataW.trod enc P w base spare held fuel' e vs = some y) ∧ SliceOf w C id A n c xss := by
  rcases open_slice ht h with ⟨h0, _⟩ | ⟨a, len, cap, m, n, D, Pl, hcs, hb, hl, hm, hmm, hx, hi⟩
  · simp at h0
    exact ⟨none, 0, 0, [], h0, by simp, by simp [SliceOf]⟩
  · simp at hcs
    have hlm : len ≤ m := by rw [hmm]; split <;> omega
    have hel : ∀ i, i < len → ∃ vs : List Value, (vs.length = C ∧ ∃ fuel' y, DataW.trod enc P w base spare held fuel' e vs = some y) ∧ ∀ j u, vs[j]? = some u → w.cell? (a.add (i * C + j)) = some u := by
      intro i hil
      obtain ⟨cs', hc, ht'⟩ := hi i (by omega)
      rw [hC] at hc
      obtain ⟨_, hcl, hat⟩ := World.cells?_some hc
      refine ⟨cs', ⟨hcl, _, _, ht'⟩, fun j u hu => ?_⟩
      have hj : j < C := by rw [← hcl]; exact (List.getElem?_eq_some_iff.1 hu).1
      rw [← Go.Deep.add_add, hat j hj, hu]
    obtain ⟨xss, hxl, hxp⟩ := mk_list len hel
    refine ⟨some a, len, cap, xss, hcs, ?_, hxl.symm, hl, hm, fun hn => ?_⟩
    · intro zs hzs
      obtain ⟨i, hi', hii⟩ := List.mem_iff_getElem.1 hzs
      exact (hxp i zs (by rw [List.getElem?_eq_getElem hi', hii])).1
    · obtain ⟨zs0, hz0⟩ : ∃ zs, xss[0]? = some zs := ⟨_, List.getElem?_eq_getElem (by omega)⟩
      obtain ⟨⟨hl0, _⟩, hc0⟩ := hxp 0 zs0 hz0
      obtain ⟨u, hu⟩ : ∃ u, zs0[0]? = some u := ⟨_, List.getElem?_eq_getElem (by omega)⟩
      have hcell := hc0 0 u hu
      obtain ⟨b, off, spot⟩ := a
      have hspot : spot = none := by simpa [Addr.add] using World.cell?_spot hcell
      subst hspot
      have hadd : ∀ k, (Addr.add ⟨b, off, none⟩ k) = ⟨b, off + k, none⟩ := fun k => by unfold Addr.add; split <;> simp_all
      refine ⟨b, off, rfl, ?_, fun i zs hz j u hu => ?_⟩
      · have := World.block_lt_of_cell? w _ hcell
        rw [hadd] at this
        exact this
      · have := (hxp i zs hz).2 j u hu
        rw [hadd] at this
        rw [Nat.add_assoc]
        exact this
theorem pick_list {β : Type} {f' : β → List Value} {p : β → Prop} (xss : List (List Value)) (hp : ∀ vs ∈ xss, ∃ y : β, f' y = vs ∧ p y) : ∃ ys : List β, ys.map f' = xss ∧ ∀ y ∈ ys, p y := by
  induction xss with
  | nil => exact ⟨[], rfl, by simp⟩
  | cons vs rest ih =>
    obtain ⟨ys, h1, h2⟩ := ih (fun v hv => hp v (List.mem_cons_of_mem _ hv))
    obtain ⟨y, h3, h4⟩ := hp vs (List.mem_cons_self ..)
    refine ⟨y :: ys, by rw [List.map_cons, h1, h3], fun z hz => ?_⟩
    rcases List.mem_cons.1 hz with rfl | hz
    · exact h4
    · exact h2 z hz
/-- the same cells as a slice of elements that they spell -/
theorem SliceOf.pick {β : Type} {size : Nat} {f' : β → List Value} {p : β → Prop} {A : Option Addr} {n c : Nat} {xss : List (List Value)} (h : SliceOf w size id A n c xss) (hp : ∀ vs ∈ xss, ∃ y : β, f' y = vs ∧ p y) :
    ∃ ys : List β, SliceOf w size f' A n c ys ∧ ∀ y ∈ ys, p y := by
  obtain ⟨ys, hy, hq⟩ := pick_list xss hp
  subst hy
  obtain ⟨h1, h2, h3, h4⟩ := h
  refine ⟨ys, ⟨by simpa using h1, h2, h3, fun hn => ?_⟩, hq⟩
  obtain ⟨b, off, hA, hb, hc⟩ := h4 hn
  refine ⟨b, off, hA, hb, fun i y hy j u hu => hc i (f' y) ?_ j u hu⟩
  rw [List.getElem?_map, hy]; rfl
/-- a structure of fields, by the cells of each -/
theorem open_fields {t : TypeId} {fs : Array Field} {fuel : Nat} {cs : List Value} {x : DataW H × List MemPlace} (hs : P.underlying t = some (.struct fs)) (h : DataW.trod enc P w base spare held fuel t cs = some x)
    {j : Nat} {f : Field} (hj : fs[j]? = some f) {o k : Nat} (ho : f.offset = o) (hk : P.cellsOf f.type = k) : ∃ n y, DataW.trod enc P w base spare held n f.type ((cs.drop o).take k) = some y := by
  obtain ⟨ys, n', _, _, hlen, hyl, hf⟩ := DataW.trod_struct hs h
  have h1 := hf j f hj
  rw [ho, hk] at h1
  have hl : j < ys.length := by
    rw [hyl]
    exact (Array.getElem?_eq_some_iff.1 hj).1
  exact ⟨n', ys[j], h1.trans (List.getElem?_eq_getElem hl)⟩
end
end Go.Proofs.Ytjpmiokbgpggbaa

namespace Go.Proofs.Ytjpmiokbgpggbaa
open Go.RowKit Go.ChangeShapes Go.WideShapes Go.ChangeAt Go.Deep Go.Joins
/-- a new copy of a room -/
def CopiedRoom (r : Room) (w : World) (e : Ending) (w' : World) : Prop :=
  ∃ g1 g2 g3 g4 g5 rs', e = .returned (.agg #[.slice (some ⟨g1, 0, none⟩) r.ns.length r.ns.length, .slice (some ⟨g2, 0, none⟩) r.ps.length r.ps.length, .slice (some ⟨g3, 0, none⟩) r.xs.length r.xs.length, .slice (some ⟨g4, 0, none⟩) r.L.length r.L.length, .slice (some ⟨g5, 0, none⟩) r.rs.length r.rs.length]) ∧
    w.heap.size ≤ g1 ∧ g1 < g2 ∧ g2 < g3 ∧ g3 < g4 ∧ g4 < g5 ∧ RowOf w' g1 126 Node.cells r.ns ∧ RowOf w' g2 129 Pipe.cells r.ps ∧ RowOf w' g3 87 Contract.cells r.xs ∧ RowOf w' g4 98 Nomination.cells r.L ∧
    RowOf w' g5 73 RS.cells rs' ∧ rs'.map RS.xs = r.rs.map RS.xs ∧ (∀ q ∈ rs', OwnRS w' g5 q) ∧ RsApart rs' ∧ Ext w w'
theorem OwnRS.far {w : World} {g : Nat} {q : RS} (h : OwnRS w g q) {p : Addr} (hp : p.block ≤ g) (u : Value) : OwnRS (w.setCell p u) g q := let ⟨g1, a, b, c, d, e, r⟩ := h; ⟨g1, a, b, c, d, e, r.far (by omega) u⟩
set_option maxHeartbeats 4000000 in
theorem c_toRoom (A1 A2 A3 A4 A5 : Option Addr) (n1 c1 n2 c2 n3 c3 n4 c4 n5 c5 : Nat) (r : Room) (w : World) (hat : RoomAt w A1 A2 A3 A4 A5 n1 c1 n2 c2 n3 c3 n4 c4 n5 c5 r) (hz : RoomSz r n1 n2 n3 n4 n5) :
    Calls Try.prog 10 #[.agg #[.slice A1 n1 c1, .slice A2 n2 c2, .slice A3 n3 c3, .slice A4 n4 c4, .slice A5 n5 c5]] w (CopiedRoom r w) := by
  obtain ⟨m1, mn, m2, m3, m4, m5, m6, m7⟩ := hz
  clear mn m7
  go_enter Try.func10, Try.ntmps10
  go_wp2_with fail
  refine (c_toNetwork A1 A2 n1 c1 n2 c2 r.ns r.ps _ (hat.s1.ext (((Ext.alloc _ _).and_alloc _).and_alloc _)) (hat.s2.ext (((Ext.alloc _ _).and_alloc _).and_alloc _)) m1 m2).mono ?_
  rintro e w1 ⟨g1, g2, rfl, hg1, hg12, r1, r2, hx1⟩
  have x1 : Ext w w1 := (((Ext.alloc _ _).and_alloc _).and_alloc _).trans hx1
  have z1a : w.heap.size < w1.heap.size := by have := hx1.size; simp at this; omega
  have z1b : w.heap.size + 1 < w1.heap.size := by have := hx1.size; simp at this; omega
  have z1c : w.heap.size + 1 + 1 < w1.heap.size := by have := hx1.size; simp at this; omega
  have hcl1 := hx1.cell
  have hfr1 := hx1.frozen
  simp at hg1
  have l1 := r2.lt
  go_wp2_with fail
  refine (c_toContractS A3 n3 c3 r.xs _ (hat.s3.ext ((x1.setCell (by first | (simp; done) | (simp; omega) | omega) _).setCell (by first | (simp; done) | (simp; omega) | omega) _)) m3).mono ?_
  rintro e w2 ⟨g3, rfl, hg2, r3, hx2⟩
  have x2 : Ext w w2 := ((x1.setCell (by first | (simp; done) | (simp; omega) | omega) _).setCell (by first | (simp; done) | (simp; omega) | omega) _).trans hx2
  have r1a := RowOf.ext (RowOf.far (RowOf.far r1 (by first | (simp; done) | (simp; omega) | omega) _) (by first | (simp; done) | (simp; omega) | omega) _) hx2
  have r2a := RowOf.ext (RowOf.far (RowOf.far r2 (by first | (simp; done) | (simp; omega) | omega) _) (by first | (simp; done) | (simp; omega) | omega) _) hx2
  have z2a : w.heap.size < w2.heap.size := by have := hx2.size; simp at this; omega
  have z2b : w.heap.size + 1 < w2.heap.size := by have := hx2.size; simp at this; omega
  have z2c : w.heap.size + 1 + 1 < w2.heap.size := by have := hx2.size; simp at this; omega
  have hcl2 := hx2.cell
  have hfr2 := hx2.frozen
  simp at hg2
  have l2 := r3.lt
  go_wp2_with fail
  refine (c_toNominationS A4 n4 c4 r.L _ (hat.s4.ext (x2.setCell (by first | (simp; done) | (simp; omega) | omega) _)) m4).mono ?_
  rintro e w3 ⟨g4, rfl, hg3, r4, hx3⟩
  have x3 : Ext w w3 := (x2.setCell (by first | (simp; done) | (simp; omega) | omega) _).trans hx3
  have r1b := RowOf.ext (RowOf.far r1a (by first | (simp; done) | (simp; omega) | omega) _) hx3
  have r2b := RowOf.ext (RowOf.far r2a (by first | (simp; done) | (simp; omega) | omega) _) hx3
  have r3b := RowOf.ext (RowOf.far r3 (by first | (simp; done) | (simp; omega) | omega) _) hx3
  have z3a : w.heap.size < w3.heap.size := by have := hx3.size; simp at this; omega
  have z3b : w.heap.size + 1 < w3.heap.size := by have := hx3.size; simp at this; omega
  have z3c : w.heap.size + 1 + 1 < w3.heap.size := by have := hx3.size; simp at this; omega
  have hcl3 := hx3.cell
  have hfr3 := hx3.frozen
  simp at hg3
  have l3 := r4.lt
  go_wp2_with fail
  refine (c_toReadingSS A5 n5 c5 r.rs _ (hat.s5.ext (x3.setCell (by first | (simp; done) | (simp; omega) | omega) _)) (fun q hq => (hat.s6 q hq).ext (x3.setCell (by first | (simp; done) | (simp; omega) | omega) _)) m5 m6).mono ?_
  rintro e w4 ⟨g5, rs', rfl, hg4, r5, hmap, hown, hap, hx4⟩
  have x4 : Ext w w4 := (x3.setCell (by first | (simp; done) | (simp; omega) | omega) _).trans hx4
  have r1c := RowOf.ext (RowOf.far r1b (by first | (simp; done) | (simp; omega) | omega) _) hx4
  have r2c := RowOf.ext (RowOf.far r2b (by first | (simp; done) | (simp; omega) | omega) _) hx4
  have r3c := RowOf.ext (RowOf.far r3b (by first | (simp; done) | (simp; omega) | omega) _) hx4
  have r4c := RowOf.ext (RowOf.far r4 (by first | (simp; done) | (simp; omega) | omega) _) hx4
  have z4a : w.heap.size < w4.heap.size := by have := hx4.size; simp at this; omega
  have z4b : w.heap.size + 1 < w4.heap.size := by have := hx4.size; simp at this; omega
  have z4c : w.heap.size + 1 + 1 < w4.heap.size := by have := hx4.size; simp at this; omega
  have hcl4 := hx4.cell
  have hfr4 := hx4.frozen
  simp at hg4
  have HM := hide hmap
  clear hmap
  go_wp2
  refine bodyPost_ret (v := .agg #[.slice (some ⟨g1, 0, none⟩) r.ns.length r.ns.length, .slice (some ⟨g2, 0, none⟩) r.ps.length r.ps.length, .slice (some ⟨g3, 0, none⟩) r.xs.length r.xs.length, .slice (some ⟨g4, 0, none⟩) r.L.length r.L.length, .slice (some ⟨g5, 0, none⟩) r.rs.length r.rs.length]) (by simp [results, Try.results10, go_sem, hcl4, hcl3, hcl2, hcl1, z1b, z2b, z3b]) rfl ⟨g1, g2, g3, g4, g5, rs', rfl, ?_, ?_, ?_, ?_, ?_, ?_, ?_, ?_, ?_, ?_, HM.out, ?_, hap, ?_⟩
  · omega
  · omega
  · omega
  · omega
  · omega
  · repeat (refine RowOf.far ?_ (by first | (simp; done) | (simp; omega) | omega) _)
    exact r1c
  · repeat (refine RowOf.far ?_ (by first | (simp; done) | (simp; omega) | omega) _)
    exact r2c
  · repeat (refine RowOf.far ?_ (by first | (simp; done) | (simp; omega) | omega) _)
    exact r3c
  · repeat (refine RowOf.far ?_ (by first | (simp; done) | (simp; omega) | omega) _)
    exact r4c
  · repeat (refine RowOf.far ?_ (by first | (simp; done) | (simp; omega) | omega) _)
    exact r5
  · intro q hq
    repeat (refine OwnRS.far ?_ (by first | (simp; done) | (simp; omega) | omega) _)
    exact hown q hq
  · repeat (refine Ext.setCell ?_ (by first | (simp; done) | (simp; omega) | omega) _)
    exact x4

theorem open_nodes {H : Type} {enc : TypeId × Value → H} {w : World} {base : Nat} {spare : Nat → Bool} {held : Bool} {fuel : Nat} {v : Value} {x : DataW H × List MemPlace}
    (h : DataW.trod enc Try.prog w base spare held fuel 22 [v] = some x) : ∃ (A : Option Addr) (n c : Nat) (ns : List Node), v = .slice A n c ∧ SliceOf w 3 Node.cells A n c ns ∧ Named0 ns := by
  obtain ⟨A, n, c, xss, rfl, hp, hs⟩ := open_elems (C := 3) Try.underlying22 (by kernel_rfl) (by omega) h
  obtain ⟨ns, hns, hnm⟩ := SliceOf.pick (f' := Node.cells) (p := fun x => x.name.size ≤ 9223372036854775807) hs (by
    intro vs hvs
    obtain ⟨hl, f', y, hy⟩ := hp vs hvs
    match vs, hl with
    | [u0, u1, u2], _ =>
      obtain ⟨i0, y0, f0⟩ := open_fields Try.underlying123 hy (j := 0) rfl (o := 0) (k := 1) rfl (by kernel_rfl)
      obtain ⟨i1, y1, f1⟩ := open_fields Try.underlying123 hy (j := 1) rfl (o := 1) (k := 1) rfl (by kernel_rfl)
      obtain ⟨i2, y2, f2⟩ := open_fields Try.underlying123 hy (j := 2) rfl (o := 2) (k := 1) rfl (by kernel_rfl)
      obtain ⟨s, e0, _, hsz⟩ := DataW.trod_string Try.underlying9 f0
      obtain ⟨z1, e1, _, _⟩ := DataW.trod_int Try.underlying2 f1
      obtain ⟨z2, e2, _, _⟩ := DataW.trod_int Try.underlying2 f2
      have k0 : [u0] = [.string s] := e0
      have k1 : [u1] = [.int .i64 z1] := e1
      have k2 : [u2] = [.int .i64 z2] := e2
      simp only [List.cons.injEq, and_true] at k0 k1 k2
      exact ⟨⟨s, z1, z2⟩, by rw [k0, k1, k2]; rfl, hsz⟩)
  exact ⟨A, n, c, ns, rfl, hns, hnm⟩

def pipeOf : List Int → Pipe
  | [a, b, c, d, e] => ⟨a, b, c, d, e⟩
  | _ => ⟨0, 0, 0, 0, 0⟩
def conOf : List Int → Contract
  | [a, b, c, d, e, f, g, h] => ⟨a, b, c, d, e, f, g, h⟩
  | _ => ⟨0, 0, 0, 0, 0, 0, 0, 0⟩
def nomOf : List Int → Nomination
  | [a, b, c, d] => ⟨a, b, c, d⟩
  | _ => ⟨0, 0, 0, 0⟩
def readOf : List Int → Reading
  | [a, b] => ⟨a, b⟩
  | _ => ⟨0, 0⟩
section
variable {H : Type} {enc : TypeId × Value → H} {w : World} {base : Nat} {spare : Nat → Bool} {held : Bool}
theorem open_net {fuel : Nat} {v0 v1 : Value} {x : DataW H × List MemPlace} (h : DataW.trod enc Try.prog w base spare held fuel 25 [v0, v1] = some x) :
    ∃ (A1 A2 : Option Addr) (n1 c1 n2 c2 : Nat) (ns : List Node) (ps : List Pipe), v0 = .slice A1 n1 c1 ∧ v1 = .slice A2 n2 c2 ∧ SliceOf w 3 Node.cells A1 n1 c1 ns ∧ SliceOf w 5 Pipe.cells A2 n2 c2 ps ∧ Named0 ns := by
  obtain ⟨i0, y0, f0⟩ := open_fields Try.underlying25 h (j := 0) rfl (o := 0) (k := 1) rfl (by kernel_rfl)
  obtain ⟨i1, y1, f1⟩ := open_fields Try.underlying25 h (j := 1) rfl (o := 1) (k := 1) rfl (by kernel_rfl)
  obtain ⟨A1, n1, c1, ns, rfl, s1, hnm⟩ := open_nodes f0
  obtain ⟨A2, n2, c2, ps, rfl, hl, s2⟩ := open_flat Try.underlying23 Try.underlying131 (by kernel_rfl) (by kernel_rfl) (by kernel_rfl) (by decide) f1
  have s2' : SliceOf w 5 Pipe.cells A2 n2 c2 (ps.map pipeOf) := SliceOf.map s2 pipeOf (by
    intro zs hzs
    match zs, hl zs hzs with
    | [a, b, c, d, e], _ => rfl)
  exact ⟨A1, A2, n1, c1, n2, c2, ns, _, rfl, rfl, s1, s2', hnm⟩
theorem open_contracts {fuel : Nat} {v : Value} {x : DataW H × List MemPlace} (h : DataW.trod enc Try.prog w base spare held fuel 26 [v] = some x) :
    ∃ (A : Option Addr) (n c : Nat) (xs : List Contract), v = .slice A n c ∧ SliceOf w 8 Contract.cells A n c xs := by
  obtain ⟨A, n, c, xs, rfl, hl, s⟩ := open_flat Try.underlying26 Try.underlying89 (by kernel_rfl) (by kernel_rfl) (by kernel_rfl) (by decide) h
  exact ⟨A, n, c, _, rfl, SliceOf.map s conOf (by
    intro zs hzs
    match zs, hl zs hzs with
    | [a, b, c, d, e, f, g, h], _ => rfl)⟩
theorem open_reads {fuel : Nat} {v : Value} {x : DataW H × List MemPlace} (h : DataW.trod enc Try.prog w base spare held fuel 110 [v] = some x) :
    ∃ (A : Option Addr) (n c : Nat) (xs : List Reading), v = .slice A n c ∧ SliceOf w 2 Reading.cells A n c xs := by
  obtain ⟨A, n, c, xs, rfl, hl, s⟩ := open_flat Try.underlying110 Try.underlying145 (by kernel_rfl) (by kernel_rfl) (by kernel_rfl) (by decide) h
  exact ⟨A, n, c, _, rfl, SliceOf.map s readOf (by
    intro zs hzs
    match zs, hl zs hzs with
    | [a, b], _ => rfl)⟩
theorem open_readss {fuel : Nat} {v : Value} {x : DataW H × List MemPlace} (h : DataW.trod enc Try.prog w base spare held fuel 28 [v] = some x) :
    ∃ (A : Option Addr) (n c : Nat) (rs : List RS), v = .slice A n c ∧ SliceOf w 1 RS.cells A n c rs ∧ ∀ q ∈ rs, SliceOf w 2 Reading.cells q.A q.n q.c q.xs := by
  obtain ⟨A, n, c, xss, rfl, hp, hs⟩ := open_elems (C := 1) Try.underlying28 (by kernel_rfl) (by omega) h
  obtain ⟨rs, hrs, hq⟩ := SliceOf.pick (f' := RS.cells) (p := fun q => SliceOf w 2 Reading.cells q.A q.n q.c q.xs) hs (by
    intro vs hvs
    obtain ⟨hl, f', y, hy⟩ := hp vs hvs
    match vs, hl with
    | [u0], _ =>
      obtain ⟨A, n, c, xs, rfl, s⟩ := open_reads hy
      exact ⟨⟨A, n, c, xs⟩, rfl, s⟩)
  exact ⟨A, n, c, rs, rfl, hrs, hq⟩
set_option maxRecDepth 100000 in
theorem open_room {r0 : Reach} {b0 : Nat} {v : Value} {d : DataW H} {p : List MemPlace} (hv : Value.okWide Try.prog w r0 b0 30 v) (h : DataW.Trod enc Try.prog w base spare held 30 v d p) :
    ∃ (A1 A2 A3 A4 A5 : Option Addr) (n1 c1 n2 c2 n3 c3 n4 c4 n5 c5 : Nat) (r : Room), v = .agg #[.slice A1 n1 c1, .slice A2 n2 c2, .slice A3 n3 c3, .slice A4 n4 c4, .slice A5 n5 c5] ∧ RoomAt w A1 A2 A3 A4 A5 n1 c1 n2 c2 n3 c3 n4 c4 n5 c5 r ∧ Named0 r.ns := by
  obtain ⟨cs, rfl, hsz⟩ := okWide_struct Try.underlying30 hv
  have hC : Try.prog.cellsOf 30 = 5 := by kernel_rfl
  obtain ⟨l⟩ := cs
  match l, hsz.trans hC with
  | [v0, v1, v2, v3, v4], _ =>
    obtain ⟨fuel, hf⟩ := h
    obtain ⟨i0, y0, f0⟩ := open_fields Try.underlying30 hf (j := 0) rfl (o := 0) (k := 2) rfl (by kernel_rfl)
    obtain ⟨i1, y1, f1⟩ := open_fields Try.underlying30 hf (j := 1) rfl (o := 2) (k := 1) rfl (by kernel_rfl)
    obtain ⟨i2, y2, f2⟩ := open_fields Try.underlying30 hf (j := 2) rfl (o := 3) (k := 1) rfl (by kernel_rfl)
    obtain ⟨i3, y3, f3⟩ := open_fields Try.underlying30 hf (j := 3) rfl (o := 4) (k := 1) rfl (by kernel_rfl)
    obtain ⟨A1, A2, n1, c1, n2, c2, ns, ps, rfl, rfl, s1, s2, hnm⟩ := open_net f0
    obtain ⟨A3, n3, c3, xs, rfl, s3⟩ := open_contracts f1
    obtain ⟨A4, n4, c4, xs4, rfl, hl, s4⟩ := open_flat Try.underlying27 Try.underlying115 (by kernel_rfl) (by kernel_rfl) (by kernel_rfl) (by decide) f2
    have s4' : SliceOf w 4 Nomination.cells A4 n4 c4 (xs4.map nomOf) := SliceOf.map s4 nomOf (by
      intro zs hzs
      match zs, hl zs hzs with
      | [a, b, c, d], _ => rfl)
    obtain ⟨A5, n5, c5, rs, rfl, s5, s6⟩ := open_readss f3
    exact ⟨A1, A2, A3, A4, A5, n1, c1, n2, c2, n3, c3, n4, c4, n5, c5, ⟨ns, ps, xs, _, rs⟩, rfl, ⟨s1, s2, s3, s4', s5, s6⟩, hnm⟩
end
end Go.Proofs.Ytjpmiokbgpggbaa

namespace Go.Proofs.Ytjpmiokbgpggbaa
open Go.RowKit Go.ChangeShapes Go.WideShapes Go.ChangeAt Go.Deep Go.Joins
theorem own : ownKnob Try.prog.godebug = none := by kernel_rfl
theorem laidOut : laidOutB Try.prog = true := by kernel_rfl
def roomOk (r : Room) : Bool := roomB r.ns.length r
def RoomLen (r : Room) : Prop := r.ns.length ≤ 1048576 ∧ Named r.ns ∧ r.ps.length ≤ 1048576 ∧ r.xs.length ≤ 1048576 ∧ r.L.length ≤ 1048576 ∧ r.rs.length ≤ 1048576 ∧ (∀ q ∈ r.rs, q.xs.length ≤ 1048576) ∧ ((r.rs.map RS.xs).map List.length).sum ≤ 1048576
section
variable {w w' : World} {A1 A2 A3 A4 A5 : Option Addr} {n1 c1 n2 c2 n3 c3 n4 c4 n5 c5 : Nat} {r r' : Room}
theorem RoomAt.roomLen (h : RoomAt w A1 A2 A3 A4 A5 n1 c1 n2 c2 n3 c3 n4 c4 n5 c5 r) (hz : RoomSz r n1 n2 n3 n4 n5) : RoomLen r :=
  ⟨h.s1.len ▸ hz.n1, hz.nm, h.s2.len ▸ hz.n2, h.s3.len ▸ hz.n3, h.s4.len ▸ hz.n4, h.s5.len ▸ hz.n5, fun q hq => (h.s6 q hq).len ▸ hz.n6 q hq, by
    have : (r.rs.map RS.xs).map List.length = r.rs.map RS.n := by rw [List.map_map]; exact List.map_congr_left (fun q hq => (h.s6 q hq).len.symm)
    rw [this]; exact hz.n7⟩
theorem RoomLen.like (h : RoomLen r) (hl : r'.Like r) : RoomLen r' := by
  obtain ⟨h1, h2, h3, h4, h5⟩ := hl
  obtain ⟨k1, k2, k3, k4, k5, k6, k7, k8⟩ := h
  have hlen := congrArg List.length h5
  simp at hlen
  refine ⟨by rw [h1]; exact k1, by rw [h1]; exact k2, by rw [h2]; exact k3, by rw [h3]; exact k4, by rw [h4]; exact k5, by rw [hlen]; exact k6, fun q hq => ?_, by rw [h5]; exact k8⟩
  have : q.xs ∈ r.rs.map RS.xs := by rw [← h5]; exact List.mem_map_of_mem hq
  obtain ⟨q', hq', he⟩ := List.mem_map.1 this
  rw [← he]; exact k7 q' hq'
theorem RoomAt.ok (h : RoomAt w A1 A2 A3 A4 A5 n1 c1 n2 c2 n3 c3 n4 c4 n5 c5 r') (hl : r'.Like r) : roomB n1 r' = roomOk r := by
  unfold roomOk
  rw [h.s1.len, hl.1, roomB_like hl]
end
/-- a copy, as it is read -/
def RoomOf (r : Room) (w : World) (e : Ending) (w' : World) : Prop := ∃ (A1 A2 A3 A4 A5 : Option Addr) (n1 c1 n2 c2 n3 c3 n4 c4 n5 c5 : Nat) (r' : Room), e = .returned (.agg #[.slice A1 n1 c1, .slice A2 n2 c2, .slice A3 n3 c3, .slice A4 n4 c4, .slice A5 n5 c5]) ∧ RoomAt w' A1 A2 A3 A4 A5 n1 c1 n2 c2 n3 c3 n4 c4 n5 c5 r' ∧ r'.Like r ∧ Ext w w'
theorem CopiedRoom.of {r : Room} {w w' : World} {e : Ending} (hl : RoomLen r) (h : CopiedRoom r w e w') : RoomOf r w e w' := by
  obtain ⟨g1, g2, g3, g4, g5, rs', rfl, _, _, _, _, _, r1, r2, r3, r4, r5, hm, ho, _, hx⟩ := h
  obtain ⟨k1, _, k2, k3, k4, k5, _⟩ := hl
  have hlen := congrArg List.length hm
  simp at hlen
  exact ⟨_, _, _, _, _, _, _, _, _, _, _, _, _, _, _, ⟨r.ns, r.ps, r.xs, r.L, rs'⟩, rfl, ⟨r1.slice node_len rfl (by omega), r2.slice pipe_len rfl (by omega), r3.slice contract_len rfl (by omega), r4.slice nomination_len rfl (by omega), r5.slice rs_len hlen.symm (by omega), fun q hq => (ho q hq).slice⟩, ⟨rfl, rfl, rfl, rfl, hm⟩, hx⟩
theorem hourR_like {r r' : Room} {n1 : Int} (h : roomB n1 r' = roomOk r) (hl : r'.Like r) : hourR n1 r' = hourR r.ns.length r := by
  have hlen := congrArg List.length hl.2.2.2.2
  simp at hlen
  unfold hourR
  rw [h, hlen]; rfl
end Go.Proofs.Ytjpmiokbgpggbaa
