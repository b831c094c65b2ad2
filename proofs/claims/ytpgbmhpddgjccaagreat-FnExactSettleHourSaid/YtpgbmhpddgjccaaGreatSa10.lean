/-
  The helpers of the laws on rooms: copying; a room that came in. The arguments of the laws on hours: networks, books, nominations, lists of readings, read from what is laid. The program's own knobs are none, and its types are laid out: two facts that every lift of a law names. What the laws on rooms know of an argument and of its copies. markText of the laws: a text for each number. Plain lemmas: a world of which some blocks have turned; slices of the call's own, by their address; blocks that are apart. No function of the program is named here.
-/
import Derived.Test.YtpgbmhpddgjccaaGreatSa09
import Derived.Test.YtpgbmhpddgjccaaGreatSa00
import Derived.OpenShut
import Derived.ProofKit
import Derived.ShutString
import Derived.ChangeOld
import Derived.Lib.SmallJoins
import Derived.Laws.IdiomStrings
import Derived.Laws.BytesString
import Derived.Test.YtpgbmhpddgjccaaGreatProg
import Derived.Test.YtpgbmhpddgjccaaGreatSa01
namespace Go.Proofs.YtpgbmhpddgjccaaGreat
open Go.RowKit Go.ChangeShapes Go.WideShapes Go.ChangeAt Go.Deep Go.Joins
/-- a new copy of a room -/
def CopiedRoom (r : Room) (w : World) (e : Ending) (w' : World) : Prop :=
  ∃ g1 g2 g3 g4 g5 rs', e = .returned (.agg #[.slice (some ⟨g1, 0, none⟩) r.ns.length r.ns.length, .slice (some ⟨g2, 0, none⟩) r.ps.length r.ps.length, .slice (some ⟨g3, 0, none⟩) r.xs.length r.xs.length, .slice (some ⟨g4, 0, none⟩) r.L.length r.L.length, .slice (some ⟨g5, 0, none⟩) r.rs.length r.rs.length]) ∧
    w.heap.size ≤ g1 ∧ g1 < g2 ∧ g2 < g3 ∧ g3 < g4 ∧ g4 < g5 ∧ RowOf w' g1 210 Node.cells r.ns ∧ RowOf w' g2 174 Pipe.cells r.ps ∧ RowOf w' g3 146 Contract.cells r.xs ∧ RowOf w' g4 150 Nomination.cells r.L ∧
    RowOf w' g5 60 RS.cells rs' ∧ rs'.map RS.xs = r.rs.map RS.xs ∧ (∀ q ∈ rs', OwnRS w' g5 q) ∧ RsApart rs' ∧ Ext w w'
theorem OwnRS.far {w : World} {g : Nat} {q : RS} (h : OwnRS w g q) {p : Addr} (hp : p.block ≤ g) (u : Value) : OwnRS (w.setCell p u) g q := let ⟨g1, a, b, c, d, e, r⟩ := h; ⟨g1, a, b, c, d, e, r.far (by omega) u⟩
set_option maxHeartbeats 4000000 in
theorem c_toRoom (A1 A2 A3 A4 A5 : Option Addr) (n1 c1 n2 c2 n3 c3 n4 c4 n5 c5 : Nat) (r : Room) (w : World) (hat : RoomAt w A1 A2 A3 A4 A5 n1 c1 n2 c2 n3 c3 n4 c4 n5 c5 r) (hz : RoomSz r n1 n2 n3 n4 n5) :
    Calls Tryz.prog 70 #[.agg #[.slice A1 n1 c1, .slice A2 n2 c2, .slice A3 n3 c3, .slice A4 n4 c4, .slice A5 n5 c5]] w (CopiedRoom r w) := by
  obtain ⟨m1, mn, m2, m3, m4, m5, m6, m7⟩ := hz
  clear mn m7
  go_enter Tryz.func70, Tryz.ntmps70
  go_wp2_with fail
  refine (c_toNetwork A1 A2 n1 c1 n2 c2 r.ns r.ps _ (hat.s1.ext (((Ext.alloc _ _).and_alloc _).and_alloc _)) (hat.s2.ext (((Ext.alloc _ _).and_alloc _).and_alloc _)) m1 m2).mono ?_
  rintro e w1 ⟨g1, g2, rfl, hg1, hg12, r1, r2, hx1⟩
  have x1 : Ext w w1 := (((Ext.alloc _ _).and_alloc _).and_alloc _).trans hx1
  have z1a : w.heap.size < w1.heap.size := by have := hx1.size; simp at this; omega
  have z1b : w.heap.size + 1 < w1.heap.size := by have := hx1.size; simp at this; omega
  have z1c : w.heap.size + 1 + 1 < w1.heap.size := by have := hx1.size; simp at this; omega
  have hcl1 := hx1.cell
  have hfr1 := hx1.frozen
  simp at hg1
  have l1 := r2.lt
  go_wp2_with fail
  refine (c_toContractS A3 n3 c3 r.xs _ (hat.s3.ext ((x1.setCell (by first | (simp; done) | (simp; omega) | omega) _).setCell (by first | (simp; done) | (simp; omega) | omega) _)) m3).mono ?_
  rintro e w2 ⟨g3, rfl, hg2, r3, hx2⟩
  have x2 : Ext w w2 := ((x1.setCell (by first | (simp; done) | (simp; omega) | omega) _).setCell (by first | (simp; done) | (simp; omega) | omega) _).trans hx2
  have r1a := RowOf.ext (RowOf.far (RowOf.far r1 (by first | (simp; done) | (simp; omega) | omega) _) (by first | (simp; done) | (simp; omega) | omega) _) hx2
  have r2a := RowOf.ext (RowOf.far (RowOf.far r2 (by first | (simp; done) | (simp; omega) | omega) _) (by first | (simp; done) | (simp; omega) | omega) _) hx2
  have z2a : w.heap.size < w2.heap.size := by have := hx2.size; simp at this; omega
  have z2b : w.heap.size + 1 < w2.heap.size := by have := hx2.size; simp at this; omega
  have z2c : w.heap.size + 1 + 1 < w2.heap.size := by have := hx2.size; simp at this; omega
  have hcl2 := hx2.cell
  have hfr2 := hx2.frozen
  simp at hg2
  have l2 := r3.lt
  go_wp2_with fail
  refine (c_toNominationS A4 n4 c4 r.L _ (hat.s4.ext (x2.setCell (by first | (simp; done) | (simp; omega) | omega) _)) m4).mono ?_
  rintro e w3 ⟨g4, rfl, hg3, r4, hx3⟩
  have x3 : Ext w w3 := (x2.setCell (by first | (simp; done) | (simp; omega) | omega) _).trans hx3
  have r1b := RowOf.ext (RowOf.far r1a (by first | (simp; done) | (simp; omega) | omega) _) hx3
  have r2b := RowOf.ext (RowOf.far r2a (by first | (simp; done) | (simp; omega) | omega) _) hx3
  have r3b := RowOf.ext (RowOf.far r3 (by first | (simp; done) | (simp; omega) | omega) _) hx3
  have z3a : w.heap.size < w3.heap.size := by have := hx3.size; simp at this; omega
  have z3b : w.heap.size + 1 < w3.heap.size := by have := hx3.size; simp at this; omega
  have z3c : w.heap.size + 1 + 1 < w3.heap.size := by have := hx3.size; simp at this; omega
  have hcl3 := hx3.cell
  have hfr3 := hx3.frozen
  simp at hg3
  have l3 := r4.lt
  go_wp2_with fail
  refine (c_toReadingSS A5 n5 c5 r.rs _ (hat.s5.ext (x3.setCell (by first | (simp; done) | (simp; omega) | omega) _)) (fun q hq => (hat.s6 q hq).ext (x3.setCell (by first | (simp; done) | (simp; omega) | omega) _)) m5 m6).mono ?_
  rintro e w4 ⟨g5, rs', rfl, hg4, r5, hmap, hown, hap, hx4⟩
  have x4 : Ext w w4 := (x3.setCell (by first | (simp; done) | (simp; omega) | omega) _).trans hx4
  have r1c := RowOf.ext (RowOf.far r1b (by first | (simp; done) | (simp; omega) | omega) _) hx4
  have r2c := RowOf.ext (RowOf.far r2b (by first | (simp; done) | (simp; omega) | omega) _) hx4
  have r3c := RowOf.ext (RowOf.far r3b (by first | (simp; done) | (simp; omega) | omega) _) hx4
  have r4c := RowOf.ext (RowOf.far r4 (by first | (simp; done) | (simp; omega) | omega) _) hx4
  have z4a : w.heap.size < w4.heap.size := by have := hx4.size; simp at this; omega
  have z4b : w.heap.size + 1 < w4.heap.size := by have := hx4.size; simp at this; omega
  have z4c : w.heap.size + 1 + 1 < w4.heap.size := by have := hx4.size; simp at this; omega
  have hcl4 := hx4.cell
  have hfr4 := hx4.frozen
  simp at hg4
  have HM := hide hmap
  clear hmap
  go_wp2
  refine bodyPost_ret (v := .agg #[.slice (some ⟨g1, 0, none⟩) r.ns.length r.ns.length, .slice (some ⟨g2, 0, none⟩) r.ps.length r.ps.length, .slice (some ⟨g3, 0, none⟩) r.xs.length r.xs.length, .slice (some ⟨g4, 0, none⟩) r.L.length r.L.length, .slice (some ⟨g5, 0, none⟩) r.rs.length r.rs.length]) (by simp [results, Tryz.results70, go_sem, hcl4, hcl3, hcl2, hcl1, z1b, z2b, z3b]) rfl ⟨g1, g2, g3, g4, g5, rs', rfl, ?_, ?_, ?_, ?_, ?_, ?_, ?_, ?_, ?_, ?_, HM.out, ?_, hap, ?_⟩
  · omega
  · omega
  · omega
  · omega
  · omega
  · repeat (refine RowOf.far ?_ (by first | (simp; done) | (simp; omega) | omega) _)
    exact r1c
  · repeat (refine RowOf.far ?_ (by first | (simp; done) | (simp; omega) | omega) _)
    exact r2c
  · repeat (refine RowOf.far ?_ (by first | (simp; done) | (simp; omega) | omega) _)
    exact r3c
  · repeat (refine RowOf.far ?_ (by first | (simp; done) | (simp; omega) | omega) _)
    exact r4c
  · repeat (refine RowOf.far ?_ (by first | (simp; done) | (simp; omega) | omega) _)
    exact r5
  · intro q hq
    repeat (refine OwnRS.far ?_ (by first | (simp; done) | (simp; omega) | omega) _)
    exact hown q hq
  · repeat (refine Ext.setCell ?_ (by first | (simp; done) | (simp; omega) | omega) _)
    exact x4

theorem open_nodes {H : Type} {enc : TypeId × Value → H} {w : World} {base : Nat} {spare : Nat → Bool} {held : Bool} {fuel : Nat} {v : Value} {x : DataW H × List MemPlace}
    (h : DataW.trod enc Tryz.prog w base spare held fuel 31 [v] = some x) : ∃ (A : Option Addr) (n c : Nat) (ns : List Node), v = .slice A n c ∧ SliceOf w 3 Node.cells A n c ns ∧ Named0 ns := by
  obtain ⟨A, n, c, xss, rfl, hp, hs⟩ := open_elems (C := 3) Tryz.underlying31 (by kernel_rfl) (by omega) h
  obtain ⟨ns, hns, hnm⟩ := SliceOf.pick (f' := Node.cells) (p := fun x => x.name.size ≤ 9223372036854775807) hs (by
    intro vs hvs
    obtain ⟨hl, f', y, hy⟩ := hp vs hvs
    match vs, hl with
    | [u0, u1, u2], _ =>
      obtain ⟨i0, y0, f0⟩ := open_fields Tryz.underlying205 hy (j := 0) rfl (o := 0) (k := 1) rfl (by kernel_rfl)
      obtain ⟨i1, y1, f1⟩ := open_fields Tryz.underlying205 hy (j := 1) rfl (o := 1) (k := 1) rfl (by kernel_rfl)
      obtain ⟨i2, y2, f2⟩ := open_fields Tryz.underlying205 hy (j := 2) rfl (o := 2) (k := 1) rfl (by kernel_rfl)
      obtain ⟨s, e0, _, hsz⟩ := DataW.trod_string Tryz.underlying9 f0
      obtain ⟨z1, e1, _, _⟩ := DataW.trod_int Tryz.underlying2 f1
      obtain ⟨z2, e2, _, _⟩ := DataW.trod_int Tryz.underlying2 f2
      have k0 : [u0] = [.string s] := e0
      have k1 : [u1] = [.int .i64 z1] := e1
      have k2 : [u2] = [.int .i64 z2] := e2
      simp only [List.cons.injEq, and_true] at k0 k1 k2
      exact ⟨⟨s, z1, z2⟩, by rw [k0, k1, k2]; rfl, hsz⟩)
  exact ⟨A, n, c, ns, rfl, hns, hnm⟩

def pipeOf : List Int → Pipe
  | [a, b, c, d, e] => ⟨a, b, c, d, e⟩
  | _ => ⟨0, 0, 0, 0, 0⟩
def conOf : List Int → Contract
  | [a, b, c, d, e, f, g, h] => ⟨a, b, c, d, e, f, g, h⟩
  | _ => ⟨0, 0, 0, 0, 0, 0, 0, 0⟩
def nomOf : List Int → Nomination
  | [a, b, c, d] => ⟨a, b, c, d⟩
  | _ => ⟨0, 0, 0, 0⟩
def readOf : List Int → Reading
  | [a, b] => ⟨a, b⟩
  | _ => ⟨0, 0⟩
section
variable {H : Type} {enc : TypeId × Value → H} {w : World} {base : Nat} {spare : Nat → Bool} {held : Bool}
theorem open_net {fuel : Nat} {v0 v1 : Value} {x : DataW H × List MemPlace} (h : DataW.trod enc Tryz.prog w base spare held fuel 34 [v0, v1] = some x) :
    ∃ (A1 A2 : Option Addr) (n1 c1 n2 c2 : Nat) (ns : List Node) (ps : List Pipe), v0 = .slice A1 n1 c1 ∧ v1 = .slice A2 n2 c2 ∧ SliceOf w 3 Node.cells A1 n1 c1 ns ∧ SliceOf w 5 Pipe.cells A2 n2 c2 ps ∧ Named0 ns := by
  obtain ⟨i0, y0, f0⟩ := open_fields Tryz.underlying34 h (j := 0) rfl (o := 0) (k := 1) rfl (by kernel_rfl)
  obtain ⟨i1, y1, f1⟩ := open_fields Tryz.underlying34 h (j := 1) rfl (o := 1) (k := 1) rfl (by kernel_rfl)
  obtain ⟨A1, n1, c1, ns, rfl, s1, hnm⟩ := open_nodes f0
  obtain ⟨A2, n2, c2, ps, rfl, hl, s2⟩ := open_flat Tryz.underlying32 Tryz.underlying213 (by kernel_rfl) (by kernel_rfl) (by kernel_rfl) (by decide) f1
  have s2' : SliceOf w 5 Pipe.cells A2 n2 c2 (ps.map pipeOf) := SliceOf.map s2 pipeOf (by
    intro zs hzs
    match zs, hl zs hzs with
    | [a, b, c, d, e], _ => rfl)
  exact ⟨A1, A2, n1, c1, n2, c2, ns, _, rfl, rfl, s1, s2', hnm⟩
theorem open_contracts {fuel : Nat} {v : Value} {x : DataW H × List MemPlace} (h : DataW.trod enc Tryz.prog w base spare held fuel 35 [v] = some x) :
    ∃ (A : Option Addr) (n c : Nat) (xs : List Contract), v = .slice A n c ∧ SliceOf w 8 Contract.cells A n c xs := by
  obtain ⟨A, n, c, xs, rfl, hl, s⟩ := open_flat Tryz.underlying35 Tryz.underlying148 (by kernel_rfl) (by kernel_rfl) (by kernel_rfl) (by decide) h
  exact ⟨A, n, c, _, rfl, SliceOf.map s conOf (by
    intro zs hzs
    match zs, hl zs hzs with
    | [a, b, c, d, e, f, g, h], _ => rfl)⟩
theorem open_reads {fuel : Nat} {v : Value} {x : DataW H × List MemPlace} (h : DataW.trod enc Tryz.prog w base spare held fuel 102 [v] = some x) :
    ∃ (A : Option Addr) (n c : Nat) (xs : List Reading), v = .slice A n c ∧ SliceOf w 2 Reading.cells A n c xs := by
  obtain ⟨A, n, c, xs, rfl, hl, s⟩ := open_flat Tryz.underlying102 Tryz.underlying190 (by kernel_rfl) (by kernel_rfl) (by kernel_rfl) (by decide) h
  exact ⟨A, n, c, _, rfl, SliceOf.map s readOf (by
    intro zs hzs
    match zs, hl zs hzs with
    | [a, b], _ => rfl)⟩
theorem open_readss {fuel : Nat} {v : Value} {x : DataW H × List MemPlace} (h : DataW.trod enc Tryz.prog w base spare held fuel 88 [v] = some x) :
    ∃ (A : Option Addr) (n c : Nat) (rs : List RS), v = .slice A n c ∧ SliceOf w 1 RS.cells A n c rs ∧ ∀ q ∈ rs, SliceOf w 2 Reading.cells q.A q.n q.c q.xs := by
  obtain ⟨A, n, c, xss, rfl, hp, hs⟩ := open_elems (C := 1) Tryz.underlying88 (by kernel_rfl) (by omega) h
  obtain ⟨rs, hrs, hq⟩ := SliceOf.pick (f' := RS.cells) (p := fun q => SliceOf w 2 Reading.cells q.A q.n q.c q.xs) hs (by
    intro vs hvs
    obtain ⟨hl, f', y, hy⟩ := hp vs hvs
    match vs, hl with
    | [u0], _ =>
      obtain ⟨A, n, c, xs, rfl, s⟩ := open_reads hy
      exact ⟨⟨A, n, c, xs⟩, rfl, s⟩)
  exact ⟨A, n, c, rs, rfl, hrs, hq⟩
set_option maxRecDepth 100000 in
theorem open_room {r0 : Reach} {b0 : Nat} {v : Value} {d : DataW H} {p : List MemPlace} (hv : Value.okWide Tryz.prog w r0 b0 109 v) (h : DataW.Trod enc Tryz.prog w base spare held 109 v d p) :
    ∃ (A1 A2 A3 A4 A5 : Option Addr) (n1 c1 n2 c2 n3 c3 n4 c4 n5 c5 : Nat) (r : Room), v = .agg #[.slice A1 n1 c1, .slice A2 n2 c2, .slice A3 n3 c3, .slice A4 n4 c4, .slice A5 n5 c5] ∧ RoomAt w A1 A2 A3 A4 A5 n1 c1 n2 c2 n3 c3 n4 c4 n5 c5 r ∧ Named0 r.ns := by
  obtain ⟨cs, rfl, hsz⟩ := okWide_struct Tryz.underlying109 hv
  have hC : Tryz.prog.cellsOf 109 = 5 := by kernel_rfl
  obtain ⟨l⟩ := cs
  match l, hsz.trans hC with
  | [v0, v1, v2, v3, v4], _ =>
    obtain ⟨fuel, hf⟩ := h
    obtain ⟨i0, y0, f0⟩ := open_fields Tryz.underlying109 hf (j := 0) rfl (o := 0) (k := 2) rfl (by kernel_rfl)
    obtain ⟨i1, y1, f1⟩ := open_fields Tryz.underlying109 hf (j := 1) rfl (o := 2) (k := 1) rfl (by kernel_rfl)
    obtain ⟨i2, y2, f2⟩ := open_fields Tryz.underlying109 hf (j := 2) rfl (o := 3) (k := 1) rfl (by kernel_rfl)
    obtain ⟨i3, y3, f3⟩ := open_fields Tryz.underlying109 hf (j := 3) rfl (o := 4) (k := 1) rfl (by kernel_rfl)
    obtain ⟨A1, A2, n1, c1, n2, c2, ns, ps, rfl, rfl, s1, s2, hnm⟩ := open_net f0
    obtain ⟨A3, n3, c3, xs, rfl, s3⟩ := open_contracts f1
    obtain ⟨A4, n4, c4, xs4, rfl, hl, s4⟩ := open_flat Tryz.underlying36 Tryz.underlying152 (by kernel_rfl) (by kernel_rfl) (by kernel_rfl) (by decide) f2
    have s4' : SliceOf w 4 Nomination.cells A4 n4 c4 (xs4.map nomOf) := SliceOf.map s4 nomOf (by
      intro zs hzs
      match zs, hl zs hzs with
      | [a, b, c, d], _ => rfl)
    obtain ⟨A5, n5, c5, rs, rfl, s5, s6⟩ := open_readss f3
    exact ⟨A1, A2, A3, A4, A5, n1, c1, n2, c2, n3, c3, n4, c4, n5, c5, ⟨ns, ps, xs, _, rs⟩, rfl, ⟨s1, s2, s3, s4', s5, s6⟩, hnm⟩
end
end Go.Proofs.YtpgbmhpddgjccaaGreat

namespace Go.Proofs.YtpgbmhpddgjccaaGreat
open Go.RowKit Go.ChangeShapes Go.WideShapes Go.ChangeAt Go.Deep Go.Joins
section
variable {H : Type} {enc : TypeId × Value → H} {w : World} {base : Nat} {spare : Nat → Bool} {held : Bool}
set_option maxRecDepth 100000 in
theorem opened_net {r0 : Reach} {b0 : Nat} {v : Value} {d : DataW H} {p : List MemPlace} (hv : Value.okWide Tryz.prog w r0 b0 34 v) (h : DataW.Trod enc Tryz.prog w base spare held 34 v d p) :
    ∃ (A1 A2 : Option Addr) (n1 c1 n2 c2 : Nat) (ns : List Node) (ps : List Pipe), v = .agg #[.slice A1 n1 c1, .slice A2 n2 c2] ∧ SliceOf w 3 Node.cells A1 n1 c1 ns ∧ SliceOf w 5 Pipe.cells A2 n2 c2 ps ∧ Named0 ns := by
  obtain ⟨cs, rfl, hsz⟩ := okWide_struct Tryz.underlying34 hv
  have hC : Tryz.prog.cellsOf 34 = 2 := by kernel_rfl
  obtain ⟨l⟩ := cs
  match l, hsz.trans hC with
  | [v0, v1], _ =>
    obtain ⟨fuel, hf⟩ := h
    obtain ⟨A1, A2, n1, c1, n2, c2, ns, ps, rfl, rfl, s1, s2, hnm⟩ := open_net hf
    exact ⟨A1, A2, n1, c1, n2, c2, ns, ps, rfl, s1, s2, hnm⟩
set_option maxRecDepth 100000 in
theorem opened_book {r0 : Reach} {b0 : Nat} {v : Value} {d : DataW H} {p : List MemPlace} (hv : Value.okWide Tryz.prog w r0 b0 35 v) (h : DataW.Trod enc Tryz.prog w base spare held 35 v d p) :
    ∃ (A : Option Addr) (n c : Nat) (xs : List Contract), v = .slice A n c ∧ SliceOf w 8 Contract.cells A n c xs := by
  obtain ⟨a0, len, cap, rfl⟩ := okWide_slice Tryz.underlying35 hv
  obtain ⟨fuel, hf⟩ := h
  exact open_contracts hf
set_option maxRecDepth 100000 in
theorem opened_noms {r0 : Reach} {b0 : Nat} {v : Value} {d : DataW H} {p : List MemPlace} (hv : Value.okWide Tryz.prog w r0 b0 36 v) (h : DataW.Trod enc Tryz.prog w base spare held 36 v d p) :
    ∃ (A : Option Addr) (n c : Nat) (xs : List Nomination), v = .slice A n c ∧ SliceOf w 4 Nomination.cells A n c xs := by
  obtain ⟨a0, len, cap, rfl⟩ := okWide_slice Tryz.underlying36 hv
  obtain ⟨fuel, hf⟩ := h
  obtain ⟨A, n, c, xs, e, hl, s⟩ := open_flat Tryz.underlying36 Tryz.underlying152 (by kernel_rfl) (by kernel_rfl) (by kernel_rfl) (by decide) hf
  exact ⟨A, n, c, _, e, SliceOf.map s nomOf (by
    intro zs hzs
    match zs, hl zs hzs with
    | [a, b, c, d], _ => rfl)⟩
set_option maxRecDepth 100000 in
theorem opened_reads {r0 : Reach} {b0 : Nat} {v : Value} {d : DataW H} {p : List MemPlace} (hv : Value.okWide Tryz.prog w r0 b0 102 v) (h : DataW.Trod enc Tryz.prog w base spare held 102 v d p) :
    ∃ (A : Option Addr) (n c : Nat) (xs : List Reading), v = .slice A n c ∧ SliceOf w 2 Reading.cells A n c xs := by
  obtain ⟨a0, len, cap, rfl⟩ := okWide_slice Tryz.underlying102 hv
  obtain ⟨fuel, hf⟩ := h
  exact open_reads hf
set_option maxRecDepth 100000 in
theorem opened_readss {r0 : Reach} {b0 : Nat} {v : Value} {d : DataW H} {p : List MemPlace} (hv : Value.okWide Tryz.prog w r0 b0 88 v) (h : DataW.Trod enc Tryz.prog w base spare held 88 v d p) :
    ∃ (A : Option Addr) (n c : Nat) (rs : List RS), v = .slice A n c ∧ SliceOf w 1 RS.cells A n c rs ∧ ∀ q ∈ rs, SliceOf w 2 Reading.cells q.A q.n q.c q.xs := by
  obtain ⟨a0, len, cap, rfl⟩ := okWide_slice Tryz.underlying88 hv
  obtain ⟨fuel, hf⟩ := h
  exact open_readss hf
end
end Go.Proofs.YtpgbmhpddgjccaaGreat

namespace Go.Proofs.YtpgbmhpddgjccaaGreat
open Go.RowKit Go.ChangeShapes Go.WideShapes Go.ChangeAt Go.Deep Go.Joins
theorem own : ownKnob Tryz.prog.godebug = none := by kernel_rfl
theorem laidOut : laidOutB Tryz.prog = true := by kernel_rfl
end Go.Proofs.YtpgbmhpddgjccaaGreat

namespace Go.Proofs.YtpgbmhpddgjccaaGreat
open Go.RowKit Go.ChangeShapes Go.WideShapes Go.ChangeAt Go.Deep Go.Joins
def roomOk (r : Room) : Bool := roomB r.ns.length r
def RoomLen (r : Room) : Prop := r.ns.length ≤ 1048576 ∧ Named r.ns ∧ r.ps.length ≤ 1048576 ∧ r.xs.length ≤ 1048576 ∧ r.L.length ≤ 1048576 ∧ r.rs.length ≤ 1048576 ∧ (∀ q ∈ r.rs, q.xs.length ≤ 1048576) ∧ ((r.rs.map RS.xs).map List.length).sum ≤ 1048576
section
variable {w w' : World} {A1 A2 A3 A4 A5 : Option Addr} {n1 c1 n2 c2 n3 c3 n4 c4 n5 c5 : Nat} {r r' : Room}
theorem RoomAt.roomLen (h : RoomAt w A1 A2 A3 A4 A5 n1 c1 n2 c2 n3 c3 n4 c4 n5 c5 r) (hz : RoomSz r n1 n2 n3 n4 n5) : RoomLen r :=
  ⟨h.s1.len ▸ hz.n1, hz.nm, h.s2.len ▸ hz.n2, h.s3.len ▸ hz.n3, h.s4.len ▸ hz.n4, h.s5.len ▸ hz.n5, fun q hq => (h.s6 q hq).len ▸ hz.n6 q hq, by
    have : (r.rs.map RS.xs).map List.length = r.rs.map RS.n := by rw [List.map_map]; exact List.map_congr_left (fun q hq => (h.s6 q hq).len.symm)
    rw [this]; exact hz.n7⟩
theorem RoomLen.like (h : RoomLen r) (hl : r'.Like r) : RoomLen r' := by
  obtain ⟨h1, h2, h3, h4, h5⟩ := hl
  obtain ⟨k1, k2, k3, k4, k5, k6, k7, k8⟩ := h
  have hlen := congrArg List.length h5
  simp at hlen
  refine ⟨by rw [h1]; exact k1, by rw [h1]; exact k2, by rw [h2]; exact k3, by rw [h3]; exact k4, by rw [h4]; exact k5, by rw [hlen]; exact k6, fun q hq => ?_, by rw [h5]; exact k8⟩
  have : q.xs ∈ r.rs.map RS.xs := by rw [← h5]; exact List.mem_map_of_mem hq
  obtain ⟨q', hq', he⟩ := List.mem_map.1 this
  rw [← he]; exact k7 q' hq'
theorem RoomAt.ok (h : RoomAt w A1 A2 A3 A4 A5 n1 c1 n2 c2 n3 c3 n4 c4 n5 c5 r') (hl : r'.Like r) : roomB n1 r' = roomOk r := by
  unfold roomOk
  rw [h.s1.len, hl.1, roomB_like hl]
end
/-- a copy, as it is read -/
def RoomOf (r : Room) (w : World) (e : Ending) (w' : World) : Prop := ∃ (A1 A2 A3 A4 A5 : Option Addr) (n1 c1 n2 c2 n3 c3 n4 c4 n5 c5 : Nat) (r' : Room), e = .returned (.agg #[.slice A1 n1 c1, .slice A2 n2 c2, .slice A3 n3 c3, .slice A4 n4 c4, .slice A5 n5 c5]) ∧ RoomAt w' A1 A2 A3 A4 A5 n1 c1 n2 c2 n3 c3 n4 c4 n5 c5 r' ∧ r'.Like r ∧ Ext w w'
theorem CopiedRoom.of {r : Room} {w w' : World} {e : Ending} (hl : RoomLen r) (h : CopiedRoom r w e w') : RoomOf r w e w' := by
  obtain ⟨g1, g2, g3, g4, g5, rs', rfl, _, _, _, _, _, r1, r2, r3, r4, r5, hm, ho, _, hx⟩ := h
  obtain ⟨k1, _, k2, k3, k4, k5, _⟩ := hl
  have hlen := congrArg List.length hm
  simp at hlen
  exact ⟨_, _, _, _, _, _, _, _, _, _, _, _, _, _, _, ⟨r.ns, r.ps, r.xs, r.L, rs'⟩, rfl, ⟨r1.slice node_len rfl (by omega), r2.slice pipe_len rfl (by omega), r3.slice contract_len rfl (by omega), r4.slice nomination_len rfl (by omega), r5.slice rs_len hlen.symm (by omega), fun q hq => (ho q hq).slice⟩, ⟨rfl, rfl, rfl, rfl, hm⟩, hx⟩
theorem hourR_like {r r' : Room} {n1 : Int} (h : roomB n1 r' = roomOk r) (hl : r'.Like r) : hourR n1 r' = hourR r.ns.length r := by
  have hlen := congrArg List.length hl.2.2.2.2
  simp at hlen
  unfold hourR
  rw [h, hlen]; rfl
end Go.Proofs.YtpgbmhpddgjccaaGreat

namespace Go.Proofs.YtpgbmhpddgjccaaGreat
open Go.RowKit
def mtGo (k : Nat) (out : ByteArray) : ByteArray := if _h : k = 0 then out else mtGo (k / 10) (⟨#[48 + UInt8.ofNat (k % 10)]⟩ ++ out)
termination_by k
decreasing_by omega
theorem mt_step {k : Nat} {out : ByteArray} (h : 0 < k) : mtGo k out = mtGo (k / 10) (⟨#[48 + UInt8.ofNat (k % 10)]⟩ ++ out) := by
  conv => lhs; unfold mtGo
  rw [dif_neg (by omega)]
theorem mt_end (out : ByteArray) : mtGo 0 out = out := by
  unfold mtGo
  rw [dif_pos rfl]
def mtext (k : Int) : ByteArray := if k ≤ 0 then ⟨#[109, 48]⟩ else ⟨#[109]⟩ ++ mtGo k.toNat ByteArray.empty
theorem digit_conv (W : World) (m : Nat) (z : Int) (hz : z = (m : Int)) (hm : m < 10) : (convert 22 9 (.slice (some ⟨W.heap.size, 0, none⟩) 1 1)).run Tryz.prog (W.alloc (.cells #[.int .u8 (48 + z)] 5)) = .ok (.string ⟨#[48 + UInt8.ofNat m]⟩) (W.alloc (.cells #[.int .u8 (48 + z)] 5)) := by
  have h := run_convert_bytes_back (P := Tryz.prog) (W.alloc (.cells #[.int .u8 (48 + z)] 5)) 22 9 5 ⟨W.heap.size, 0, none⟩ 1 [48 + UInt8.ofNat m] Tryz.underlying22 Tryz.underlying5 Tryz.underlying9 (fun j hj => by
    obtain rfl : j = 0 := by simp at hj; omega
    have : (Addr.add ⟨W.heap.size, 0, none⟩ 0) = ⟨W.heap.size, 0, none⟩ := rfl
    rw [this, World.cell?_alloc_mark]
    subst hz
    simp
    omega)
  exact h
set_option maxRecDepth 8000 in
theorem c_markText (k : Int) (w : World) (hk : k ≤ 1000000000000000) :
    Calls Tryz.prog 178 #[.int .i64 k] w (Ret (.string (mtext k)) w) := by
  by_cases h0 : k ≤ 0
  · have HR := hide (show mtext k = ⟨#[109, 48]⟩ by unfold mtext; rw [if_pos h0])
    go_enter Tryz.func178, Tryz.ntmps178
    go_wp2_with fail
    go_ret
    rw [HR.out]
    exact ⟨rfl, Ext.refl _⟩
  · obtain ⟨K, rfl⟩ : ∃ K : Nat, k = K := ⟨k.toNat, by omega⟩
    have HR := hide (show mtext K = ⟨#[109]⟩ ++ mtGo K ByteArray.empty by unfold mtext; rw [if_neg h0]; rfl)
    go_enter Tryz.func178, Tryz.ntmps178
    go_wp2_with fail
    go_loopw [0, 3] (fun i s wr => ∃ (j : Nat) (o : ByteArray), j ≤ 1000000000000000 ∧ i = .int .i64 j ∧ s = .string o ∧ o.size + j ≤ 1000000000000000 ∧ Hid (mtGo j o = mtGo K ByteArray.empty) ∧ Ext w wr) (fun i _ _ => (intOf i).toNat)
    case atStart => exact ⟨K, _, by omega, rfl, rfl, by show 0 + K ≤ _; omega, hide rfl, Ext.refl _⟩
    case round =>
      obtain ⟨j, o, hj, rfl, rfl, hos, HJ, hx⟩ := hrel
      by_cases hlt : 0 < j
      · have e1 : (j : Int).tmod 10 = (j : Int) % 10 := Int.tmod_eq_emod_of_nonneg (by omega)
        have e2 : (j : Int).tdiv 10 = (j : Int) / 10 := Int.tdiv_eq_ediv_of_nonneg (by omega)
        have e3 : IntKind.i64.wrap (48 + (j : Int) % 10) = 48 + (j : Int) % 10 := IntWalk.i64_in _ (by omega)
        have e4 : IntKind.u8.wrap (48 + (j : Int) % 10) = 48 + (j : Int) % 10 := by simp [IntKind.wrap, IntKind.signed, IntKind.bits]; omega
        have hcv := digit_conv wr (j % 10) ((j : Int) % 10) (by omega) (by omega)
        have hsz : ¬ 9223372036854775807 < 1 + o.size := by omega
        go_wp2_with fail
        go_roundw
        case rel => exact ⟨j / 10, _, by omega, by simp, rfl, by rw [ByteArray.size_append]; show 1 + o.size + j / 10 ≤ _; omega, hide (by rw [← HJ.out, mt_step hlt]), hx.and_alloc _⟩
        case measure => simp [intOf]; omega
      · obtain rfl : j = 0 := by omega
        have hsz : ¬ 9223372036854775807 < 1 + o.size := by omega
        have HE := hide (show o = mtGo K ByteArray.empty by rw [← HJ.out, mt_end])
        go_wp2_with fail
        go_ret
        rw [HR.out, ← HE.out]
        exact ⟨rfl, hx⟩
end Go.Proofs.YtpgbmhpddgjccaaGreat

namespace Go.Proofs.YtpgbmhpddgjccaaGreat
open Go.RowKit

/-- only blocks of S have turned -/
structure Turn (S : Nat → Prop) (w w' : World) : Prop where
  os : w'.os = w.os
  tape : w'.tape = w.tape
  output : w'.output = w.output
  size : w.heap.size ≤ w'.heap.size
  block : ∀ k, k < w.heap.size → ¬ S k → w'.heap[k]? = w.heap[k]?
section
variable {S S' : Nat → Prop} {w w' w'' : World}
theorem Turn.of_ext (h : Ext w w') : Turn S w w' := ⟨h.os, h.tape, h.output, h.size, fun k hk _ => h.block k hk⟩
theorem Turn.refl (w : World) : Turn S w w := Turn.of_ext (Ext.refl _)
theorem Turn.of_only {g : Nat} (h : Only g w w') (hg : g < w.heap.size → S g) : Turn S w w' :=
  ⟨h.os, h.tape, h.output, h.size, fun k hk hne => h.block k hk (by intro e; simp at e; subst e; exact hne (hg hk))⟩
theorem Turn.trans (h : Turn S w w') (k : Turn S w' w'') : Turn S w w'' :=
  ⟨k.os.trans h.os, k.tape.trans h.tape, k.output.trans h.output, Nat.le_trans h.size k.size, fun i hi hne => (k.block i (Nat.lt_of_lt_of_le hi h.size) hne).trans (h.block i hi hne)⟩
theorem Turn.mono (h : Turn S w w') (hs : ∀ k, S k → S' k) : Turn S' w w' := ⟨h.os, h.tape, h.output, h.size, fun k hk hne => h.block k hk (fun h' => hne (hs k h'))⟩
theorem Ext.turn {w0 : World} (h : Ext w0 w) (k : Turn S w w') (hs : ∀ b, S b → w0.heap.size ≤ b) : Ext w0 w' :=
  ⟨k.os.trans h.os, k.tape.trans h.tape, k.output.trans h.output, Nat.le_trans h.size k.size, fun i hi => (k.block i (Nat.lt_of_lt_of_le hi h.size) (fun h' => by have := hs i h'; omega)).trans (h.block i hi)⟩
theorem Turn.cell (h : Turn S w w') {b o : Nat} (hb : b < w.heap.size) (hne : ¬ S b) : w'.cell? ⟨b, o, none⟩ = w.cell? ⟨b, o, none⟩ := World.cell?_of_block (w := w) (h.block b hb hne)
theorem Row.turn {t : TypeId} {cs : List Value} {g : Nat} (h : Row w g t cs) (k : Turn S w w') (hne : ¬ S g) : Row w' g t cs := (k.block g h.lt hne).trans h
end
/-- the block of a slice that is not empty -/
def blkOf (A : Option Addr) (n : Nat) : Option Nat := if n = 0 then none else A.map Addr.block
/-- a slice of the call's own, by its address -/
def OwnA {α : Type} (w : World) (t : TypeId) (f : α → List Value) (A : Option Addr) (n c : Nat) (xs : List α) : Prop :=
  n = xs.length ∧ n ≤ c ∧ c ≤ 9223372036854775807 ∧ (0 < n → ∃ g, A = some ⟨g, 0, none⟩ ∧ ∃ rest, Row w g t (xs.flatMap f ++ rest))
section
variable {α : Type} {S : Nat → Prop} {w w' : World} {t : TypeId} {f : α → List Value} {size : Nat} {A : Option Addr} {n c g : Nat} {xs : List α}
theorem OwnS.toA (h : OwnS w g t f A n xs) (hc : n ≤ c) (hm : c ≤ 9223372036854775807) : OwnA w t f A n c xs := ⟨h.1, hc, hm, fun hn => ⟨g, h.2 hn⟩⟩
theorem OwnS.blk (h : OwnS w g t f A n xs) {b : Nat} (hb : blkOf A n = some b) : b = g ∧ 0 < n := by
  unfold blkOf at hb
  split at hb
  · cases hb
  · have hn : 0 < n := by omega
    rw [(h.2 hn).1] at hb
    simp at hb
    exact ⟨hb.symm, hn⟩
theorem RowOf.toA (h : RowOf w g t f xs) (hn : n = xs.length) (hc : n ≤ c) (hm : c ≤ 9223372036854775807) : OwnA w t f (some ⟨g, 0, none⟩) n c xs := by
  subst hn
  exact (OwnS.of_row h).toA hc hm
theorem OwnA.ext (h : OwnA w t f A n c xs) (hx : Ext w w') : OwnA w' t f A n c xs := ⟨h.1, h.2.1, h.2.2.1, fun hn => let ⟨g, hA, r, hr⟩ := h.2.2.2 hn; ⟨g, hA, r, hr.ext hx⟩⟩
theorem OwnA.turn (h : OwnA w t f A n c xs) (k : Turn S w w') (hne : ∀ b, blkOf A n = some b → ¬ S b) : OwnA w' t f A n c xs :=
  ⟨h.1, h.2.1, h.2.2.1, fun hn => let ⟨g, hA, r, hr⟩ := h.2.2.2 hn; ⟨g, hA, r, hr.turn k (hne g (by unfold blkOf; rw [if_neg (by omega), hA]; rfl))⟩⟩
theorem OwnA.own (h : OwnA w t f A n c xs) : ∃ g, OwnS w g t f A n xs ∧ (g < w.heap.size → blkOf A n = some g) := by
  by_cases hn : 0 < n
  · obtain ⟨g, hA, r, hr⟩ := h.2.2.2 hn
    exact ⟨g, ⟨h.1, fun _ => ⟨hA, r, hr⟩⟩, fun _ => by unfold blkOf; rw [if_neg (by omega), hA]; rfl⟩
  · exact ⟨w.heap.size, ⟨h.1, fun h0 => absurd h0 hn⟩, fun h0 => absurd h0 (Nat.lt_irrefl _)⟩
theorem OwnA.slice (h : OwnA w t f A n c xs) (hf : ∀ x, (f x).length = size) : SliceOf w size f A n c xs := by
  obtain ⟨g, ho, _⟩ := h.own
  exact ho.slice hf h.2.1 h.2.2.1
theorem OwnA.lt (h : OwnA w t f A n c xs) {b : Nat} (hb : blkOf A n = some b) : b < w.heap.size := by
  obtain ⟨g, ho, _⟩ := h.own
  obtain ⟨rfl, hn⟩ := ho.blk hb
  exact ho.lt hn
theorem SliceOf.turn (h : SliceOf w size f A n c xs) (k : Turn S w w') (hne : ∀ b, blkOf A n = some b → ¬ S b) : SliceOf w' size f A n c xs := by
  obtain ⟨h1, h2, h3, h4⟩ := h
  refine ⟨h1, h2, h3, fun hn => ?_⟩
  obtain ⟨b, off, hA, hb, hc⟩ := h4 hn
  exact ⟨b, off, hA, Nat.lt_of_lt_of_le hb k.size, fun i x hx j u hu => (k.cell hb (hne b (by unfold blkOf; rw [if_neg (by omega), hA]; rfl))).trans (hc i x hx j u hu)⟩
theorem SliceOf.blk (h : SliceOf w size f A n c xs) {b : Nat} (hb : blkOf A n = some b) : b < w.heap.size := by
  unfold blkOf at hb
  split at hb
  · cases hb
  · obtain ⟨b', off, hA, hlt, _⟩ := h.2.2.2 (by omega)
    rw [hA] at hb
    simp at hb
    omega
end
/-- blocks that are apart -/
def SepL (l : List (Option Nat)) : Prop := ∀ (i j b : Nat), i ≠ j → l[i]? = some (some b) → l[j]? ≠ some (some b)
end Go.Proofs.YtpgbmhpddgjccaaGreat
