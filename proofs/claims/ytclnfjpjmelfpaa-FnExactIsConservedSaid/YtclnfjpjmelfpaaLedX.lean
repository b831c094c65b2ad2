


/-
  The helpers of the laws on settlements.
-/
import Derived.Test.YtclnfjpjmelfpaaLedW
import Derived.Test.YtclnfjpjmelfpaaLedF
namespace Go.Proofs.Ytclnfjpjmelfpaa
open Go.RowKit


/-- what is left of the size that a law looks at -/
def szTot (t : Int) : Int := if (1048576 : Int) < t then -1 else 1048576 - t
set_option maxHeartbeats 1000000 in
theorem c_szSettlement (A0 A1 A2 A3 A4 : Option Addr) (n0 c0 n1 c1 n2 c2 n3 c3 n4 c4 : Nat) (sc : List Int) (os : List Order) (got chg : List Int) (ps : List Posting) (w : World) (h0 : SliceOf w 1 intC A0 n0 c0 sc) (h1 : SliceOf w 4 Order.cells A1 n1 c1 os) (h2 : SliceOf w 1 intC A2 n2 c2 got) (h3 : SliceOf w 1 intC A3 n3 c3 chg) (h4 : SliceOf w 4 Posting.cells A4 n4 c4 ps) :
    Calls Try.prog 48 #[.agg #[.slice A0 n0 c0, .slice A1 n1 c1, .slice A2 n2 c2, .slice A3 n3 c3, .slice A4 n4 c4], .int .i64 1048576] w (Ret (.int .i64 (szTot ((n0 : Int) + n1 + n2 + n3 + n4))) w) := by
  go_enter Try.func48, Try.ntmps48
  go_wp2_with fail
  refine (c_szInt64S A0 n0 c0 _ _ h0.cap h0.max (by omega) (by omega)).mono ?_
  rintro e w' ⟨rfl, rfl⟩
  by_cases k0 : (1048576 : Int) < (n0 : Int)
  · rw [if_pos k0]
    go_wp2_with fail
    go_ret
    exact Ret.int (by unfold szTot; rw [if_pos (by omega)]) (Ext.alloc _ _)
  rw [if_neg k0]
  go_wp2_with fail
  refine (c_szOrderS A1 n1 c1 _ _ h1.cap h1.max (by omega) (by omega)).mono ?_
  rintro e w' ⟨rfl, rfl⟩
  by_cases k1 : (1048576 : Int) - n0 < (n1 : Int)
  · rw [if_pos k1]
    go_wp2_with fail
    go_ret
    exact Ret.int (by unfold szTot; rw [if_pos (by omega)]) (Ext.alloc _ _)
  rw [if_neg k1]
  go_wp2_with fail
  refine (c_szInt64S A2 n2 c2 _ _ h2.cap h2.max (by omega) (by omega)).mono ?_
  rintro e w' ⟨rfl, rfl⟩
  by_cases k2 : (1048576 : Int) - n0 - n1 < (n2 : Int)
  · rw [if_pos k2]
    go_wp2_with fail
    go_ret
    exact Ret.int (by unfold szTot; rw [if_pos (by omega)]) (Ext.alloc _ _)
  rw [if_neg k2]
  go_wp2_with fail
  refine (c_szInt64S A3 n3 c3 _ _ h3.cap h3.max (by omega) (by omega)).mono ?_
  rintro e w' ⟨rfl, rfl⟩
  by_cases k3 : (1048576 : Int) - n0 - n1 - n2 < (n3 : Int)
  · rw [if_pos k3]
    go_wp2_with fail
    go_ret
    exact Ret.int (by unfold szTot; rw [if_pos (by omega)]) (Ext.alloc _ _)
  rw [if_neg k3]
  go_wp2_with fail
  refine (c_szPostingS A4 n4 c4 _ _ h4.cap h4.max (by omega) (by omega)).mono ?_
  rintro e w' ⟨rfl, rfl⟩
  by_cases k4 : (1048576 : Int) - n0 - n1 - n2 - n3 < (n4 : Int)
  · rw [if_pos k4]
    go_wp2_with fail
    go_ret
    exact Ret.int (by unfold szTot; rw [if_pos (by omega)]) (Ext.alloc _ _)
  rw [if_neg k4]
  go_wp2_with fail
  go_ret
  exact Ret.int (by unfold szTot; rw [if_neg (by omega)]; omega) (Ext.alloc _ _)

/-- a new copy of a settlement -/
def NewSettlement (sc : List Int) (os : List Order) (got chg : List Int) (ps : List Posting) (w : World) (e : Ending) (w' : World) : Prop :=
  ∃ g0 g1 g2 g3 g4, e = .returned (.agg #[.slice (some ⟨g0, 0, none⟩) sc.length sc.length, .slice (some ⟨g1, 0, none⟩) os.length os.length, .slice (some ⟨g2, 0, none⟩) got.length got.length, .slice (some ⟨g3, 0, none⟩) chg.length chg.length, .slice (some ⟨g4, 0, none⟩) ps.length ps.length]) ∧
    RowOf w' g0 2 intC sc ∧ RowOf w' g1 91 Order.cells os ∧ RowOf w' g2 2 intC got ∧ RowOf w' g3 2 intC chg ∧ RowOf w' g4 25 Posting.cells ps ∧ Ext w w'

set_option maxHeartbeats 2000000 in
theorem c_toSettlement (A0 A1 A2 A3 A4 : Option Addr) (n0 c0 n1 c1 n2 c2 n3 c3 n4 c4 : Nat) (sc : List Int) (os : List Order) (got chg : List Int) (ps : List Posting) (w : World) (h0 : SliceOf w 1 intC A0 n0 c0 sc) (h1 : SliceOf w 4 Order.cells A1 n1 c1 os) (h2 : SliceOf w 1 intC A2 n2 c2 got) (h3 : SliceOf w 1 intC A3 n3 c3 chg) (h4 : SliceOf w 4 Posting.cells A4 n4 c4 ps) (hn : n0 ≤ 1048576 ∧ n1 ≤ 1048576 ∧ n2 ≤ 1048576 ∧ n3 ≤ 1048576 ∧ n4 ≤ 1048576) :
    Calls Try.prog 50 #[.agg #[.slice A0 n0 c0, .slice A1 n1 c1, .slice A2 n2 c2, .slice A3 n3 c3, .slice A4 n4 c4]] w (NewSettlement sc os got chg ps w) := by
  obtain ⟨m0, m1, m2, m3, m4⟩ := hn
  go_enter Try.func50, Try.ntmps50
  go_wp2_with fail
  refine (c_toInt64S A0 n0 c0 sc _ (h0.ext (((Ext.alloc _ _).and_alloc _).and_alloc _)) m0).mono ?_
  rintro e w1 ⟨g1, rfl, hg1, r1, hx1⟩
  have x1 : Ext w w1 := (((Ext.alloc _ _).and_alloc _).and_alloc _).trans hx1
  have z1a : w.heap.size < w1.heap.size := by have := hx1.size; simp at this; omega
  have z1b : w.heap.size + 1 < w1.heap.size := by have := hx1.size; simp at this; omega
  have z1c : w.heap.size + 1 + 1 < w1.heap.size := by have := hx1.size; simp at this; omega
  have hcl1 := hx1.cell
  have hfr1 := hx1.frozen
  simp at hg1
  go_wp2_with fail
  refine (c_toOrderS A1 n1 c1 os _ (h1.ext (x1.setCell (by first | (simp; done) | (simp; omega) | omega) _)) m1).mono ?_
  rintro e w2 ⟨g2, rfl, hg2, r2, hx2⟩
  have x2 : Ext w w2 := (x1.setCell (by first | (simp; done) | (simp; omega) | omega) _).trans hx2
  have r1a := RowOf.ext (RowOf.far r1 (by first | (simp; done) | (simp; omega) | omega) _) hx2
  have z2a : w.heap.size < w2.heap.size := by have := hx2.size; simp at this; omega
  have z2b : w.heap.size + 1 < w2.heap.size := by have := hx2.size; simp at this; omega
  have z2c : w.heap.size + 1 + 1 < w2.heap.size := by have := hx2.size; simp at this; omega
  have hcl2 := hx2.cell
  have hfr2 := hx2.frozen
  simp at hg2
  go_wp2_with fail
  refine (c_toInt64S A2 n2 c2 got _ (h2.ext (x2.setCell (by first | (simp; done) | (simp; omega) | omega) _)) m2).mono ?_
  rintro e w3 ⟨g3, rfl, hg3, r3, hx3⟩
  have x3 : Ext w w3 := (x2.setCell (by first | (simp; done) | (simp; omega) | omega) _).trans hx3
  have r1b := RowOf.ext (RowOf.far r1a (by first | (simp; done) | (simp; omega) | omega) _) hx3
  have r2b := RowOf.ext (RowOf.far r2 (by first | (simp; done) | (simp; omega) | omega) _) hx3
  have z3a : w.heap.size < w3.heap.size := by have := hx3.size; simp at this; omega
  have z3b : w.heap.size + 1 < w3.heap.size := by have := hx3.size; simp at this; omega
  have z3c : w.heap.size + 1 + 1 < w3.heap.size := by have := hx3.size; simp at this; omega
  have hcl3 := hx3.cell
  have hfr3 := hx3.frozen
  simp at hg3
  go_wp2_with fail
  refine (c_toInt64S A3 n3 c3 chg _ (h3.ext (x3.setCell (by first | (simp; done) | (simp; omega) | omega) _)) m3).mono ?_
  rintro e w4 ⟨g4, rfl, hg4, r4, hx4⟩
  have x4 : Ext w w4 := (x3.setCell (by first | (simp; done) | (simp; omega) | omega) _).trans hx4
  have r1c := RowOf.ext (RowOf.far r1b (by first | (simp; done) | (simp; omega) | omega) _) hx4
  have r2c := RowOf.ext (RowOf.far r2b (by first | (simp; done) | (simp; omega) | omega) _) hx4
  have r3c := RowOf.ext (RowOf.far r3 (by first | (simp; done) | (simp; omega) | omega) _) hx4
  have z4a : w.heap.size < w4.heap.size := by have := hx4.size; simp at this; omega
  have z4b : w.heap.size + 1 < w4.heap.size := by have := hx4.size; simp at this; omega
  have z4c : w.heap.size + 1 + 1 < w4.heap.size := by have := hx4.size; simp at this; omega
  have hcl4 := hx4.cell
  have hfr4 := hx4.frozen
  simp at hg4
  go_wp2_with fail
  refine (c_toPostingS A4 n4 c4 ps _ (h4.ext (x4.setCell (by first | (simp; done) | (simp; omega) | omega) _)) m4).mono ?_
  rintro e w5 ⟨g5, rfl, hg5, r5, hx5⟩
  have x5 : Ext w w5 := (x4.setCell (by first | (simp; done) | (simp; omega) | omega) _).trans hx5
  have r1d := RowOf.ext (RowOf.far r1c (by first | (simp; done) | (simp; omega) | omega) _) hx5
  have r2d := RowOf.ext (RowOf.far r2c (by first | (simp; done) | (simp; omega) | omega) _) hx5
  have r3d := RowOf.ext (RowOf.far r3c (by first | (simp; done) | (simp; omega) | omega) _) hx5
  have r4d := RowOf.ext (RowOf.far r4 (by first | (simp; done) | (simp; omega) | omega) _) hx5
  have z5a : w.heap.size < w5.heap.size := by have := hx5.size; simp at this; omega
  have z5b : w.heap.size + 1 < w5.heap.size := by have := hx5.size; simp at this; omega
  have z5c : w.heap.size + 1 + 1 < w5.heap.size := by have := hx5.size; simp at this; omega
  have hcl5 := hx5.cell
  have hfr5 := hx5.frozen
  simp at hg5
  go_wp2
  refine bodyPost_ret (v := .agg #[.slice (some ⟨g1, 0, none⟩) sc.length sc.length, .slice (some ⟨g2, 0, none⟩) os.length os.length, .slice (some ⟨g3, 0, none⟩) got.length got.length, .slice (some ⟨g4, 0, none⟩) chg.length chg.length, .slice (some ⟨g5, 0, none⟩) ps.length ps.length]) (by simp [results, Try.results50, go_sem, hcl5, hcl4, hcl3, hcl2, hcl1, z1b, z2b, z3b, z4b]) rfl ⟨g1, g2, g3, g4, g5, rfl, ?_, ?_, ?_, ?_, ?_, ?_⟩
  · repeat (refine RowOf.far ?_ (by first | (simp; done) | (simp; omega) | omega) _)
    exact r1d
  · repeat (refine RowOf.far ?_ (by first | (simp; done) | (simp; omega) | omega) _)
    exact r2d
  · repeat (refine RowOf.far ?_ (by first | (simp; done) | (simp; omega) | omega) _)
    exact r3d
  · repeat (refine RowOf.far ?_ (by first | (simp; done) | (simp; omega) | omega) _)
    exact r4d
  · repeat (refine RowOf.far ?_ (by first | (simp; done) | (simp; omega) | omega) _)
    exact r5
  · repeat (refine Ext.setCell ?_ (by first | (simp; done) | (simp; omega) | omega) _)
    exact x5

set_option maxHeartbeats 2000000 in
theorem c_eqSettlement (A0 A1 A2 A3 A4 : Option Addr) (n0 c0 n1 c1 n2 c2 n3 c3 n4 c4 : Nat) (sc : List Int) (os : List Order) (got chg : List Int) (ps : List Posting) (w : World) (B0 B1 B2 B3 B4 : Option Addr) (m0 d0 m1 d1 m2 d2 m3 d3 m4 d4 : Nat) (h0 : SliceOf w 1 intC A0 n0 c0 sc) (h1 : SliceOf w 4 Order.cells A1 n1 c1 os) (h2 : SliceOf w 1 intC A2 n2 c2 got) (h3 : SliceOf w 1 intC A3 n3 c3 chg) (h4 : SliceOf w 4 Posting.cells A4 n4 c4 ps)
    (i0 : SliceOf w 1 intC B0 m0 d0 sc) (i1 : SliceOf w 4 Order.cells B1 m1 d1 os) (i2 : SliceOf w 1 intC B2 m2 d2 got) (i3 : SliceOf w 1 intC B3 m3 d3 chg) (i4 : SliceOf w 4 Posting.cells B4 m4 d4 ps) :
    Calls Try.prog 52 #[.agg #[.slice A0 n0 c0, .slice A1 n1 c1, .slice A2 n2 c2, .slice A3 n3 c3, .slice A4 n4 c4], .agg #[.slice B0 m0 d0, .slice B1 m1 d1, .slice B2 m2 d2, .slice B3 m3 d3, .slice B4 m4 d4]] w (Ret (.bool true) w) := by
  go_enter Try.func52, Try.ntmps52
  go_wp2_with fail
  have x0 : Ext w ((w.alloc (.cells #[.slice A0 n0 c0, .slice A1 n1 c1, .slice A2 n2 c2, .slice A3 n3 c3, .slice A4 n4 c4] 61)).alloc (.cells #[.slice B0 m0 d0, .slice B1 m1 d1, .slice B2 m2 d2, .slice B3 m3 d3, .slice B4 m4 d4] 61)) := (Ext.alloc _ _).and_alloc _
  refine (c_eqInt64S _ _ _ _ _ _ _ _ (h0.ext x0) (i0.ext x0)).mono ?_
  rintro e w1 ⟨rfl, hx1⟩
  have hcl1 := hx1.cell
  go_wp2_with fail
  refine (c_eqOrderS _ _ _ _ _ _ _ _ (h1.ext (x0.trans hx1)) (i1.ext (x0.trans hx1))).mono ?_
  rintro e w2 ⟨rfl, hx2⟩
  have hx12 := hx1.trans hx2
  have hcl2 := hx12.cell
  clear hcl1
  go_wp2_with fail
  refine (c_eqInt64S _ _ _ _ _ _ _ _ (h2.ext (x0.trans hx12)) (i2.ext (x0.trans hx12))).mono ?_
  rintro e w3 ⟨rfl, hx3⟩
  have hx13 := hx12.trans hx3
  have hcl3 := hx13.cell
  clear hcl2
  go_wp2_with fail
  refine (c_eqInt64S _ _ _ _ _ _ _ _ (h3.ext (x0.trans hx13)) (i3.ext (x0.trans hx13))).mono ?_
  rintro e w4 ⟨rfl, hx4⟩
  have hx14 := hx13.trans hx4
  have hcl4 := hx14.cell
  clear hcl3
  go_wp2_with fail
  refine (c_eqPostingS _ _ _ _ _ _ _ _ (h4.ext (x0.trans hx14)) (i4.ext (x0.trans hx14))).mono ?_
  rintro e w5 ⟨rfl, hx5⟩
  go_wp2_with fail
  go_ret
  exact Ret.bool rfl (x0.trans (hx14.trans hx5))

end Go.Proofs.Ytclnfjpjmelfpaa
