
/-
  The reference's draw of a posting.
-/
import Derived.Test.YtclnfjpjmelfpaaDrawF
import Derived.Test.YtclnfjpjmelfpaaOwnK
import Derived.Test.YtclnfjpjmelfpaaSchedC
import Derived.Test.YtclnfjpjmelfpaaLedA
namespace Go.Proofs.Ytclnfjpjmelfpaa
open Go.RowKit

theorem SrcAt.ext {w w' : World} {a n c : Nat} {A : Option Addr} (h : SrcAt w a A n c) (hx : Ext w w') : SrcAt w' a A n c :=
  let ⟨p, s, hr, r⟩ := h; ⟨p, s, hr.ext hx, r⟩
theorem SrcAt.only {w w' : World} {a g n c : Nat} {A : Option Addr} (h : SrcAt w a A n c) (hx : Only g w w') (hne : a ≠ g) : SrcAt w' a A n c :=
  let ⟨p, s, hr, r⟩ := h; ⟨p, s, hr.only hx hne, r⟩
theorem SrcAt.lt {w : World} {a n c : Nat} {A : Option Addr} (h : SrcAt w a A n c) : a < w.heap.size := let ⟨_, _, hr, _⟩ := h; hr.lt
theorem SrcAt.kept {w w' : World} {a n c base : Nat} {A : Option Addr} (h : SrcAt w a A n c) (hx : Kept base w w') (hb : a < base) : SrcAt w' a A n c :=
  let ⟨p, s, hr, r⟩ := h; ⟨p, s, hr.kept hx hb, r⟩
/-- some posting -/
def DrawnPost (a : Nat) (A : Option Addr) (n c : Nat) (w : World) (e : Ending) (w' : World) : Prop :=
  ∃ d k g m : Int, e = .returned (.agg #[.int .i64 d, .int .i64 k, .int .i64 g, .int .i64 m]) ∧ SrcAt w' a A n c ∧ Only a w w'
structure PSt (w0 w : World) (a : Nat) (A : Option Addr) (n c b3 : Nat) (x1 x2 x3 x4 : Int) (wr : World) : Prop where
  le0 : w0.heap.size ≤ a
  lt1 : a < w.heap.size
  lt2 : w.heap.size < b3
  size : b3 < wr.heap.size
  ext : Ext w0 wr
  src : SrcAt wr a A n c
  only : Only a w wr
  row2 : Row wr w.heap.size 25 [.int .i64 0, .int .i64 0, .int .i64 0, .int .i64 0]
  row3 : Row wr b3 25 [.int .i64 x1, .int .i64 x2, .int .i64 x3, .int .i64 x4]
section
variable {w0 w wr wr' : World} {a n c b3 : Nat} {A : Option Addr} {x1 x2 x3 x4 : Int}
theorem PSt.draw (h : PSt w0 w a A n c b3 x1 x2 x3 x4 wr) (ho : Only a wr wr') (hs : SrcAt wr' a A n c) : PSt w0 w a A n c b3 x1 x2 x3 x4 wr' :=
  ⟨h.le0, h.lt1, h.lt2, Nat.lt_of_lt_of_le h.size ho.size, h.ext.only ho h.le0, hs, h.only.trans ho, h.row2.only ho (by have := h.lt1; omega), h.row3.only ho (by have := h.lt1; have := h.lt2; omega)⟩
theorem PSt.more (h : PSt w0 w a A n c b3 x1 x2 x3 x4 wr) (hx : Ext wr wr') : PSt w0 w a A n c b3 x1 x2 x3 x4 wr' := h.draw (Only.of_ext hx a) (h.src.ext hx)
theorem PSt.set3 (h : PSt w0 w a A n c b3 x1 x2 x3 x4 wr) (i : Nat) (u : Value) {y1 y2 y3 y4 : Int} (he : [.int .i64 x1, .int .i64 x2, .int .i64 x3, .int .i64 x4].set i u = [.int .i64 y1, .int .i64 y2, .int .i64 y3, .int .i64 y4]) : PSt w0 w a A n c b3 y1 y2 y3 y4 (wr.setCell ⟨b3, i, none⟩ u) := by
  obtain ⟨l0, l1, l2, sz, ex, sr, on, r2, r3⟩ := h
  have ho : Only b3 wr (wr.setCell ⟨b3, i, none⟩ u) := (Only.refl b3 wr).setCell rfl u
  refine ⟨l0, l1, l2, Nat.lt_of_lt_of_le sz ho.size, ex.setCell (p := ⟨b3, i, none⟩) (by show w0.heap.size ≤ b3; omega) u, sr.only ho (by omega), ?_, r2.only ho (by omega), he ▸ r3.set_ i u⟩
  exact ⟨ho.os.trans on.os, ho.tape.trans on.tape, ho.output.trans on.output, Nat.le_trans on.size ho.size, fun k hk hne => (ho.block k (Nat.lt_of_lt_of_le hk on.size) (by simp; omega)).trans (on.block k hk hne)⟩
theorem PSt.fin (h : PSt w0 w a A n c b3 x1 x2 x3 x4 wr) : DrawnPost a A n c w (.returned (.agg #[.int .i64 x1, .int .i64 x2, .int .i64 x3, .int .i64 x4])) (putCells wr w.heap.size 0 [.int .i64 x1, .int .i64 x2, .int .i64 x3, .int .i64 x4]) := by
  obtain ⟨l0, l1, l2, sz, ex, sr, on, r2, r3⟩ := h
  have hk : Only w.heap.size wr (putCells wr w.heap.size 0 [.int .i64 x1, .int .i64 x2, .int .i64 x3, .int .i64 x4]) := (Only.refl _ _).put _ _
  refine ⟨x1, x2, x3, x4, rfl, sr.only hk (by omega), ?_⟩
  exact ⟨hk.os.trans on.os, hk.tape.trans on.tape, hk.output.trans on.output, Nat.le_trans on.size hk.size, fun k hk1 hne => (hk.block k (Nat.lt_of_lt_of_le hk1 on.size) (by simp; omega)).trans (on.block k hk1 hne)⟩
end

set_option maxHeartbeats 2000000 in
theorem c_l30DrawOne (a : Nat) (A : Option Addr) (n c : Nat) (bs : List Int) (w0 w : World) (hbs : SliceOf w0 1 byteC A n c bs) (hbd : ∀ z ∈ bs, 0 ≤ z ∧ z ≤ 255) (hx0 : Ext w0 w) (ha : w0.heap.size ≤ a) (hsrc : SrcAt w a A n c) (hn : n ≤ 1048576) :
    Calls Try.prog 67 #[.pointer (some ⟨a, 0, none⟩)] w (DrawnPost a A n c w) := by
  have nxt := fun (m : Int) (w : World) hx0 hsrc => c_l01Next a m A n c bs w0 w hbs hbd hx0 ha hsrc hn
  have NX := hide nxt
  clear nxt
  have hal := hsrc.lt
  go_enter Try.func67, Try.ntmps67
  go_wp2_with fail
  refine (NX.out 5 _ (hx0.and_alloc _) (hsrc.ext (Ext.alloc _ _)) (by omega) (by omega)).mono ?_
  rintro e w1 ⟨x1, rfl, hx1, hx2, hs1, ho1⟩
  have hE1 := (hx0.and_alloc _).only ho1 ha
  go_wp2_with fail
  refine (NX.out 100 _ hE1 hs1 (by omega) (by omega)).mono ?_
  rintro e w2 ⟨x2, rfl, hx3, hx4, hs2, ho2⟩
  have hE2 := hE1.only ho2 ha
  go_wp2_with fail
  refine (NX.out 3000 _ hE2 hs2 (by omega) (by omega)).mono ?_
  rintro e w3 ⟨x3, rfl, hx5, hx6, hs3, ho3⟩
  have hE3 := hE2.only ho3 ha
  have hR2 := ((Row.new w 25 [.int .i64 0, .int .i64 0, .int .i64 0, .int .i64 0]).only ho1 (by omega)).only ho2 (by omega) |>.only ho3 (by omega)
  have hO3 := ((((Only.of_ext (Ext.alloc w _) a).trans ho1).trans ho2).trans ho3)
  have hsz3 := hR2.lt
  have hD : PSt w0 w a A n c w3.heap.size x1 0 (x2 - 40) (x3 - 1000) (w3.alloc (.cells #[.int .i64 x1, .int .i64 0, .int .i64 (x2 - 40), .int .i64 (x3 - 1000)] 25)) :=
    ⟨ha, hal, hsz3, by simp, hE3.and_alloc _, hs3.ext (Ext.alloc _ _), hO3.trans (Only.of_ext (Ext.alloc _ _) _), hR2.alloc _, Row.new w3 _ _⟩
  clear hE1 hE2 hE3 hR2 hO3 ho1 ho2 ho3 hs1 hs2 hs3
  have k0 := hD.row3.cell 0
  have k1 := hD.row3.cell 1
  have k2 := hD.row3.cell 2
  have k3 := hD.row3.cell 3
  simp at k0 k1 k2 k3
  have hl3 := hD.row3.lt
  have e1 : IntKind.i64.wrap (x1 + 1) = x1 + 1 := IntWalk.i64_in _ (by omega)
  go_wp2_with fail
  refine wp_region_phC [(w3.heap.size, 0)] [([0, 1, 2, 3], 4), ([5, 6, 7], 8)] [] (by kernel_rfl) (by kernel_rfl) (by intro c a w d v h; cases d <;> exact h) ?_
  simp only [wpPhC, pickL, nthO]
  repeat (go_big_quiet_step (fail))
  refine wpQuiet_nil ?_
  clear e1
  go_wp2_with fail
  refine (NX.out 4 _ hD.ext.drew (hD.src.ext (Ext.refl _).drew) (by omega) (by omega)).mono ?_
  rintro e w4 ⟨x4, rfl, hx7, hx8, hs4, ho4⟩
  have hD4 := hD.draw ((Only.refl _ _).drew.trans ho4) hs4
  have hsb := (SameC.refl [(w3.heap.size, 0)] (w3.alloc (.cells #[.int .i64 x1, .int .i64 0, .int .i64 (x2 - 40), .int .i64 (x3 - 1000)] 25))).drew.trans (SameC.of_only ho4 (by simp; omega))
  have hz4 := ho4.size
  simp at hz4
  clear hD ho4 hs4 k0 k1 k2 k3
  go_wp2_with fail
  refine ⟨hsb, ?_⟩
  have e1 : IntKind.i64.wrap (x1 + 1 + x4) = x1 + 1 + x4 := IntWalk.i64_in _ (by omega)
  have e2 : (x1 + 1 + x4).tmod 5 = (x1 + 1 + x4) % 5 := Int.tmod_eq_emod_of_nonneg (by omega)
  repeat (go_big_quiet_step (fail))
  refine wpQuiet_nil ?_
  clear e1 e2
  generalize hZ : (x1 + 1 + x4) % 5 = Z
  have k0 := hD4.row3.cell 0
  have k1 := hD4.row3.cell 1
  have k2 := hD4.row3.cell 2
  have k3 := hD4.row3.cell 3
  simp at k0 k1 k2 k3
  have g0 := hD4.row3.frozen 0
  have g1 := hD4.row3.frozen 1
  have g2 := hD4.row3.frozen 2
  have g3 := hD4.row3.frozen 3
  have hl4 := hD4.row3.lt
  have hD5 := hD4.set3 1 (.int .i64 Z) rfl
  clear hZ hD4
  go_wp2_with fail
  refine ⟨hsb.setCell (by simp) _, wpQuiet_nil ?_⟩
  clear hsb k0 k1 k2 k3 g0 g1 g2 g3
  generalize hw5 : (w4.setCell ⟨w3.heap.size, 1, none⟩ (.int .i64 Z)) = wa at hD5
  have hDa := hD5
  clear hD5
  clear hw5 hl4 hz4 w4 hl3
  go_wp2_with fail
  refine (NX.out 60 _ hDa.ext hDa.src (by omega) (by omega)).mono ?_
  rintro e w5 ⟨x5, rfl, hx9, hx10, hs5, ho5⟩
  have hD5 := hDa.draw ho5 hs5
  clear hDa ho5 hs5
  have hsz5 := hD5.size
  have hxw : x5 = 0 ∨ x5 = 1 ∨ x5 = 2 ∨ x5 = 3 ∨ ((x5 == 0) = false ∧ (x5 == 1) = false ∧ (x5 == 2) = false ∧ (x5 == 3) = false) := by
    simp; omega
  rcases hxw with rfl | rfl | rfl | rfl | ⟨q0, q1, q2, q3⟩
  · have p0 := hD5.row3.cell 0
    have p1 := hD5.row3.cell 1
    have p2 := hD5.row3.cell 2
    have p3 := hD5.row3.cell 3
    simp at p0 p1 p2 p3
    have g0 := hD5.row3.frozen 0
    have g1 := hD5.row3.frozen 1
    have g2 := hD5.row3.frozen 2
    have g3 := hD5.row3.frozen 3
    have q0 := hD5.row2.cell 0
    have q1 := hD5.row2.cell 1
    have q2 := hD5.row2.cell 2
    have q3 := hD5.row2.cell 3
    simp at q0 q1 q2 q3
    have f0 := hD5.row2.frozen 0
    have f1 := hD5.row2.frozen 1
    have f2 := hD5.row2.frozen 2
    have f3 := hD5.row2.frozen 3
    have hl7 := hD5.row3.lt
    have hl2 := hD5.row2.lt
    have hD8 := hD5.set3 1 (.int .i64 x1) rfl
    have HF := hide hD8.fin
    clear hD8 hD5
    go_wp2_with fail
    refine bodyPost_ret (v := .agg #[.int .i64 x1, .int .i64 x1, .int .i64 (x2 - 40), .int .i64 (x3 - 1000)]) (by simp [results, Try.results67, go_sem, q0, q1, q2, q3]) rfl ?_
    exact HF.out
  · have hD6 := hD5.more (Ext.alloc w5 (.cells #[.int .i64 (-1), .int .i64 23, .int .i64 24] 2))
    go_wp2_with fail
    refine (NX.out 3 _ hD6.ext hD6.src (by omega) (by omega)).mono ?_
    rintro e w6 ⟨y, rfl, hy1, hy2, hs6, ho6⟩
    have hD7 := hD6.draw ho6 hs6
    have hR6 := (Row.new w5 2 [.int .i64 (-1), .int .i64 23, .int .i64 24]).only ho6 (by omega)
    obtain ⟨j, rfl⟩ := Int.eq_ofNat_of_zero_le hy1
    have hj : j < 3 := by omega
    obtain ⟨z, hz⟩ : ∃ z, w6.cell? ⟨w5.heap.size, j, none⟩ = some (.int .i64 z) := by
      rw [hR6.cell]; rcases (show j = 0 ∨ j = 1 ∨ j = 2 by omega) with rfl | rfl | rfl <;> exact ⟨_, rfl⟩
    have p0 := hD7.row3.cell 0
    have p1 := hD7.row3.cell 1
    have p2 := hD7.row3.cell 2
    have p3 := hD7.row3.cell 3
    simp at p0 p1 p2 p3
    have g0 := hD7.row3.frozen 0
    have g1 := hD7.row3.frozen 1
    have g2 := hD7.row3.frozen 2
    have g3 := hD7.row3.frozen 3
    have hl7 := hD7.row3.lt
    have q0 := hD7.row2.cell 0
    have q1 := hD7.row2.cell 1
    have q2 := hD7.row2.cell 2
    have q3 := hD7.row2.cell 3
    simp at q0 q1 q2 q3
    have f0 := hD7.row2.frozen 0
    have f1 := hD7.row2.frozen 1
    have f2 := hD7.row2.frozen 2
    have f3 := hD7.row2.frozen 3
    have hl2 := hD7.row2.lt
    have hD8 := hD7.set3 0 (.int .i64 z) rfl
    have hb6 := hR6.lt
    have HF := hide hD8.fin
    clear hR6 ho6 hD6 hs6 hD7 hD8
    go_wp2_with fail
    refine bodyPost_ret (v := .agg #[.int .i64 z, .int .i64 Z, .int .i64 (x2 - 40), .int .i64 (x3 - 1000)]) (by simp [results, Try.results67, go_sem, q0, q1, q2, q3]) rfl ?_
    exact HF.out
  · have hD6 := hD5.more (Ext.alloc w5 (.cells #[.int .i64 1000000000, .int .i64 1000000001, .int .i64 (-1000000000)] 2))
    go_wp2_with fail
    refine (NX.out 3 _ hD6.ext hD6.src (by omega) (by omega)).mono ?_
    rintro e w6 ⟨y, rfl, hy1, hy2, hs6, ho6⟩
    have hD7 := hD6.draw ho6 hs6
    have hR6 := (Row.new w5 2 [.int .i64 1000000000, .int .i64 1000000001, .int .i64 (-1000000000)]).only ho6 (by omega)
    obtain ⟨j, rfl⟩ := Int.eq_ofNat_of_zero_le hy1
    have hj : j < 3 := by omega
    obtain ⟨z, hz⟩ : ∃ z, w6.cell? ⟨w5.heap.size, j, none⟩ = some (.int .i64 z) := by
      rw [hR6.cell]; rcases (show j = 0 ∨ j = 1 ∨ j = 2 by omega) with rfl | rfl | rfl <;> exact ⟨_, rfl⟩
    have p0 := hD7.row3.cell 0
    have p1 := hD7.row3.cell 1
    have p2 := hD7.row3.cell 2
    have p3 := hD7.row3.cell 3
    simp at p0 p1 p2 p3
    have g0 := hD7.row3.frozen 0
    have g1 := hD7.row3.frozen 1
    have g2 := hD7.row3.frozen 2
    have g3 := hD7.row3.frozen 3
    have hl7 := hD7.row3.lt
    have q0 := hD7.row2.cell 0
    have q1 := hD7.row2.cell 1
    have q2 := hD7.row2.cell 2
    have q3 := hD7.row2.cell 3
    simp at q0 q1 q2 q3
    have f0 := hD7.row2.frozen 0
    have f1 := hD7.row2.frozen 1
    have f2 := hD7.row2.frozen 2
    have f3 := hD7.row2.frozen 3
    have hl2 := hD7.row2.lt
    have hD8 := hD7.set3 2 (.int .i64 z) rfl
    have hb6 := hR6.lt
    have HF := hide hD8.fin
    clear hR6 ho6 hD6 hs6 hD7 hD8
    go_wp2_with fail
    refine bodyPost_ret (v := .agg #[.int .i64 x1, .int .i64 Z, .int .i64 z, .int .i64 (x3 - 1000)]) (by simp [results, Try.results67, go_sem, q0, q1, q2, q3]) rfl ?_
    exact HF.out
  · have hD6 := hD5.more (Ext.alloc w5 (.cells #[.int .i64 1000000000000000, .int .i64 1000000000000001, .int .i64 (-1000000000000001)] 2))
    go_wp2_with fail
    refine (NX.out 3 _ hD6.ext hD6.src (by omega) (by omega)).mono ?_
    rintro e w6 ⟨y, rfl, hy1, hy2, hs6, ho6⟩
    have hD7 := hD6.draw ho6 hs6
    have hR6 := (Row.new w5 2 [.int .i64 1000000000000000, .int .i64 1000000000000001, .int .i64 (-1000000000000001)]).only ho6 (by omega)
    obtain ⟨j, rfl⟩ := Int.eq_ofNat_of_zero_le hy1
    have hj : j < 3 := by omega
    obtain ⟨z, hz⟩ : ∃ z, w6.cell? ⟨w5.heap.size, j, none⟩ = some (.int .i64 z) := by
      rw [hR6.cell]; rcases (show j = 0 ∨ j = 1 ∨ j = 2 by omega) with rfl | rfl | rfl <;> exact ⟨_, rfl⟩
    have p0 := hD7.row3.cell 0
    have p1 := hD7.row3.cell 1
    have p2 := hD7.row3.cell 2
    have p3 := hD7.row3.cell 3
    simp at p0 p1 p2 p3
    have g0 := hD7.row3.frozen 0
    have g1 := hD7.row3.frozen 1
    have g2 := hD7.row3.frozen 2
    have g3 := hD7.row3.frozen 3
    have hl7 := hD7.row3.lt
    have q0 := hD7.row2.cell 0
    have q1 := hD7.row2.cell 1
    have q2 := hD7.row2.cell 2
    have q3 := hD7.row2.cell 3
    simp at q0 q1 q2 q3
    have f0 := hD7.row2.frozen 0
    have f1 := hD7.row2.frozen 1
    have f2 := hD7.row2.frozen 2
    have f3 := hD7.row2.frozen 3
    have hl2 := hD7.row2.lt
    have hD8 := hD7.set3 3 (.int .i64 z) rfl
    have hb6 := hR6.lt
    have HF := hide hD8.fin
    clear hR6 ho6 hD6 hs6 hD7 hD8
    go_wp2_with fail
    refine bodyPost_ret (v := .agg #[.int .i64 x1, .int .i64 Z, .int .i64 (x2 - 40), .int .i64 z]) (by simp [results, Try.results67, go_sem, q0, q1, q2, q3]) rfl ?_
    exact HF.out
  · have q0 := hD5.row2.cell 0
    have q1 := hD5.row2.cell 1
    have q2 := hD5.row2.cell 2
    have q3 := hD5.row2.cell 3
    simp at q0 q1 q2 q3
    have k0 := hD5.row3.cell 0
    have k1 := hD5.row3.cell 1
    have k2 := hD5.row3.cell 2
    have k3 := hD5.row3.cell 3
    simp at k0 k1 k2 k3
    have f0 := hD5.row2.frozen 0
    have f1 := hD5.row2.frozen 1
    have f2 := hD5.row2.frozen 2
    have f3 := hD5.row2.frozen 3
    have hl2 := hD5.row2.lt
    have hl3 := hD5.row3.lt
    have HF := hide hD5.fin
    go_wp2_with fail
    refine bodyPost_ret (v := .agg #[.int .i64 x1, .int .i64 Z, .int .i64 (x2 - 40), .int .i64 (x3 - 1000)]) (by simp [results, Try.results67, go_sem, q0, q1, q2, q3]) rfl ?_
    exact HF.out
end Go.Proofs.Ytclnfjpjmelfpaa
