
/-
  The reference's draws of terms with two numbers.
-/
import Derived.Test.YtbkmnoedhilopaaDrawU
namespace Go.Proofs.Ytbkmnoedhilopaa
open Go.RowKit

set_option maxHeartbeats 2000000 in
theorem c_DrawExcessOf (A : Option Addr) (n c : Nat) (bs : List Int) (w : World) (hbs : SliceOf w 1 byteC A n c bs) (hbd : ∀ z ∈ bs, 0 ≤ z ∧ z ≤ 255) (hn : n ≤ 1048576) :
    Calls Try.prog 56 #[.slice A n c] w (DrawnT2 w) := by
  have HD := hide hbd
  clear hbd
  go_enter Try.func56, Try.ntmps56
  go_wp2_with fail
  refine (c_l01From A n c bs _ (hbs.ext (Ext.alloc _ _)) HD.out).mono ?_
  rintro e w1 ⟨a, rfl, ha, ha1, hs1, hx1⟩
  simp at ha
  go_wp2_with fail
  refine (c_l29Draw a A n c bs w w1 hbs HD.out hx1.box (by omega) hs1 hn).mono ?_
  rintro e w2 ⟨band, percent, price, A', n', c', g, ts, rfl, hnc, hcm, hg, hown, hs2, ho2⟩
  have hz2 := ho2.size
  have hx2 : Ext w w2 := hx1.box.only ho2 (by omega)
  have hR0 := ((Row.new w 29 [.int .i64 0, .int .i64 0, .int .i64 0, .slice none 0 0]).ext hx1).only ho2 (by omega)
  have hR2 := Row.new w2 29 [.int .i64 band, .int .i64 percent, .int .i64 price, .slice A' n' c']
  have hgl := hown.lt
  have nxt := fun (m : Int) (w' : World) hx0 hsrc => c_l01Next a m A n c bs w w' hbs HD.out hx0 (by omega) hsrc hn
  have NX := hide nxt
  clear nxt
  go_wp2_with fail
  refine (NX.out 160 _ (hx2.and_alloc _) (hs2.ext (Ext.alloc _ _)) (by omega) (by omega)).mono ?_
  rintro e w3 ⟨x, rfl, hx3, hx4, hs3, ho3⟩
  have hz3 := ho3.size
  simp at hz3
  have ho3' : Only a w2 w3 := (Only.of_ext (Ext.alloc w2 _) a).trans ho3
  have hR3 := hR2.only ho3 (by omega)
  clear hR2
  have e1 : IntKind.i64.wrap (x - 80) = x - 80 := IntWalk.i64_in _ (by omega)
  go_wp2_with fail
  refine (NX.out 16 _ (hx2.only ho3' (by omega)) hs3 (by omega) (by omega)).mono ?_
  rintro e w4 ⟨y4, rfl, hy1, hy2, hs4, ho4⟩
  have hz4 := ho4.size
  have ho4' : Only a w2 w4 := ho3'.trans ho4
  have hR4 := hR3.only ho4 (by omega)
  have hx4' : Ext w w4 := hx2.only ho4' (by omega)
  clear hR3 e1
  by_cases h0 : y4 = 0
  · subst h0
    clear hy1 hy2
    go_wp2_with fail
    refine (NX.out 4 _ (hx4'.and_alloc _) (hs4.ext (Ext.alloc _ _)) (by omega) (by omega)).mono ?_
    rintro e w5 ⟨y5, rfl, hy5, hy6, hs5, ho5⟩
    have hR5 := (Row.new w4 2 [.int .i64 (-1000000000), .int .i64 1000000000, .int .i64 1000000001, .int .i64 (-1000000001)]).only ho5 (by omega)
    have hb5 := hR5.lt
    have hz5 := ho5.size
    simp at hz5
    have hoz : Only a w2 w5 := ho4'.trans ((Only.of_ext (Ext.alloc w4 _) a).trans ho5)
    have hxz : Ext w w5 := hx2.only hoz (by omega)
    have hsz := hs5
    obtain ⟨z, hz, hzl, hzh⟩ : ∃ z, w5.cell? ⟨w4.heap.size, y5.toNat, none⟩ = some (.int .i64 z) ∧ -1000000001 ≤ z ∧ z ≤ 1000000001 := by
      rw [hR5.cell]
      rcases (show y5 = 0 ∨ y5 = 1 ∨ y5 = 2 ∨ y5 = 3 by omega) with rfl | rfl | rfl | rfl <;> exact ⟨_, rfl, by omega, by omega⟩
    obtain ⟨j, rfl⟩ := Int.eq_ofNat_of_zero_le hy5
    simp only [Int.toNat_natCast] at hz
    have hj : j < 4 := by omega
    have hRR := (hR4.ext (Ext.alloc w4 (.cells #[.int .i64 (-1000000000), .int .i64 1000000000, .int .i64 1000000001, .int .i64 (-1000000001)] 2))).only ho5 (by omega)
    have k0 := hRR.cell 0
    have k1 := hRR.cell 1
    have k2 := hRR.cell 2
    have k3 := hRR.cell 3
    simp at k0 k1 k2 k3
    have hlR := hRR.lt
    clear hR5 hR4 hRR hy6 hy5
    go_wp2_with fail
    refine wp_region_phB [w2.heap.size] [([0, 1, 2], 3), ([], 4)] [5, 6] (by kernel_rfl) (by kernel_rfl) (by intro c a w d v h; cases d <;> exact h) ?_
    simp only [wpPhB, pickL, nthO]
    repeat (go_big_quiet_step (fail))
    refine wpQuiet_nil ?_
    go_wp2_with fail
    refine (c_l29DrawNumber a A n c bs w _ hbs HD.out hxz.drew (by omega) (hsz.ext (Ext.refl _).drew) hn).mono ?_
    rintro e w9 ⟨y, rfl, hy3, hy4, hs9, ho9⟩
    have hz9 := ho9.size
    have hoz9 : Only a w2 w9 := hoz.trans ((Only.refl _ _).drew.trans ho9)
    go_wp2_with fail
    have hsb := (SameB.refl [w2.heap.size] w5).drew.trans (SameB.of_only ho9 (by simp; omega))
    refine ⟨hsb, wpQuiet_nil ?_⟩
    have hR9 := hR0.only hoz9 (by omega)
    have q0 := hR9.cell 0
    have q1 := hR9.cell 1
    have q2 := hR9.cell 2
    have q3 := hR9.cell 3
    simp at q0 q1 q2 q3
    have f0 := hR9.frozen 0
    have f1 := hR9.frozen 1
    have f2 := hR9.frozen 2
    have f3 := hR9.frozen 3
    have hl9 := hR9.lt
    have hk : Only w.heap.size w9 (putCells w9 w.heap.size 0 [.int .i64 band, .int .i64 percent, .int .i64 price, .slice A' n' c']) := (Only.refl _ _).put _ _
    have hfin : DrawnT2 w (.returned (.tuple #[.agg #[.int .i64 band, .int .i64 percent, .int .i64 price, .slice A' n' c'], .int .i64 z, .int .i64 y])) (putCells w9 w.heap.size 0 [.int .i64 band, .int .i64 percent, .int .i64 price, .slice A' n' c']) :=
      ⟨band, percent, price, z, y, A', n', c', g, ts, rfl, by omega, by omega, hy3, hy4, hnc, hcm, by omega, (hown.only hoz9 (by omega)).only hk (by omega), (hx2.only hoz9 (by omega)).only hk (Nat.le_refl _)⟩
    have HF := hide hfin
    clear hfin hR9 hk
    go_wp2_with fail
    refine ⟨?_, ?_⟩
    · repeat (refine SameB.setCell ?_ (by simp; omega) _)
      exact hsb
    repeat (go_big_quiet_step (fail))
    refine wpQuiet_nil ?_
    go_wp2_with fail
    refine bodyPost_ret (v := .tuple #[.agg #[.int .i64 band, .int .i64 percent, .int .i64 price, .slice A' n' c'], .int .i64 z, .int .i64 y]) (by simp [results, Try.results56, go_sem, q0, q1, q2, q3]) rfl ?_
    exact HF.out
  · have h0' : (y4 == 0) = false := by simpa using h0
    have hoz : Only a w2 w4 := ho4'
    have hxz : Ext w w4 := hx4'
    have hsz := hs4
    have k0 := hR4.cell 0
    have k1 := hR4.cell 1
    have k2 := hR4.cell 2
    have k3 := hR4.cell 3
    simp at k0 k1 k2 k3
    have hlR := hR4.lt
    clear hR4
    go_wp2_with fail
    refine wp_region_phB [w2.heap.size] [([0, 1, 2], 3), ([], 4)] [5, 6] (by kernel_rfl) (by kernel_rfl) (by intro c a w d v h; cases d <;> exact h) ?_
    simp only [wpPhB, pickL, nthO]
    repeat (go_big_quiet_step (fail))
    refine wpQuiet_nil ?_
    go_wp2_with fail
    refine (c_l29DrawNumber a A n c bs w _ hbs HD.out hxz.drew (by omega) (hsz.ext (Ext.refl _).drew) hn).mono ?_
    rintro e w9 ⟨y, rfl, hy3, hy4, hs9, ho9⟩
    have hz9 := ho9.size
    have hoz9 : Only a w2 w9 := hoz.trans ((Only.refl _ _).drew.trans ho9)
    go_wp2_with fail
    have hsb := (SameB.refl [w2.heap.size] w4).drew.trans (SameB.of_only ho9 (by simp; omega))
    refine ⟨hsb, wpQuiet_nil ?_⟩
    have hR9 := hR0.only hoz9 (by omega)
    have q0 := hR9.cell 0
    have q1 := hR9.cell 1
    have q2 := hR9.cell 2
    have q3 := hR9.cell 3
    simp at q0 q1 q2 q3
    have f0 := hR9.frozen 0
    have f1 := hR9.frozen 1
    have f2 := hR9.frozen 2
    have f3 := hR9.frozen 3
    have hl9 := hR9.lt
    have hk : Only w.heap.size w9 (putCells w9 w.heap.size 0 [.int .i64 band, .int .i64 percent, .int .i64 price, .slice A' n' c']) := (Only.refl _ _).put _ _
    have hfin : DrawnT2 w (.returned (.tuple #[.agg #[.int .i64 band, .int .i64 percent, .int .i64 price, .slice A' n' c'], .int .i64 (x - 80), .int .i64 y])) (putCells w9 w.heap.size 0 [.int .i64 band, .int .i64 percent, .int .i64 price, .slice A' n' c']) :=
      ⟨band, percent, price, (x - 80), y, A', n', c', g, ts, rfl, by omega, by omega, hy3, hy4, hnc, hcm, by omega, (hown.only hoz9 (by omega)).only hk (by omega), (hx2.only hoz9 (by omega)).only hk (Nat.le_refl _)⟩
    have HF := hide hfin
    clear hfin hR9 hk
    go_wp2_with fail
    refine ⟨?_, ?_⟩
    · repeat (refine SameB.setCell ?_ (by simp; omega) _)
      exact hsb
    repeat (go_big_quiet_step (fail))
    refine wpQuiet_nil ?_
    go_wp2_with fail
    refine bodyPost_ret (v := .tuple #[.agg #[.int .i64 band, .int .i64 percent, .int .i64 price, .slice A' n' c'], .int .i64 (x - 80), .int .i64 y]) (by simp [results, Try.results56, go_sem, q0, q1, q2, q3]) rfl ?_
    exact HF.out

set_option maxHeartbeats 2000000 in
theorem c_DrawCashOut (A : Option Addr) (n c : Nat) (bs : List Int) (w : World) (hbs : SliceOf w 1 byteC A n c bs) (hbd : ∀ z ∈ bs, 0 ≤ z ∧ z ≤ 255) (hn : n ≤ 1048576) :
    Calls Try.prog 34 #[.slice A n c] w (DrawnT2 w) := by
  have HD := hide hbd
  clear hbd
  go_enter Try.func34, Try.ntmps34
  go_wp2_with fail
  refine (c_DrawExcessOf A n c bs _ (hbs.ext (Ext.alloc _ _)) HD.out hn).mono ?_
  rintro e w1 ⟨band, percent, price, x, y, A', n', c', g, ts, rfl, hy1, hy2, hy3, hy4, hnc, hcm, hg, hown, hx1⟩
  simp at hg
  have hR0 := (Row.new w 29 [.int .i64 0, .int .i64 0, .int .i64 0, .slice none 0 0]).ext hx1
  have q0 := hR0.cell 0
  have q1 := hR0.cell 1
  have q2 := hR0.cell 2
  have q3 := hR0.cell 3
  simp at q0 q1 q2 q3
  have f0 := hR0.frozen 0
  have f1 := hR0.frozen 1
  have f2 := hR0.frozen 2
  have f3 := hR0.frozen 3
  have hl0 := hR0.lt
  have hk : Only w.heap.size w1 (putCells w1 w.heap.size 0 [.int .i64 band, .int .i64 percent, .int .i64 price, .slice A' n' c']) := (Only.refl _ _).put _ _
  have hfin : DrawnT2 w (.returned (.tuple #[.agg #[.int .i64 band, .int .i64 percent, .int .i64 price, .slice A' n' c'], .int .i64 x, .int .i64 y])) (putCells w1 w.heap.size 0 [.int .i64 band, .int .i64 percent, .int .i64 price, .slice A' n' c']) :=
    ⟨band, percent, price, x, y, A', n', c', g, ts, rfl, hy1, hy2, hy3, hy4, hnc, hcm, by omega, hown.only hk (by omega), hx1.box.only hk (Nat.le_refl _)⟩
  have HF := hide hfin
  clear hfin hR0 hk
  go_wp2_with fail
  refine bodyPost_ret (v := .tuple #[.agg #[.int .i64 band, .int .i64 percent, .int .i64 price, .slice A' n' c'], .int .i64 x, .int .i64 y]) (by simp [results, Try.results34, go_sem, q0, q1, q2, q3]) rfl ?_
  exact HF.out
end Go.Proofs.Ytbkmnoedhilopaa
