
/-
  The law on IsTerms: for every input it returns true.
-/
import Derived.Test.YtbkmnoedhilopaaTermsC
import Derived.Test.YtbkmnoedhilopaaTermsE
import Derived.Test.YtbkmnoedhilopaaSched
namespace Go.Proofs.Ytbkmnoedhilopaa
open Go.RowKit

set_option maxHeartbeats 1000000 in
theorem law_isTerms (band percent price : Int) (A : Option Addr) (n c : Nat) (ts : List Tier) (w : World) (hs : SliceOf w 2 Tier.cells A n c ts) :
    Calls Try.prog 3 #[.agg #[.int .i64 band, .int .i64 percent, .int .i64 price, .slice A n c]] w (Ret (.bool true) w) := by
  have hcap := hs.cap
  have hmax := hs.max
  go_enter Try.func3, Try.ntmps3
  go_wp2_with fail
  refine (c_szTerms band percent price 1048576 A n c _ hcap hmax (by omega) (by omega)).mono ?_
  rintro e w1 ⟨rfl, hx1⟩
  by_cases hn : (1048576 : Int) < n
  · rw [if_pos hn]
    go_wp2_with fail
    go_ret
    exact Ret.bool rfl hx1.box
  · rw [if_neg hn]
    have hn' : n ≤ 1048576 := by omega
    have hcl1 := hx1.cell
    go_wp2_with fail
    refine (c_toTerms band percent price A n c ts _ (hs.ext hx1.box) hn').mono ?_
    rintro e w2 ⟨g2, rfl, hg2, hr2, hx2⟩
    go_wp2_with fail
    refine (c_specIsTerms band percent price _ _ _ ts _ (hr2.slice tier_len rfl (by have := hs.len; omega))).mono ?_
    rintro e w3 ⟨rfl, hx3⟩
    have hx13 := hx1.trans (hx2.trans hx3)
    have hcl3 := hx13.cell
    go_wp2_with fail
    refine (c_toTerms band percent price A n c ts _ (hs.ext hx13.box) hn').mono ?_
    rintro e w4 ⟨g4, rfl, hg4, hr4, hx4⟩
    go_wp2_with fail
    refine (c_isTerms band percent price _ _ _ ts _ ((hr4.ext (Ext.alloc _ _)).slice tier_len rfl (by have := hs.len; omega))).mono ?_
    rintro e w5 ⟨rfl, hx5⟩
    go_wp2_with fail
    have hx15 := hx13.trans (hx4.trans hx5.box)
    have hcl5 := hx5.cell
    have hz5 := hx5.size
    have hz4 := (hx13.trans hx4).size
    simp at hz5 hz4
    have hz5' : w4.heap.size < w5.heap.size := by omega
    have hz0 : w.heap.size < w5.heap.size := by omega
    have hb0 : ∀ j, w5.cell? ⟨w.heap.size, j, none⟩ = (w.alloc (.cells #[.int .i64 band, .int .i64 percent, .int .i64 price, .slice A n c] 24)).cell? ⟨w.heap.size, j, none⟩ := fun j => hx15.cell _ _ (by simp)
    clear hcl1 hcl3
    refine wp_region_ph [([0, 1], 2), ([], 3)] [4] (by kernel_rfl) (by kernel_rfl) (by intro c a w d v h; cases d <;> exact h) ?_
    simp only [wpPh, pickL, nthO]
    repeat (go_big_quiet_step (fail))
    refine wpQuiet_nil ?_
    go_wp2_with fail
    refine (c_toTerms band percent price A n c ts _ (hs.ext hx15.box.drew) hn').mono ?_
    rintro e w6 ⟨g6, rfl, hg6, hr6, hx6⟩
    go_wp2_with fail
    refine ⟨hx6, wpQuiet_nil ?_⟩
    go_wp2_with fail
    refine (c_eqTerms band percent price _ _ _ _ _ _ ts _ ((hr4.ext ((Ext.alloc _ _).trans (hx5.drew.trans hx6))).slice tier_len rfl (by have := hs.len; omega)) (hr6.slice tier_len rfl (by have := hs.len; omega))).mono ?_
    rintro e w7 ⟨rfl, hx7⟩
    go_wp2_with fail
    refine ⟨hx7, ?_⟩
    repeat (go_big_quiet_step (fail))
    refine wpQuiet_nil ?_
    go_wp2_with fail
    go_ret
    exact Ret.bool rfl ((hx15.drew.trans hx6).trans hx7).box

end Go.Proofs.Ytbkmnoedhilopaa
