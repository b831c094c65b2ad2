

/-
  FnExactTierOf: for every input the law returns true and its arguments read as before.
-/
import Derived.Test.YtbkmnoedhilopaaTermsL
import Derived.Test.YtbkmnoedhilopaaTermsG
namespace Go.Proofs.Ytbkmnoedhilopaa
open Go.RowKit Go.ChangeShapes Go.WideShapes Go.ChangeAt Go.Deep Go.Joins

set_option maxHeartbeats 1000000 in
theorem law_TierOf (band percent price ex : Int) (A : Option Addr) (n c : Nat) (ts : List Tier) (w : World) (hs : SliceOf w 2 Tier.cells A n c ts) :
    Calls Try.prog 5 #[.agg #[.int .i64 band, .int .i64 percent, .int .i64 price, .slice A n c], .int .i64 ex] w (Ret (.bool true) w) := by
  have hcap := hs.cap
  have hmax := hs.max
  go_enter Try.func5, Try.ntmps5
  go_wp2_with fail
  refine (c_szTerms band percent price 1048576 A n c _ hcap hmax (by omega) (by omega)).mono ?_
  rintro e w1 ⟨rfl, hx1⟩
  by_cases hn : (1048576 : Int) < n
  · rw [if_pos hn]
    go_wp2_with fail
    go_ret
    exact Ret.bool rfl hx1.box
  · rw [if_neg hn]
    have hn' : n ≤ 1048576 := by omega
    have hcl1 := hx1.cell
    go_wp2_with fail
    refine (c_toTerms band percent price A n c ts _ (hs.ext hx1.box) hn').mono ?_
    rintro e w2 ⟨g2, rfl, hg2, hr2, hx2⟩
    go_wp2_with fail
    refine (c_specTierOf band percent price ex _ _ _ ts _ (hr2.slice tier_len rfl (by have := hs.len; omega))).mono ?_
    rintro e w3 ⟨rfl, hx3⟩
    have hx13 := hx1.trans (hx2.trans hx3)
    have hcl3 := hx13.cell
    go_wp2_with fail
    refine (c_toTerms band percent price A n c ts _ (hs.ext hx13.box) hn').mono ?_
    rintro e w4 ⟨g4, rfl, hg4, hr4, hx4⟩
    go_wp2_with fail
    refine (c_TierOf band percent price ex _ _ _ ts _ ((hr4.ext (Ext.alloc _ _)).slice tier_len rfl (by have := hs.len; omega))).mono ?_
    rintro e w5 ⟨rfl, hx5⟩
    have hx15 := hx13.trans (hx4.trans hx5.box)
    have hcl5 := hx5.cell
    have hz5 := hx5.size
    have hz4 := (hx13.trans hx4).size
    simp at hz5 hz4
    have hz5' : w4.heap.size < w5.heap.size := by omega
    have hz0 : w.heap.size < w5.heap.size := by omega
    have hb0 : ∀ j, w5.cell? ⟨w.heap.size, j, none⟩ = (w.alloc (.cells #[.int .i64 band, .int .i64 percent, .int .i64 price, .slice A n c] 24)).cell? ⟨w.heap.size, j, none⟩ := fun j => hx15.cell _ _ (by simp)
    clear hcl1 hcl3
    go_wp2_with fail
    refine wp_region_ph [([0, 1], 2), ([], 3)] [4] (by kernel_rfl) (by kernel_rfl) (by intro c a w d v h; cases d <;> exact h) ?_
    simp only [wpPh, pickL, nthO]
    repeat (go_big_quiet_step (fail))
    refine wpQuiet_nil ?_
    go_wp2_with fail
    refine (c_toTerms band percent price A n c ts _ (hs.ext hx15.box.drew) hn').mono ?_
    rintro e w6 ⟨g6, rfl, hg6, hr6, hx6⟩
    go_wp2_with fail
    refine ⟨hx6, wpQuiet_nil ?_⟩
    go_wp2_with fail
    refine (c_eqTerms band percent price _ _ _ _ _ _ ts _ ((hr4.ext ((Ext.alloc _ _).trans (hx5.drew.trans hx6))).slice tier_len rfl (by have := hs.len; omega)) (hr6.slice tier_len rfl (by have := hs.len; omega))).mono ?_
    rintro e w7 ⟨rfl, hx7⟩
    go_wp2_with fail
    refine ⟨hx7, ?_⟩
    repeat (go_big_quiet_step (fail))
    refine wpQuiet_nil ?_
    go_wp2_with fail
    go_ret
    exact Ret.bool rfl ((hx15.drew.trans hx6).trans hx7).box

set_option maxRecDepth 100000 in
theorem lifted_TierOf (os : Os) (started : os.Started) (H : Type) (enc : TypeId × Value → H) :
    ReturnsInHanded {} Try.checked os 5 .any (Rows.fnExactTierOfSpec.pre6 enc Try.prog Try.f5 Rows.fnExactTierOfRow.domain false) (Rows.fnExactTierOfSpec.post enc Try.prog Try.f5 false true false false) := by
  refine returnsInHanded_of_change (C := Try.checked) own started (by kernel_rfl) Try.func5
    (ChangeSpec.witness6 (enc := enc) (C := Try.checked) false ⟨#[], #[.agg #[.int .i64 0, .int .i64 0, .int .i64 0, .slice none 0 0], .int .i64 0], []⟩ 8 (by kernel_rfl) (by kernel_rfl) (by kernel_rfl) (by kernel_rfl)) ?_
  intro W base args ds gs before hval0 hW _ _
  have hval : ∀ (j : Nat) t v, Try.f5.params[j]? = some t → args[j]? = some v → Value.okWide Try.prog W .any base t v := hval0
  have hW' := hW
  obtain ⟨p, q, hA0, hV, rfl, hfz, hnd⟩ := hW
  have hA : DataW.TrodAll enc Try.prog W 0 (fun _ => true) true Try.f5.params.toList args.toList ds p := hA0
  rw [Try.params5] at hA hval
  obtain ⟨v0, vs0, d0, ds0, p0, q0, hargs, rfl, rfl, h0, r0⟩ := trodAll_cons hA
  obtain ⟨v1, vs1, d1, ds1, p1, q1, rfl, rfl, rfl, h1, r1⟩ := trodAll_cons r0
  obtain ⟨rfl, rfl, rfl⟩ := trodAll_nil r1
  obtain rfl : args = #[v0, v1] := by cases args; simp_all
  obtain ⟨rfl, rfl⟩ := trodVars_none hV
  have k0 := h0
  have lt0 : ∀ x ∈ p0, x.block < W.heap.size := by obtain ⟨m, hm⟩ := k0; exact DataW.trod_lt m _ _ _ hm
  obtain ⟨band, percent, price, A, n, c, ts, rfl, hs⟩ := open_terms (hval 0 24 v0 rfl rfl) h0
  obtain ⟨a1, rfl, rfl, rfl, w1⟩ := open_int Try.underlying2 (hval 1 2 v1 rfl rfl) h1
  clear hA0 hval0
  refine (law_TierOf band percent price a1 A n c ts W hs).mono fun e W' ⟨he, bel⟩ => ?_
  subst he
  exact ⟨_, rfl, _, _, _, [], _, [], hW', trodAll_mk1 (shut_bool Try.underlying4 _), (trodAll_cons_mk (Below.trod laidOut (by kernel_rfl) (of_decide_eq_true (by kernel_rfl)) k0 bel lt0) (trodAll_cons_mk (shut_int Try.underlying2 w1) trodAll_mk0)), rfl, bel.frame _, fun h => by cases h⟩

theorem holds_TierOf : Rows.FnExactTierOfSaid :=
  OpenClaim.holds_of_wide 5 Try.f5 rfl rfl rfl rfl rfl rfl rfl ⟨rfl, rfl, rfl, rfl, rfl⟩ rfl rfl rfl rfl rfl (by kernel_rfl) Try.func5 (by kernel_rfl)
    (of_decide_eq_true (by kernel_rfl)) (by unfold Func.isWrapper; first | (rw [if_pos (by decide +kernel)]; kernel_rfl) | (rw [if_neg (by decide +kernel)]; exact ⟨rfl, rfl⟩))
    (fun os started H enc _ => lifted_TierOf os started H enc)
#print axioms holds_TierOf
end Go.Proofs.Ytbkmnoedhilopaa
