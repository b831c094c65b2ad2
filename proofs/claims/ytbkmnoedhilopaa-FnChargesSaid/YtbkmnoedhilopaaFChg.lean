

/-
  FnCharges: for every code the law returns true and the code reads as before.
-/
import Derived.Test.YtbkmnoedhilopaaDrawU
import Derived.Test.YtbkmnoedhilopaaTermsK
import Derived.Test.YtbkmnoedhilopaaTermsL
import Derived.Test.YtbkmnoedhilopaaChgM
import Derived.Test.YtbkmnoedhilopaaCode
namespace Go.Proofs.Ytbkmnoedhilopaa
open Go.RowKit Go.ChangeShapes Go.WideShapes Go.ChangeAt Go.Deep Go.Joins

set_option maxHeartbeats 2000000 in
theorem law_Charges (A : Option Addr) (n c : Nat) (bs : List Int) (w : World) (hbs : SliceOf w 1 byteC A n c bs) (hbd : ∀ z ∈ bs, 0 ≤ z ∧ z ≤ 255) :
    Calls Try.prog 10 #[.slice A n c] w (Ret (.bool true) w) := by
  have HD := hide hbd
  clear hbd
  by_cases hbig : (4096 : Int) < n
  · have hb : decide ((4096 : Int) < n) = true := by simpa using hbig
    go_enter Try.func10, Try.ntmps10
    go_wp2_with fail
    refine (c_big A n c _).mono ?_
    rw [hb]
    rintro e w' ⟨rfl, rfl⟩
    go_wp2_with fail
    go_ret
    exact Ret.bool rfl (Ext.refl _)
  have hb : decide ((4096 : Int) < n) = false := by simpa using hbig
  go_enter Try.func10, Try.ntmps10
  go_wp2_with fail
  refine (c_big A n c _).mono ?_
  rw [hb]
  rintro e w' ⟨rfl, rfl⟩
  clear hb
  go_wp2_with fail
  refine (c_DrawChargeFor A n c bs _ hbs HD.out (by omega)).mono ?_
  rintro e w1 ⟨band, percent, price, ex, A', n', c', g, ts, rfl, hq1, hq2, hnc, hcm, hg, hown, hx1⟩
  have hs := hown.slice tier_len hnc hcm
  clear hown hg
  obtain ⟨C, B, K, hR1, hR2, hways⟩ := charge_ways band percent price ts ex
  have HR1 := hide hR1
  have HR2 := hide hR2
  have HW := hide hways
  clear hR1 hR2 hways
  go_wp2_with fail
  refine (c_ChargeFor band percent price ex A' n' c' ts _ (hs.ext (Ext.alloc _ _))).mono ?_
  rw [HR1.out]
  rintro e w2 ⟨rfl, hx2⟩
  have hcl2 := hx2.cell
  have hz2 := hx2.size
  simp at hz2
  have hz2' : w1.heap.size < w2.heap.size := by omega
  go_wp2_with fail
  refine (c_specChargeFor band percent price ex A' n' c' ts _ (hs.ext hx2.box)).mono ?_
  rw [HR1.out]
  rintro e w3 ⟨rfl, hx3⟩
  have hx23 := hx2.trans hx3
  have hcl3 := hx23.cell
  have hz3 := hx3.size
  have hz3' : w1.heap.size < w3.heap.size := by omega
  clear hcl2
  go_wp2_with fail
  refine (c_TierOf band percent price ex A' n' c' ts _ (hs.ext hx23.box)).mono ?_
  rw [HR2.out]
  rintro e w4 ⟨rfl, hx4⟩
  have hx24 := hx23.trans hx4
  have hcl4 := hx24.cell
  have hz4 := hx4.size
  have hz4' : w1.heap.size < w4.heap.size := by omega
  clear hcl3
  go_wp2_with fail
  refine (c_specTierOf band percent price ex A' n' c' ts _ (hs.ext hx24.box)).mono ?_
  rw [HR2.out]
  rintro e w5 ⟨rfl, hx5⟩
  have hx25 := hx24.trans hx5
  have hz5 := hx5.size
  have hz5' : w1.heap.size < w5.heap.size := by omega
  clear hcl4
  have hb5 : ∀ j, w5.cell? ⟨w1.heap.size, j, none⟩ = (w1.alloc (.cells #[.int .i64 band, .int .i64 percent, .int .i64 price, .slice A' n' c'] 29)).cell? ⟨w1.heap.size, j, none⟩ := fun j => hx25.cell _ _ (by simp)
  go_wp2_with fail
  refine wp_region_ph [([0, 1, 2, 3, 4, 5, 6, 7, 8, 9, 10, 11, 12, 13, 14, 15, 16, 17, 18, 19, 21], 20), ([], 22)] [23, 24] (by kernel_rfl) (by kernel_rfl) (by intro c a w d v h; cases d <;> exact h) ?_
  simp only [wpPh, pickL, nthO]
  repeat (go_big_quiet_step (fail))
  refine wpQuiet_nil ?_
  go_wp2_with fail
  refine (c_isTerms band percent price A' n' c' ts _ (hs.ext hx25.box.drew)).mono ?_
  rintro e w6 ⟨rfl, hx6⟩
  go_wp2_with fail
  refine ⟨hx6, wpQuiet_nil ?_⟩
  go_wp2_with fail
  refine (c_specIsTerms band percent price A' n' c' ts _ (hs.ext (hx25.box.drew.trans hx6))).mono ?_
  rintro e w7 ⟨rfl, hx7⟩
  have hx27 := (hx25.drew.trans hx6).trans hx7
  have hz6 := hx6.size
  have hz7 := hx7.size
  have hz7' : w1.heap.size < w7.heap.size := by simp at hz6; omega
  have hb7 : ∀ j, w7.cell? ⟨w1.heap.size, j, none⟩ = (w1.alloc (.cells #[.int .i64 band, .int .i64 percent, .int .i64 price, .slice A' n' c'] 29)).cell? ⟨w1.heap.size, j, none⟩ := fun j => hx27.cell _ _ (by simp)
  go_wp2_with fail
  refine ⟨hx7, ?_⟩
  repeat (go_big_quiet_step (fail))
  refine wpQuiet_nil ?_
  rcases HW.out with hB | ⟨rfl, rfl, rfl, rfl⟩ | ⟨rfl, hne, hl1, hl2, C', K', hR3, hR4, hC, hK, hK0⟩
  · go_wp2_with fail
    go_ret
    exact Ret.bool rfl (hx1.trans hx27.box)
  · go_wp2_with fail
    go_ret
    exact Ret.bool rfl (hx1.trans hx27.box)
  · have HR3 := hide hR3
    have HR4 := hide hR4
    clear hR3 hR4
    have d1 : decide (C' ≤ C) = true := by simpa using hC
    have d2 : decide (K' ≤ K) = true := by simpa using hK
    have d3 : decide (0 ≤ K) = true := by simpa using hK0
    go_wp2_with fail
    refine (c_ChargeFor band percent price (ex - 1) A' n' c' ts _ (hs.ext hx27.box)).mono ?_
    rw [HR3.out]
    rintro e w8 ⟨rfl, hx8⟩
    have hx28 := hx27.trans hx8
    have hz8 := hx8.size
    have hz8' : w1.heap.size < w8.heap.size := by omega
    have hb8 : ∀ j, w8.cell? ⟨w1.heap.size, j, none⟩ = (w1.alloc (.cells #[.int .i64 band, .int .i64 percent, .int .i64 price, .slice A' n' c'] 29)).cell? ⟨w1.heap.size, j, none⟩ := fun j => hx28.cell _ _ (by simp)
    go_wp2_with fail
    refine (c_TierOf band percent price (ex - 1) A' n' c' ts _ (hs.ext hx28.box)).mono ?_
    rw [HR4.out]
    rintro e w9 ⟨rfl, hx9⟩
    go_wp2_with fail
    go_ret
    exact Ret.bool rfl (hx1.trans (hx28.trans hx9).box)

set_option maxRecDepth 100000 in
theorem lifted_Charges (os : Os) (started : os.Started) (H : Type) (enc : TypeId × Value → H) :
    ReturnsInHanded {} Try.checked os 10 .any (Rows.fnChargesSpec.pre6 enc Try.prog Try.f10 Rows.fnChargesRow.domain false) (Rows.fnChargesSpec.post enc Try.prog Try.f10 false true false false) := by
  refine returnsInHanded_of_change (C := Try.checked) own started (by kernel_rfl) Try.func10
    (ChangeSpec.witness6 (enc := enc) (C := Try.checked) false ⟨#[], #[.slice none 0 0], []⟩ 8 (by kernel_rfl) (by kernel_rfl) (by kernel_rfl) (by kernel_rfl)) ?_
  intro W base args ds gs before hval0 hW _ _
  have hval : ∀ (j : Nat) t v, Try.f10.params[j]? = some t → args[j]? = some v → Value.okWide Try.prog W .any base t v := hval0
  have hW' := hW
  obtain ⟨p, q, hA0, hV, rfl, hfz, hnd⟩ := hW
  have hA : DataW.TrodAll enc Try.prog W 0 (fun _ => true) true Try.f10.params.toList args.toList ds p := hA0
  rw [Try.params10] at hA hval
  obtain ⟨v0, vs0, d0, ds0, p0, q0, hargs, rfl, rfl, h0, r0⟩ := trodAll_cons hA
  obtain ⟨rfl, rfl, rfl⟩ := trodAll_nil r0
  obtain rfl : args = #[v0] := by cases args; simp_all
  obtain ⟨rfl, rfl⟩ := trodVars_none hV
  have k0 := h0
  have lt0 : ∀ x ∈ p0, x.block < W.heap.size := by obtain ⟨m, hm⟩ := k0; exact DataW.trod_lt m _ _ _ hm
  obtain ⟨A, n, c, bs, e0, hs, hbd⟩ := open_bytes (hval 0 45 v0 rfl rfl) h0
  rw [e0]
  clear hA0 hval0
  refine (law_Charges A n c bs W hs hbd).mono fun e W' ⟨he, bel⟩ => ?_
  subst he
  rw [e0] at hW'
  exact ⟨_, rfl, _, _, _, [], _, [], hW', trodAll_mk1 (shut_bool Try.underlying4 _), (trodAll_cons_mk (Below.trod laidOut (by kernel_rfl) (of_decide_eq_true (by kernel_rfl)) (e0 ▸ k0) bel lt0) trodAll_mk0), rfl, bel.frame _, fun h => by cases h⟩

theorem holds_Charges : Rows.FnChargesSaid :=
  OpenClaim.holds_of_wide 10 Try.f10 rfl rfl rfl rfl rfl rfl rfl ⟨rfl, rfl, rfl, rfl, rfl⟩ rfl rfl rfl rfl rfl (by kernel_rfl) Try.func10 (by kernel_rfl)
    (of_decide_eq_true (by kernel_rfl)) (by unfold Func.isWrapper; first | (rw [if_pos (by decide +kernel)]; kernel_rfl) | (rw [if_neg (by decide +kernel)]; exact ⟨rfl, rfl⟩))
    (fun os started H enc _ => lifted_Charges os started H enc)
#print axioms holds_Charges
end Go.Proofs.Ytbkmnoedhilopaa
