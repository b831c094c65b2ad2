

/-
  FnCashOut: for every code the law returns true and the code reads as before.
-/
import Derived.Test.YtbkmnoedhilopaaDrawV
import Derived.Test.YtbkmnoedhilopaaCshM
import Derived.Test.YtbkmnoedhilopaaCode
namespace Go.Proofs.Ytbkmnoedhilopaa
open Go.RowKit Go.ChangeShapes Go.WideShapes Go.ChangeAt Go.Deep Go.Joins

theorem c_size (x : Int) (w : World) (h0 : -1000000000 ≤ x) (h1 : x ≤ 1000000000) : Calls Try.prog 35 #[.int .i64 x] w fun e w' => e = .returned (.int .i64 (absI x)) ∧ w = w' := by
  by_cases hx : x < 0
  · have HA := hide (show absI x = -x by unfold absI; rw [if_pos hx])
    go_enter Try.func35, Try.ntmps35
    go_wp2_with fail
    go_ret
    exact ⟨by rw [HA.out]; rfl, rfl⟩
  · have HA := hide (show absI x = x by unfold absI; rw [if_neg hx])
    go_enter Try.func35, Try.ntmps35
    go_wp2_with fail
    go_ret
    exact ⟨by rw [HA.out]; rfl, rfl⟩

set_option maxHeartbeats 2000000 in
theorem law_CashOut (A : Option Addr) (n c : Nat) (bs : List Int) (w : World) (hbs : SliceOf w 1 byteC A n c bs) (hbd : ∀ z ∈ bs, 0 ≤ z ∧ z ≤ 255) :
    Calls Try.prog 11 #[.slice A n c] w (Ret (.bool true) w) := by
  have HD := hide hbd
  clear hbd
  by_cases hbig : (4096 : Int) < n
  · have hb : decide ((4096 : Int) < n) = true := by simpa using hbig
    go_enter Try.func11, Try.ntmps11
    go_wp2_with fail
    refine (c_big A n c _).mono ?_
    rw [hb]
    rintro e w' ⟨rfl, rfl⟩
    go_wp2_with fail
    go_ret
    exact Ret.bool rfl (Ext.refl _)
  have hb : decide ((4096 : Int) < n) = false := by simpa using hbig
  go_enter Try.func11, Try.ntmps11
  go_wp2_with fail
  refine (c_big A n c _).mono ?_
  rw [hb]
  rintro e w' ⟨rfl, rfl⟩
  clear hb
  go_wp2_with fail
  refine (c_DrawCashOut A n c bs _ hbs HD.out (by omega)).mono ?_
  rintro e w1 ⟨band, percent, price, bal, thr, A', n', c', g, ts, rfl, hq1, hq2, hq3, hq4, hnc, hcm, hg, hown, hx1⟩
  have hs := hown.slice tier_len hnc hcm
  clear hown hg
  obtain ⟨R, C, B, E, hR1, hR2, hways⟩ := cash_law band percent price ts bal thr
  have HR1 := hide hR1
  have HR2 := hide hR2
  have HW := hide hways
  clear hR1 hR2 hways
  go_wp2_with fail
  refine (c_CashOut band percent price bal thr A' n' c' ts _ (hs.ext (Ext.alloc _ _))).mono ?_
  rw [HR1.out]
  rintro e w2 ⟨rfl, hx2⟩
  have hx22 := hx2
  have hz2 := hx2.size
  simp at hz2
  have hz2' : w1.heap.size < w2.heap.size := by omega
  have hb2 : ∀ j, w2.cell? ⟨w1.heap.size, j, none⟩ = (w1.alloc (.cells #[.int .i64 band, .int .i64 percent, .int .i64 price, .slice A' n' c'] 29)).cell? ⟨w1.heap.size, j, none⟩ := fun j => hx22.cell _ _ (by simp)
  go_wp2_with fail
  refine (c_specCashOut band percent price bal thr A' n' c' ts _ (hs.ext hx22.box)).mono ?_
  rw [HR1.out]
  rintro e w3 ⟨rfl, hx3⟩
  have hx23 := hx22.trans hx3
  have hz3 := hx3.size
  have hz3' : w1.heap.size < w3.heap.size := by omega
  have hb3 : ∀ j, w3.cell? ⟨w1.heap.size, j, none⟩ = (w1.alloc (.cells #[.int .i64 band, .int .i64 percent, .int .i64 price, .slice A' n' c'] 29)).cell? ⟨w1.heap.size, j, none⟩ := fun j => hx23.cell _ _ (by simp)
  clear hb2
  go_wp2_with fail
  refine (c_ExcessOf band percent price bal thr A' n' c' ts _ (hs.ext hx23.box)).mono ?_
  rw [HR2.out]
  rintro e w4 ⟨rfl, hx4⟩
  have hx24 := hx23.trans hx4
  have hz4 := hx4.size
  have hz4' : w1.heap.size < w4.heap.size := by omega
  have hb4 : ∀ j, w4.cell? ⟨w1.heap.size, j, none⟩ = (w1.alloc (.cells #[.int .i64 band, .int .i64 percent, .int .i64 price, .slice A' n' c'] 29)).cell? ⟨w1.heap.size, j, none⟩ := fun j => hx24.cell _ _ (by simp)
  clear hb3
  go_wp2_with fail
  refine (c_specExcessOf band percent price bal thr A' n' c' ts _ (hs.ext hx24.box)).mono ?_
  rw [HR2.out]
  rintro e w5 ⟨rfl, hx5⟩
  have hx25 := hx24.trans hx5
  have hz5 := hx5.size
  have hz5' : w1.heap.size < w5.heap.size := by omega
  have hb5 : ∀ j, w5.cell? ⟨w1.heap.size, j, none⟩ = (w1.alloc (.cells #[.int .i64 band, .int .i64 percent, .int .i64 price, .slice A' n' c'] 29)).cell? ⟨w1.heap.size, j, none⟩ := fun j => hx25.cell _ _ (by simp)
  clear hb4
  rcases HW.out with hB | ⟨rfl, e0, e1, r0, r1, hre, T, hR3, hR4, hET, hRT⟩
  · go_wp2_with fail
    go_ret
    exact Ret.bool rfl (hx1.trans hx25.box)
  · have HR3 := hide hR3
    have HR4 := hide hR4
    clear hR3 hR4
    obtain ⟨ha0, ha1⟩ := absI_le e0 e1
    go_wp2_with fail
    refine (c_ToleranceFor band percent price thr A' n' c' ts _ (hs.ext hx25.box)).mono ?_
    rw [HR3.out]
    rintro e w6 ⟨rfl, hx6⟩
    have hx26 := hx25.trans hx6
    have hz6 := hx6.size
    have hz6' : w1.heap.size < w6.heap.size := by omega
    have hb6 : ∀ j, w6.cell? ⟨w1.heap.size, j, none⟩ = (w1.alloc (.cells #[.int .i64 band, .int .i64 percent, .int .i64 price, .slice A' n' c'] 29)).cell? ⟨w1.heap.size, j, none⟩ := fun j => hx26.cell _ _ (by simp)
    clear hb5
    go_wp2_with fail
    refine wp_region_ph [([0, 1], 2), ([], 3)] [4, 5, 6, 7, 8] (by kernel_rfl) (by kernel_rfl) (by intro c a w d v h; cases d <;> exact h) ?_
    simp only [wpPh, pickL, nthO]
    repeat (go_big_quiet_step (fail))
    refine wpQuiet_nil ?_
    go_wp2_with fail
    refine (c_size E _ e0 e1).mono ?_
    rintro e w' ⟨rfl, rfl⟩
    go_wp2_with fail
    refine ⟨Ext.refl _, wpQuiet_nil ?_⟩
    go_wp2_with fail
    refine (c_ChargeFor band percent price (absI E) A' n' c' ts _ (hs.ext hx26.box.drew)).mono ?_
    rw [HR4.out]
    rintro e w7 ⟨rfl, hx7⟩
    go_wp2_with fail
    refine ⟨hx7, ?_⟩
    repeat (go_big_quiet_step (fail))
    refine wpQuiet_nil ?_
    have HX := hide (hx1.trans (hx26.drew.trans hx7).box)
    rcases hET with hE | ⟨hE, hRT2⟩
    · go_wp2_with (go_at_call 35; refine (c_size R _ r0 r1).mono ?_; rintro e w' ⟨rfl, rfl⟩)
      go_ret
      exact Ret.bool rfl HX.out
    · go_wp2_with (go_at_call 35; refine (c_size R _ r0 r1).mono ?_; rintro e w' ⟨rfl, rfl⟩)
      go_ret
      exact Ret.bool rfl HX.out

set_option maxRecDepth 100000 in
theorem lifted_CashOut (os : Os) (started : os.Started) (H : Type) (enc : TypeId × Value → H) :
    ReturnsInHanded {} Try.checked os 11 .any (Rows.fnCashOutSpec.pre6 enc Try.prog Try.f11 Rows.fnCashOutRow.domain false) (Rows.fnCashOutSpec.post enc Try.prog Try.f11 false true false false) := by
  refine returnsInHanded_of_change (C := Try.checked) own started (by kernel_rfl) Try.func11
    (ChangeSpec.witness6 (enc := enc) (C := Try.checked) false ⟨#[], #[.slice none 0 0], []⟩ 8 (by kernel_rfl) (by kernel_rfl) (by kernel_rfl) (by kernel_rfl)) ?_
  intro W base args ds gs before hval0 hW _ _
  have hval : ∀ (j : Nat) t v, Try.f11.params[j]? = some t → args[j]? = some v → Value.okWide Try.prog W .any base t v := hval0
  have hW' := hW
  obtain ⟨p, q, hA0, hV, rfl, hfz, hnd⟩ := hW
  have hA : DataW.TrodAll enc Try.prog W 0 (fun _ => true) true Try.f11.params.toList args.toList ds p := hA0
  rw [Try.params11] at hA hval
  obtain ⟨v0, vs0, d0, ds0, p0, q0, hargs, rfl, rfl, h0, r0⟩ := trodAll_cons hA
  obtain ⟨rfl, rfl, rfl⟩ := trodAll_nil r0
  obtain rfl : args = #[v0] := by cases args; simp_all
  obtain ⟨rfl, rfl⟩ := trodVars_none hV
  have k0 := h0
  have lt0 : ∀ x ∈ p0, x.block < W.heap.size := by obtain ⟨m, hm⟩ := k0; exact DataW.trod_lt m _ _ _ hm
  obtain ⟨A, n, c, bs, e0, hs, hbd⟩ := open_bytes (hval 0 45 v0 rfl rfl) h0
  rw [e0]
  clear hA0 hval0
  refine (law_CashOut A n c bs W hs hbd).mono fun e W' ⟨he, bel⟩ => ?_
  subst he
  rw [e0] at hW'
  exact ⟨_, rfl, _, _, _, [], _, [], hW', trodAll_mk1 (shut_bool Try.underlying4 _), (trodAll_cons_mk (Below.trod laidOut (by kernel_rfl) (of_decide_eq_true (by kernel_rfl)) (e0 ▸ k0) bel lt0) trodAll_mk0), rfl, bel.frame _, fun h => by cases h⟩

theorem holds_CashOut : Rows.FnCashOutSaid :=
  OpenClaim.holds_of_wide 11 Try.f11 rfl rfl rfl rfl rfl rfl rfl ⟨rfl, rfl, rfl, rfl, rfl⟩ rfl rfl rfl rfl rfl (by kernel_rfl) Try.func11 (by kernel_rfl)
    (of_decide_eq_true (by kernel_rfl)) (by unfold Func.isWrapper; first | (rw [if_pos (by decide +kernel)]; kernel_rfl) | (rw [if_neg (by decide +kernel)]; exact ⟨rfl, rfl⟩))
    (fun os started H enc _ => lifted_CashOut os started H enc)
#print axioms holds_CashOut
end Go.Proofs.Ytbkmnoedhilopaa
