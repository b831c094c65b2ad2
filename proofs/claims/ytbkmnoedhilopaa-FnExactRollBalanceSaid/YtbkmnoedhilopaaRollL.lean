

/-
  FnExactRollBalance: for every input the law returns true and its arguments read as before.
-/
import Derived.Test.YtbkmnoedhilopaaTermsR
import Derived.Test.YtbkmnoedhilopaaTermsG
namespace Go.Proofs.Ytbkmnoedhilopaa
open Go.RowKit Go.ChangeShapes Go.WideShapes Go.ChangeAt Go.Deep Go.Joins

set_option maxHeartbeats 2000000 in
theorem law_RollBalance (band percent price : Int) (A : Option Addr) (n c : Nat) (ts : List Tier) (A1 A2 : Option Addr) (n1 c1 n2 c2 : Nat) (cs th : List Int) (w : World)
    (hs : SliceOf w 2 Tier.cells A n c ts) (hcs : SliceOf w 1 intC A1 n1 c1 cs) (hth : SliceOf w 1 intC A2 n2 c2 th) :
    Calls Try.prog 9 #[.agg #[.int .i64 band, .int .i64 percent, .int .i64 price, .slice A n c], .slice A1 n1 c1, .slice A2 n2 c2] w (Ret (.bool true) w) := by
  have hcap := hs.cap
  have hmax := hs.max
  have hcap1 := hcs.cap
  have hmax1 := hcs.max
  have hcap2 := hth.cap
  have hmax2 := hth.max
  by_cases hn1 : 1048576 < n1
  · go_enter Try.func9, Try.ntmps9
    go_wp2_with fail
    go_ret
    exact Ret.bool rfl (Ext.alloc _ _)
  by_cases hn2 : 1048576 < n2
  · go_enter Try.func9, Try.ntmps9
    go_wp2_with fail
    go_ret
    exact Ret.bool rfl (Ext.alloc _ _)
  go_enter Try.func9, Try.ntmps9
  go_wp2_with fail
  refine (c_szTerms band percent price 1048576 A n c _ hcap hmax (by omega) (by omega)).mono ?_
  rintro e w1 ⟨rfl, hx1⟩
  by_cases hn : (1048576 : Int) < n
  · rw [if_pos hn]
    go_wp2_with fail
    go_ret
    exact Ret.bool rfl hx1.box
  rw [if_neg hn]
  have hn' : n ≤ 1048576 := by omega
  have hl := hs.len
  have hl1 := hcs.len
  have hl2 := hth.len
  have HL := hide hl
  have HL1 := hide hl1
  have HL2 := hide hl2
  clear hl hl1 hl2
  have hcl1 := hx1.cell
  go_wp2_with fail
  refine (c_toTerms band percent price A n c ts _ (hs.ext hx1.box) hn').mono ?_
  rintro e w2 ⟨g2, rfl, hg2, hr2, hx2⟩
  go_wp2_with fail
  refine (c_toInt64S A1 n1 c1 cs _ (hcs.ext (hx1.box.trans hx2)) (by omega)).mono ?_
  rintro e w3 ⟨g3, rfl, hg3, hr3, hx3⟩
  go_wp2_with fail
  refine (c_toInt64S A2 n2 c2 th _ (hth.ext ((hx1.box.trans hx2).trans hx3)) (by omega)).mono ?_
  rintro e w4 ⟨g4, rfl, hg4, hr4, hx4⟩
  go_wp2_with fail
  refine (c_specRollBalance band percent price _ _ _ ts _ ((hr2.ext (hx3.trans hx4)).slice tier_len rfl (by have := HL.out; omega)) _ _ _ _ _ _ cs th ((hr3.ext hx4).slice intC_len rfl (by have := HL1.out; omega)) (hr4.slice intC_len rfl (by have := HL2.out; omega))).mono ?_
  rintro e w5 ⟨rfl, hx5⟩
  have hx15 := hx1.trans (((hx2.trans hx3).trans hx4).trans hx5)
  have hcl5 := hx15.cell
  clear hcl1
  go_wp2_with fail
  refine (c_toTerms band percent price A n c ts _ (hs.ext hx15.box) hn').mono ?_
  rintro e w6 ⟨g6, rfl, hg6, hr6, hx6⟩
  go_wp2_with fail
  have hx16 := hx15.box.trans hx6
  refine (c_toInt64S A1 n1 c1 cs _ (hcs.ext (hx16.and_alloc _)) (by omega)).mono ?_
  rintro e w7 ⟨g7, rfl, hg7, hr7, hx7⟩
  go_wp2_with fail
  refine (c_toInt64S A2 n2 c2 th _ (hth.ext (hx16.after hx7)) (by omega)).mono ?_
  rintro e w8 ⟨g8, rfl, hg8, hr8, hx8⟩
  have hx68 := hx7.trans hx8
  have hcl8 := hx68.cell
  clear hcl5
  go_wp2_with fail
  refine (c_RollBalance band percent price _ _ _ ts _ ((hr6.ext hx68.box).slice tier_len rfl (by have := HL.out; omega)) _ _ _ _ _ _ cs th ((hr7.ext hx8).slice intC_len rfl (by have := HL1.out; omega)) (hr8.slice intC_len rfl (by have := HL2.out; omega))).mono ?_
  rintro e w9 ⟨rfl, hx9⟩
  have hx69 := hx68.trans hx9
  have hx19 := hx15.trans (hx6.after hx69)
  have hcl9 := hx69.cell
  have hz9 := hx69.size
  have hz6 := (hx15.trans hx6).size
  simp at hz9 hz6
  have hz9' : w6.heap.size < w9.heap.size := by omega
  have hz0 : w.heap.size < w9.heap.size := by omega
  have hb0 : ∀ j, w9.cell? ⟨w.heap.size, j, none⟩ = (w.alloc (.cells #[.int .i64 band, .int .i64 percent, .int .i64 price, .slice A n c] 24)).cell? ⟨w.heap.size, j, none⟩ := fun j => hx19.cell _ _ (by simp)
  clear hcl8
  go_wp2_with fail
  refine wp_region_ph [([0, 1], 2), ([], 3)] [4] (by kernel_rfl) (by kernel_rfl) (by intro c a w d v h; cases d <;> exact h) ?_
  simp only [wpPh, pickL, nthO]
  repeat (go_big_quiet_step (fail))
  refine wpQuiet_nil ?_
  go_wp2_with fail
  refine (c_toTerms band percent price A n c ts _ (hs.ext hx19.box.drew) hn').mono ?_
  rintro e w10 ⟨g10, rfl, hg10, hr10, hx10⟩
  go_wp2_with fail
  refine ⟨hx10, wpQuiet_nil ?_⟩
  go_wp2_with fail
  refine (c_eqTerms band percent price _ _ _ _ _ _ ts _ ((hr6.ext (hx69.box.drew.trans hx10)).slice tier_len rfl (by have := HL.out; omega)) (hr10.slice tier_len rfl (by have := HL.out; omega))).mono ?_
  rintro e w11 ⟨rfl, hx11⟩
  go_wp2_with fail
  refine ⟨hx11, ?_⟩
  repeat (go_big_quiet_step (fail))
  refine wpQuiet_nil ?_
  have hx9b := (hx10.trans hx11)
  have hxw := hx19.box.drew.trans hx9b
  go_wp2_with fail
  refine (c_toInt64S A1 n1 c1 cs _ (hcs.ext hxw) (by omega)).mono ?_
  rintro e w12 ⟨g12, rfl, hg12, hr12, hx12⟩
  go_wp2_with fail
  refine (c_eqInt64S _ _ _ _ _ _ cs _ ((hr7.ext ((hx8.trans hx9).drew.trans (hx9b.trans hx12))).slice intC_len rfl (by have := HL1.out; omega)) (hr12.slice intC_len rfl (by have := HL1.out; omega))).mono ?_
  rintro e w13 ⟨rfl, hx13⟩
  go_wp2_with fail
  refine (c_toInt64S A2 n2 c2 th _ (hth.ext ((hxw.trans hx12).trans hx13)) (by omega)).mono ?_
  rintro e w14 ⟨g14, rfl, hg14, hr14, hx14⟩
  go_wp2_with fail
  refine (c_eqInt64S _ _ _ _ _ _ th _ ((hr8.ext (hx9.drew.trans (hx9b.trans ((hx12.trans hx13).trans hx14)))).slice intC_len rfl (by have := HL2.out; omega)) (hr14.slice intC_len rfl (by have := HL2.out; omega))).mono ?_
  rintro e w15 ⟨rfl, hx15'⟩
  go_wp2_with fail
  go_ret
  exact Ret.bool rfl ((((hxw.trans hx12).trans hx13).trans hx14).trans hx15')

set_option maxRecDepth 100000 in
theorem lifted_RollBalance (os : Os) (started : os.Started) (H : Type) (enc : TypeId × Value → H) :
    ReturnsInHanded {} Try.checked os 9 .any (Rows.fnExactRollBalanceSpec.pre6 enc Try.prog Try.f9 Rows.fnExactRollBalanceRow.domain false) (Rows.fnExactRollBalanceSpec.post enc Try.prog Try.f9 false true false false) := by
  refine returnsInHanded_of_change (C := Try.checked) own started (by kernel_rfl) Try.func9
    (ChangeSpec.witness6 (enc := enc) (C := Try.checked) false ⟨#[], #[.agg #[.int .i64 0, .int .i64 0, .int .i64 0, .slice none 0 0], .slice none 0 0, .slice none 0 0], []⟩ 8 (by kernel_rfl) (by kernel_rfl) (by kernel_rfl) (by kernel_rfl)) ?_
  intro W base args ds gs before hval0 hW _ _
  have hval : ∀ (j : Nat) t v, Try.f9.params[j]? = some t → args[j]? = some v → Value.okWide Try.prog W .any base t v := hval0
  have hW' := hW
  obtain ⟨p, q, hA0, hV, rfl, hfz, hnd⟩ := hW
  have hA : DataW.TrodAll enc Try.prog W 0 (fun _ => true) true Try.f9.params.toList args.toList ds p := hA0
  rw [Try.params9] at hA hval
  obtain ⟨v0, vs0, d0, ds0, p0, q0, hargs, rfl, rfl, h0, r0⟩ := trodAll_cons hA
  obtain ⟨v1, vs1, d1, ds1, p1, q1, rfl, rfl, rfl, h1, r1⟩ := trodAll_cons r0
  obtain ⟨v2, vs2, d2, ds2, p2, q2, rfl, rfl, rfl, h2, r2⟩ := trodAll_cons r1
  obtain ⟨rfl, rfl, rfl⟩ := trodAll_nil r2
  obtain rfl : args = #[v0, v1, v2] := by cases args; simp_all
  obtain ⟨rfl, rfl⟩ := trodVars_none hV
  have k0 := h0
  have k1 := h1
  have k2 := h2
  have lt0 : ∀ x ∈ p0, x.block < W.heap.size := by obtain ⟨m, hm⟩ := k0; exact DataW.trod_lt m _ _ _ hm
  have lt1 : ∀ x ∈ p1, x.block < W.heap.size := by obtain ⟨m, hm⟩ := k1; exact DataW.trod_lt m _ _ _ hm
  have lt2 : ∀ x ∈ p2, x.block < W.heap.size := by obtain ⟨m, hm⟩ := k2; exact DataW.trod_lt m _ _ _ hm
  obtain ⟨band, percent, price, A, n, c, ts, rfl, hs⟩ := open_terms (hval 0 24 v0 rfl rfl) h0
  obtain ⟨a1, len1, cap1, rfl⟩ := okWide_slice Try.underlying40 (hval 1 40 v1 rfl rfl)
  obtain ⟨a2, len2, cap2, rfl⟩ := okWide_slice Try.underlying40 (hval 2 40 v2 rfl rfl)
  obtain ⟨f1, hf1⟩ := h1
  obtain ⟨A1, n1, c1, cs, e1, _, hcs⟩ := open_nums Try.underlying40 Try.underlying2 (by kernel_rfl) hf1
  obtain ⟨f2, hf2⟩ := h2
  obtain ⟨A2, n2, c2, th, e2, _, hth⟩ := open_nums Try.underlying40 Try.underlying2 (by kernel_rfl) hf2
  rw [e1, e2]
  clear hA0 hval0
  refine (law_RollBalance band percent price A n c ts A1 A2 n1 c1 n2 c2 cs th W hs hcs hth).mono fun e W' ⟨he, bel⟩ => ?_
  subst he
  rw [e1, e2] at hW'
  exact ⟨_, rfl, _, _, _, [], _, [], hW', trodAll_mk1 (shut_bool Try.underlying4 _), (trodAll_cons_mk (Below.trod laidOut (by kernel_rfl) (of_decide_eq_true (by kernel_rfl)) k0 bel lt0) (trodAll_cons_mk (Below.trod laidOut (by kernel_rfl) (of_decide_eq_true (by kernel_rfl)) (e1 ▸ k1) bel lt1) (trodAll_cons_mk (Below.trod laidOut (by kernel_rfl) (of_decide_eq_true (by kernel_rfl)) (e2 ▸ k2) bel lt2) trodAll_mk0))), rfl, bel.frame _, fun h => by cases h⟩

theorem holds_RollBalance : Rows.FnExactRollBalanceSaid :=
  OpenClaim.holds_of_wide 9 Try.f9 rfl rfl rfl rfl rfl rfl rfl ⟨rfl, rfl, rfl, rfl, rfl⟩ rfl rfl rfl rfl rfl (by kernel_rfl) Try.func9 (by kernel_rfl)
    (of_decide_eq_true (by kernel_rfl)) (by unfold Func.isWrapper; first | (rw [if_pos (by decide +kernel)]; kernel_rfl) | (rw [if_neg (by decide +kernel)]; exact ⟨rfl, rfl⟩))
    (fun os started H enc _ => lifted_RollBalance os started H enc)
#print axioms holds_RollBalance
end Go.Proofs.Ytbkmnoedhilopaa
