


/-
  FnExactGasBalances and FnExactMoneyBalances: for every input the laws return true and their arguments read as before.
-/
import Derived.Test.YtclnfjpjmelfpaaLedF
namespace Go.Proofs.Ytclnfjpjmelfpaa
open Go.RowKit Go.ChangeShapes Go.WideShapes Go.ChangeAt Go.Deep Go.Joins

theorem gasR_len (ps : List Posting) : (gasR ps).1.length ≤ 1000000 := by unfold gasR; split <;> simp [balL_len]
theorem moneyR_len (ps : List Posting) : (moneyR ps).1.length ≤ 1000000 := by unfold moneyR; split <;> simp [balL_len]

set_option maxHeartbeats 4000000 in
theorem law_GasBalances (A : Option Addr) (n c : Nat) (ps : List Posting) (w : World) (hs : SliceOf w 4 Posting.cells A n c ps) :
    Calls Try.prog 9 #[.slice A n c] w (Ret (.bool true) w) := by
  have hcap := hs.cap
  have hmax := hs.max
  have hR := gasR_len ps
  have hLn := hs.len
  have HLn := hide hLn
  clear hLn
  go_enter Try.func9, Try.ntmps9
  go_wp2_with fail
  refine (c_szPostingS A n c 1048576 _ hcap hmax (by omega) (by omega)).mono ?_
  rintro e w' ⟨rfl, rfl⟩
  by_cases hn : (1048576 : Int) < n
  · rw [if_pos hn]
    go_wp2_with fail
    go_ret
    exact Ret.bool rfl (Ext.refl _)
  rw [if_neg hn]
  have hn' : n ≤ 1048576 := by omega
  have hpl : ps.length ≤ 1048576 := by rw [← HLn.out]; exact hn'
  go_wp2_with fail
  refine (c_toPostingS A n c ps _ hs hn').mono ?_
  rintro e w1 ⟨g1, rfl, hg1, hr1, hx1⟩
  go_wp2_with fail
  refine (c_specGasBalances  _ _ _ ps _ (hr1.slice post_len rfl (by omega))).mono ?_
  rintro e w2 ⟨A2, n2, c2, g2, rfl, hn2, hc2, hg2, ho2, hx2⟩
  go_wp2_with fail
  have hx02 := hx1.trans hx2
  refine (c_toPostingS A n c ps _ (hs.ext hx02) hn').mono ?_
  rintro e w3 ⟨g3, rfl, hg3, hr3, hx3⟩
  have hx03 := hx02.trans hx3
  go_wp2_with fail
  refine (c_GasBalances  _ _ _ ps _ (hr3.slice post_len rfl (by omega))).mono ?_
  rintro e w4 ⟨A4, n4, c4, g4, rfl, hn4, hc4, hg4, ho4, hx4⟩
  have hx04 := hx03.trans hx4
  have ho2' := ho2.ext (hx3.trans hx4)
  have hr3' := hr3.ext hx4
  have hl3 := hr3.lt
  go_wp2_with fail
  refine (c_eqInt64S _ _ _ _ _ _ (gasR ps).1 _ (ho4.slice intC_len hn4 hc4) (ho2'.slice intC_len hn2 hc2)).mono ?_
  rintro e w5 ⟨rfl, hx5⟩
  go_wp2_with fail
  have hx05 := hx04.trans hx5
  refine (c_toPostingS A n c ps _ (hs.ext hx05) hn').mono ?_
  rintro e w6 ⟨g6, rfl, hg6, hr6, hx6⟩
  go_wp2_with fail
  refine (c_eqPostingS _ _ _ _ _ _ ps _ ((hr3'.ext (hx5.trans hx6)).slice post_len rfl (by omega)) (hr6.slice post_len rfl (by omega))).mono ?_
  rintro e w7 ⟨rfl, hx7⟩
  have hx57 := hx5.trans (hx6.trans hx7)
  have hx07 := hx04.trans hx57
  go_wp2_with fail
  refine (c_markPostingS g3 _ _ _ ps 1 _ (OwnS.of_row (hr3'.ext hx57)) (by omega) (Nat.le_refl _) (by omega) (by omega) (by omega)).mono ?_
  rintro e w8 ⟨rfl, _, hk8⟩
  have hs2 := hx1.size
  have hs3 := hx02.size
  have hsz2 := fun h => ho2.lt h
  have ho2a := (ho2'.ext hx57).onlyz hk8 (fun h => by have := hsz2 h; omega)
  have ho4a := (ho4.ext hx57).onlyz hk8 (fun _ => by omega)
  have hx08 := hx07.only hk8 (by omega)
  go_wp2_with fail
  refine (c_eqInt64S _ _ _ _ _ _ (gasR ps).1 _ (ho4a.slice intC_len hn4 hc4) (ho2a.slice intC_len hn2 hc2)).mono ?_
  rintro e w9 ⟨rfl, hx9⟩
  have hl4 := ho4.1
  have hn4' : n4 ≤ 1000000000 := by omega
  have HL4 := hide hl4
  clear hl4
  go_wp2_with fail
  refine (c_markInt64S g4 _ _ _ (gasR ps).1 1 _ (ho4a.ext hx9) hn4' hn4 hc4 (by omega) (by omega)).mono ?_
  rintro e w10 ⟨rfl, ho10, hk10⟩
  have ho2b := (ho2a.ext hx9).onlyz hk10 (fun h => by have := hsz2 h; have := hx3.size; omega)
  have hx10 := (hx08.trans hx9).only hk10 (by have := hx03.size; omega)
  go_wp2_with fail
  refine (c_heldInt64S _ _ _ 1 _ (ho10.slice intC_len hn4 hc4) hn4' (by omega) (by omega)).mono ?_
  rintro e w' ⟨rfl, rfl⟩
  go_wp2_with fail
  refine (c_toPostingS A n c ps _ (hs.ext hx10) hn').mono ?_
  rintro e w11 ⟨g11, rfl, hg11, hr11, hx11⟩
  go_wp2_with fail
  refine (c_GasBalances  _ _ _ ps _ (hr11.slice post_len rfl (by omega))).mono ?_
  rintro e w12 ⟨A12, n12, c12, g12, rfl, hn12, hc12, hg12, ho12, hx12⟩
  have hxb := hx11.trans hx12
  go_wp2_with fail
  refine (c_eqInt64S _ _ _ _ _ _ (gasR ps).1 _ (ho12.slice intC_len hn12 hc12) ((ho2b.ext hxb).slice intC_len hn2 hc2)).mono ?_
  rintro e w13 ⟨rfl, hx13⟩
  go_wp2_with fail
  refine (c_heldInt64S _ _ _ 1 _ ((ho10.ext (hxb.trans hx13)).slice intC_len hn4 hc4) hn4' (by omega) (by omega)).mono ?_
  rintro e w' ⟨rfl, rfl⟩
  go_wp2_with fail
  go_ret
  exact Ret.bool rfl ((hx10.trans hxb).trans hx13)

set_option maxRecDepth 100000 in
theorem lifted_GasBalances (os : Os) (started : os.Started) (H : Type) (enc : TypeId × Value → H) :
    ReturnsInHanded {} Try.checked os 9 .any (Rows.fnExactGasBalancesSpec.pre6 enc Try.prog Try.f9 Rows.fnExactGasBalancesRow.domain false) (Rows.fnExactGasBalancesSpec.post enc Try.prog Try.f9 false true false false) := by
  refine returnsInHanded_of_change (C := Try.checked) own started (by kernel_rfl) Try.func9
    (ChangeSpec.witness6 (enc := enc) (C := Try.checked) false ⟨#[], #[.slice none 0 0], []⟩ 8 (by kernel_rfl) (by kernel_rfl) (by kernel_rfl) (by kernel_rfl)) ?_
  intro W base args ds gs before hval0 hW _ _
  have hval : ∀ (j : Nat) t v, Try.f9.params[j]? = some t → args[j]? = some v → Value.okWide Try.prog W .any base t v := hval0
  have hW' := hW
  obtain ⟨p, q, hA0, hV, rfl, hfz, hnd⟩ := hW
  have hA : DataW.TrodAll enc Try.prog W 0 (fun _ => true) true Try.f9.params.toList args.toList ds p := hA0
  rw [Try.params9] at hA hval
  obtain ⟨v0, vs0, d0, ds0, p0, q0, hargs, rfl, rfl, h0, r0⟩ := trodAll_cons hA
  obtain ⟨rfl, rfl, rfl⟩ := trodAll_nil r0
  obtain rfl : args = #[v0] := by cases args; simp_all
  obtain ⟨rfl, rfl⟩ := trodVars_none hV
  have k0 := h0
  have lt0 : ∀ x ∈ p0, x.block < W.heap.size := by obtain ⟨m, hm⟩ := k0; exact DataW.trod_lt m _ _ _ hm
  obtain ⟨A, n, c, ps, e0, hs⟩ := open_postings (hval 0 28 v0 rfl rfl) h0
  rw [e0]
  clear hA0 hval0
  refine (law_GasBalances A n c ps W hs).mono fun e W' ⟨he, bel⟩ => ?_
  subst he
  rw [e0] at hW'
  exact ⟨_, rfl, _, _, _, [], _, [], hW', trodAll_mk1 (shut_bool Try.underlying4 _), (trodAll_cons_mk (Below.trod laidOut (by kernel_rfl) (of_decide_eq_true (by kernel_rfl)) (e0 ▸ k0) bel lt0) trodAll_mk0), rfl, bel.frame _, fun h => by cases h⟩

theorem holds_GasBalances : Rows.FnExactGasBalancesSaid :=
  OpenClaim.holds_of_wide 9 Try.f9 rfl rfl rfl rfl rfl rfl rfl ⟨rfl, rfl, rfl, rfl, rfl⟩ rfl rfl rfl rfl rfl (by kernel_rfl) Try.func9 (by kernel_rfl)
    (of_decide_eq_true (by kernel_rfl)) (by unfold Func.isWrapper; first | (rw [if_pos (by decide +kernel)]; kernel_rfl) | (rw [if_neg (by decide +kernel)]; exact ⟨rfl, rfl⟩))
    (fun os started H enc _ => lifted_GasBalances os started H enc)
#print axioms holds_GasBalances

set_option maxHeartbeats 4000000 in
theorem law_MoneyBalances (A : Option Addr) (n c : Nat) (ps : List Posting) (w : World) (hs : SliceOf w 4 Posting.cells A n c ps) :
    Calls Try.prog 10 #[.slice A n c] w (Ret (.bool true) w) := by
  have hcap := hs.cap
  have hmax := hs.max
  have hR := moneyR_len ps
  have hLn := hs.len
  have HLn := hide hLn
  clear hLn
  go_enter Try.func10, Try.ntmps10
  go_wp2_with fail
  refine (c_szPostingS A n c 1048576 _ hcap hmax (by omega) (by omega)).mono ?_
  rintro e w' ⟨rfl, rfl⟩
  by_cases hn : (1048576 : Int) < n
  · rw [if_pos hn]
    go_wp2_with fail
    go_ret
    exact Ret.bool rfl (Ext.refl _)
  rw [if_neg hn]
  have hn' : n ≤ 1048576 := by omega
  have hpl : ps.length ≤ 1048576 := by rw [← HLn.out]; exact hn'
  go_wp2_with fail
  refine (c_toPostingS A n c ps _ hs hn').mono ?_
  rintro e w1 ⟨g1, rfl, hg1, hr1, hx1⟩
  go_wp2_with fail
  refine (c_specMoneyBalances  _ _ _ ps _ (hr1.slice post_len rfl (by omega))).mono ?_
  rintro e w2 ⟨A2, n2, c2, g2, rfl, hn2, hc2, hg2, ho2, hx2⟩
  go_wp2_with fail
  have hx02 := hx1.trans hx2
  refine (c_toPostingS A n c ps _ (hs.ext hx02) hn').mono ?_
  rintro e w3 ⟨g3, rfl, hg3, hr3, hx3⟩
  have hx03 := hx02.trans hx3
  go_wp2_with fail
  refine (c_MoneyBalances  _ _ _ ps _ (hr3.slice post_len rfl (by omega))).mono ?_
  rintro e w4 ⟨A4, n4, c4, g4, rfl, hn4, hc4, hg4, ho4, hx4⟩
  have hx04 := hx03.trans hx4
  have ho2' := ho2.ext (hx3.trans hx4)
  have hr3' := hr3.ext hx4
  have hl3 := hr3.lt
  go_wp2_with fail
  refine (c_eqInt64S _ _ _ _ _ _ (moneyR ps).1 _ (ho4.slice intC_len hn4 hc4) (ho2'.slice intC_len hn2 hc2)).mono ?_
  rintro e w5 ⟨rfl, hx5⟩
  go_wp2_with fail
  have hx05 := hx04.trans hx5
  refine (c_toPostingS A n c ps _ (hs.ext hx05) hn').mono ?_
  rintro e w6 ⟨g6, rfl, hg6, hr6, hx6⟩
  go_wp2_with fail
  refine (c_eqPostingS _ _ _ _ _ _ ps _ ((hr3'.ext (hx5.trans hx6)).slice post_len rfl (by omega)) (hr6.slice post_len rfl (by omega))).mono ?_
  rintro e w7 ⟨rfl, hx7⟩
  have hx57 := hx5.trans (hx6.trans hx7)
  have hx07 := hx04.trans hx57
  go_wp2_with fail
  refine (c_markPostingS g3 _ _ _ ps 1 _ (OwnS.of_row (hr3'.ext hx57)) (by omega) (Nat.le_refl _) (by omega) (by omega) (by omega)).mono ?_
  rintro e w8 ⟨rfl, _, hk8⟩
  have hs2 := hx1.size
  have hs3 := hx02.size
  have hsz2 := fun h => ho2.lt h
  have ho2a := (ho2'.ext hx57).onlyz hk8 (fun h => by have := hsz2 h; omega)
  have ho4a := (ho4.ext hx57).onlyz hk8 (fun _ => by omega)
  have hx08 := hx07.only hk8 (by omega)
  go_wp2_with fail
  refine (c_eqInt64S _ _ _ _ _ _ (moneyR ps).1 _ (ho4a.slice intC_len hn4 hc4) (ho2a.slice intC_len hn2 hc2)).mono ?_
  rintro e w9 ⟨rfl, hx9⟩
  have hl4 := ho4.1
  have hn4' : n4 ≤ 1000000000 := by omega
  have HL4 := hide hl4
  clear hl4
  go_wp2_with fail
  refine (c_markInt64S g4 _ _ _ (moneyR ps).1 1 _ (ho4a.ext hx9) hn4' hn4 hc4 (by omega) (by omega)).mono ?_
  rintro e w10 ⟨rfl, ho10, hk10⟩
  have ho2b := (ho2a.ext hx9).onlyz hk10 (fun h => by have := hsz2 h; have := hx3.size; omega)
  have hx10 := (hx08.trans hx9).only hk10 (by have := hx03.size; omega)
  go_wp2_with fail
  refine (c_heldInt64S _ _ _ 1 _ (ho10.slice intC_len hn4 hc4) hn4' (by omega) (by omega)).mono ?_
  rintro e w' ⟨rfl, rfl⟩
  go_wp2_with fail
  refine (c_toPostingS A n c ps _ (hs.ext hx10) hn').mono ?_
  rintro e w11 ⟨g11, rfl, hg11, hr11, hx11⟩
  go_wp2_with fail
  refine (c_MoneyBalances  _ _ _ ps _ (hr11.slice post_len rfl (by omega))).mono ?_
  rintro e w12 ⟨A12, n12, c12, g12, rfl, hn12, hc12, hg12, ho12, hx12⟩
  have hxb := hx11.trans hx12
  go_wp2_with fail
  refine (c_eqInt64S _ _ _ _ _ _ (moneyR ps).1 _ (ho12.slice intC_len hn12 hc12) ((ho2b.ext hxb).slice intC_len hn2 hc2)).mono ?_
  rintro e w13 ⟨rfl, hx13⟩
  go_wp2_with fail
  refine (c_heldInt64S _ _ _ 1 _ ((ho10.ext (hxb.trans hx13)).slice intC_len hn4 hc4) hn4' (by omega) (by omega)).mono ?_
  rintro e w' ⟨rfl, rfl⟩
  go_wp2_with fail
  go_ret
  exact Ret.bool rfl ((hx10.trans hxb).trans hx13)

set_option maxRecDepth 100000 in
theorem lifted_MoneyBalances (os : Os) (started : os.Started) (H : Type) (enc : TypeId × Value → H) :
    ReturnsInHanded {} Try.checked os 10 .any (Rows.fnExactMoneyBalancesSpec.pre6 enc Try.prog Try.f10 Rows.fnExactMoneyBalancesRow.domain false) (Rows.fnExactMoneyBalancesSpec.post enc Try.prog Try.f10 false true false false) := by
  refine returnsInHanded_of_change (C := Try.checked) own started (by kernel_rfl) Try.func10
    (ChangeSpec.witness6 (enc := enc) (C := Try.checked) false ⟨#[], #[.slice none 0 0], []⟩ 8 (by kernel_rfl) (by kernel_rfl) (by kernel_rfl) (by kernel_rfl)) ?_
  intro W base args ds gs before hval0 hW _ _
  have hval : ∀ (j : Nat) t v, Try.f10.params[j]? = some t → args[j]? = some v → Value.okWide Try.prog W .any base t v := hval0
  have hW' := hW
  obtain ⟨p, q, hA0, hV, rfl, hfz, hnd⟩ := hW
  have hA : DataW.TrodAll enc Try.prog W 0 (fun _ => true) true Try.f10.params.toList args.toList ds p := hA0
  rw [Try.params10] at hA hval
  obtain ⟨v0, vs0, d0, ds0, p0, q0, hargs, rfl, rfl, h0, r0⟩ := trodAll_cons hA
  obtain ⟨rfl, rfl, rfl⟩ := trodAll_nil r0
  obtain rfl : args = #[v0] := by cases args; simp_all
  obtain ⟨rfl, rfl⟩ := trodVars_none hV
  have k0 := h0
  have lt0 : ∀ x ∈ p0, x.block < W.heap.size := by obtain ⟨m, hm⟩ := k0; exact DataW.trod_lt m _ _ _ hm
  obtain ⟨A, n, c, ps, e0, hs⟩ := open_postings (hval 0 28 v0 rfl rfl) h0
  rw [e0]
  clear hA0 hval0
  refine (law_MoneyBalances A n c ps W hs).mono fun e W' ⟨he, bel⟩ => ?_
  subst he
  rw [e0] at hW'
  exact ⟨_, rfl, _, _, _, [], _, [], hW', trodAll_mk1 (shut_bool Try.underlying4 _), (trodAll_cons_mk (Below.trod laidOut (by kernel_rfl) (of_decide_eq_true (by kernel_rfl)) (e0 ▸ k0) bel lt0) trodAll_mk0), rfl, bel.frame _, fun h => by cases h⟩

theorem holds_MoneyBalances : Rows.FnExactMoneyBalancesSaid :=
  OpenClaim.holds_of_wide 10 Try.f10 rfl rfl rfl rfl rfl rfl rfl ⟨rfl, rfl, rfl, rfl, rfl⟩ rfl rfl rfl rfl rfl (by kernel_rfl) Try.func10 (by kernel_rfl)
    (of_decide_eq_true (by kernel_rfl)) (by unfold Func.isWrapper; first | (rw [if_pos (by decide +kernel)]; kernel_rfl) | (rw [if_neg (by decide +kernel)]; exact ⟨rfl, rfl⟩))
    (fun os started H enc _ => lifted_MoneyBalances os started H enc)
#print axioms holds_MoneyBalances
end Go.Proofs.Ytclnfjpjmelfpaa
