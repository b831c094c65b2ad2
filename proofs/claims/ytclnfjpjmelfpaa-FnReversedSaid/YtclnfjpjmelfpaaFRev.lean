

/-
  FnReversed: for every code the law returns true and the code reads as before.
-/
import Derived.Test.YtclnfjpjmelfpaaDrawQ
import Derived.Test.YtclnfjpjmelfpaaLike
import Derived.Test.YtclnfjpjmelfpaaLedLaw
import Derived.Test.YtclnfjpjmelfpaaCode
namespace Go.Proofs.Ytclnfjpjmelfpaa
open Go.RowKit Go.ChangeShapes Go.WideShapes Go.ChangeAt Go.Deep Go.Joins

set_option maxHeartbeats 2000000 in
theorem law_Reversed (A : Option Addr) (n c : Nat) (bs : List Int) (w : World) (hbs : SliceOf w 1 byteC A n c bs) (hbd : ∀ z ∈ bs, 0 ≤ z ∧ z ≤ 255) :
    Calls Try.prog 12 #[.slice A n c] w (Ret (.bool true) w) := by
  have HD := hide hbd
  clear hbd
  by_cases hbig : (4096 : Int) < n
  · have hb : decide ((4096 : Int) < n) = true := by simpa using hbig
    go_enter Try.func12, Try.ntmps12
    go_wp2_with fail
    refine (c_big A n c _).mono ?_
    rw [hb]
    rintro e w' ⟨rfl, rfl⟩
    go_wp2_with fail
    go_ret
    exact Ret.bool rfl (Ext.refl _)
  have hb : decide ((4096 : Int) < n) = false := by simpa using hbig
  go_enter Try.func12, Try.ntmps12
  go_wp2_with fail
  refine (c_big A n c _).mono ?_
  rw [hb]
  rintro e w' ⟨rfl, rfl⟩
  clear hb
  go_wp2_with fail
  refine (c_DrawReverseLedger A n c bs _ hbs HD.out (by omega)).mono ?_
  rintro e w1 ⟨A', n', c', ps, rfl, hn', hs, hx1⟩
  obtain ⟨R, B, hR, hways⟩ := rev_law ps
  have HR := hide hR
  have HW := hide hways
  clear hR hways
  go_wp2_with fail
  refine (c_ReverseLedger A' n' c' ps _ hs).mono ?_
  rw [HR.out]
  rintro e w2 ⟨A2, n2, c2, g2, rfl, hn2, hc2, hg2, ho2, hx2⟩
  go_wp2_with fail
  refine (c_specReverseLedger A' n' c' ps _ (hs.ext hx2)).mono ?_
  rw [HR.out]
  rintro e w3 ⟨A3, n3, c3, g3, rfl, hn3, hc3, hg3, ho3, hx3⟩
  have hx13 := hx2.trans hx3
  go_wp2_with fail
  refine (c_likePostings _ _ _ _ _ _ R _ ((ho2.ext hx3).slice post_len hn2 hc2) (ho3.slice post_len hn3 hc3)).mono ?_
  rintro e w4 ⟨rfl, hx4⟩
  have hx14 := hx13.trans hx4
  go_wp2_with fail
  refine (c_IsSettled A' n' c' ps _ (hs.ext hx14)).mono ?_
  rintro e w5 ⟨rfl, hx5⟩
  have hx15 := hx14.trans hx5
  go_wp2_with fail
  refine (c_specIsSettled A' n' c' ps _ (hs.ext hx15)).mono ?_
  rintro e w6 ⟨rfl, hx6⟩
  have hx16 := hx15.trans hx6
  rcases HW.out with hB | ⟨rfl, rfl, hback, J, D, hJ, hD⟩
  · go_wp2_with fail
    go_ret
    exact Ret.bool rfl (hx1.trans hx16)
  · have HBK := hide hback
    have HJ := hide hJ
    have hs6 := hs.ext hx16
    have hr6 := (ho2.ext (hx3.trans (hx4.trans (hx5.trans hx6)))).slice post_len hn2 hc2
    have hl := hs.len
    have HLEN := hide hl
    have hmx := hs.max
    have hcp := hs.cap
    clear hback hJ hl
    go_wp2_with fail
    refine (c_ReverseLedger A2 n2 c2 _ _ hr6).mono ?_
    rw [HBK.out]
    rintro e w7 ⟨A7, n7, c7, g7, rfl, hn7, hc7, hg7, ho7, hx7⟩
    go_wp2_with fail
    refine (c_JoinLedgers A' A2 n' c' n2 c2 ps _ _ (hs6.ext hx7) (hr6.ext hx7)).mono ?_
    rw [HJ.out]
    rintro e w8 ⟨A8, n8, c8, g8, rfl, hn8, hc8, hg8, ho8, hx8⟩
    have hx78 := hx7.trans hx8
    go_wp2_with fail
    refine (c_likePostings _ _ _ _ _ _ ps _ ((ho7.ext hx8).slice post_len hn7 hc7) (hs6.ext hx78)).mono ?_
    rintro e w9 ⟨rfl, hx9⟩
    have hx69 := hx78.trans hx9
    rcases hD with hD | ⟨rfl, hset, hlen⟩
    · go_wp2_with fail
      go_ret
      exact Ret.bool rfl (hx1.trans (hx16.trans hx69))
    · have hn8' : n8 = 2 * n' := by rw [ho8.1, hlen, HLEN.out]
      have HS := hide hset
      have hJ8 := (ho8.ext hx9).slice post_len hn8 hc8
      subst hn8'
      clear ho8 hset hlen
      go_wp2_with fail
      refine (c_IsSettled A8 _ c8 J _ hJ8).mono ?_
      rw [HS.out]
      rintro e w10 ⟨rfl, hx10⟩
      have e2 : IntKind.i64.wrap (2 * (n' : Int)) = 2 * (n' : Int) := IntWalk.i64_in _ (by omega)
      go_wp2_with fail
      go_ret
      exact Ret.bool rfl (hx1.trans (hx16.trans (hx69.trans hx10)))

set_option maxRecDepth 100000 in
theorem lifted_Reversed (os : Os) (started : os.Started) (H : Type) (enc : TypeId × Value → H) :
    ReturnsInHanded {} Try.checked os 12 .any (Rows.fnReversedSpec.pre6 enc Try.prog Try.f12 Rows.fnReversedRow.domain false) (Rows.fnReversedSpec.post enc Try.prog Try.f12 false true false false) := by
  refine returnsInHanded_of_change (C := Try.checked) own started (by kernel_rfl) Try.func12
    (ChangeSpec.witness6 (enc := enc) (C := Try.checked) false ⟨#[], #[.slice none 0 0], []⟩ 8 (by kernel_rfl) (by kernel_rfl) (by kernel_rfl) (by kernel_rfl)) ?_
  intro W base args ds gs before hval0 hW _ _
  have hval : ∀ (j : Nat) t v, Try.f12.params[j]? = some t → args[j]? = some v → Value.okWide Try.prog W .any base t v := hval0
  have hW' := hW
  obtain ⟨p, q, hA0, hV, rfl, hfz, hnd⟩ := hW
  have hA : DataW.TrodAll enc Try.prog W 0 (fun _ => true) true Try.f12.params.toList args.toList ds p := hA0
  rw [Try.params12] at hA hval
  obtain ⟨v0, vs0, d0, ds0, p0, q0, hargs, rfl, rfl, h0, r0⟩ := trodAll_cons hA
  obtain ⟨rfl, rfl, rfl⟩ := trodAll_nil r0
  obtain rfl : args = #[v0] := by cases args; simp_all
  obtain ⟨rfl, rfl⟩ := trodVars_none hV
  have k0 := h0
  have lt0 : ∀ x ∈ p0, x.block < W.heap.size := by obtain ⟨m, hm⟩ := k0; exact DataW.trod_lt m _ _ _ hm
  obtain ⟨A, n, c, bs, e0, hs, hbd⟩ := open_bytes (hval 0 35 v0 rfl rfl) h0
  rw [e0]
  clear hA0 hval0
  refine (law_Reversed A n c bs W hs hbd).mono fun e W' ⟨he, bel⟩ => ?_
  subst he
  rw [e0] at hW'
  exact ⟨_, rfl, _, _, _, [], _, [], hW', trodAll_mk1 (shut_bool Try.underlying4 _), (trodAll_cons_mk (Below.trod laidOut (by kernel_rfl) (of_decide_eq_true (by kernel_rfl)) (e0 ▸ k0) bel lt0) trodAll_mk0), rfl, bel.frame _, fun h => by cases h⟩

theorem holds_Reversed : Rows.FnReversedSaid :=
  OpenClaim.holds_of_wide 12 Try.f12 rfl rfl rfl rfl rfl rfl rfl ⟨rfl, rfl, rfl, rfl, rfl⟩ rfl rfl rfl rfl rfl (by kernel_rfl) Try.func12 (by kernel_rfl)
    (of_decide_eq_true (by kernel_rfl)) (by unfold Func.isWrapper; first | (rw [if_pos (by decide +kernel)]; kernel_rfl) | (rw [if_neg (by decide +kernel)]; exact ⟨rfl, rfl⟩))
    (fun os started H enc _ => lifted_Reversed os started H enc)
#print axioms holds_Reversed
end Go.Proofs.Ytclnfjpjmelfpaa
