

/-
  FnLedgers: for every code the law returns true and the code reads as before.
-/
import Derived.Test.YtclnfjpjmelfpaaDrawQ
import Derived.Test.YtclnfjpjmelfpaaLike
import Derived.Test.YtclnfjpjmelfpaaLedLaw
import Derived.Test.YtclnfjpjmelfpaaCode
namespace Go.Proofs.Ytclnfjpjmelfpaa
open Go.RowKit Go.ChangeShapes Go.WideShapes Go.ChangeAt Go.Deep Go.Joins

theorem c_sum (A : Option Addr) (n c : Nat) (zs : List Int) (w : World) (hs : SliceOf w 1 intC A n c zs) (hz : ∀ z ∈ zs, -300000000000000000 ≤ z ∧ z ≤ 300000000000000000) (hn : n ≤ 24) :
    Calls Try.prog 47 #[.slice A n c] w fun e w' => e = .returned (.int .i64 (sumI zs)) ∧ w = w' := by
  have HZ := hide hz
  clear hz
  have hm := hs.max
  have hcp := hs.cap
  go_enter Try.func47, Try.ntmps47
  go_wp2_with fail
  go_loop [3, 4] (fun q i => ∃ (k : Nat) (S : Int), k ≤ n ∧ q = .int .i64 S ∧ i = .int .i64 k ∧ -(300000000000000000 * (k : Int)) ≤ S ∧ S ≤ 300000000000000000 * (k : Int) ∧ Hid (S = sumI (zs.take k))) (fun _ i => n - (intOf i).toNat)
  case atStart => exact ⟨0, 0, Nat.zero_le _, rfl, rfl, by omega, by omega, hide (by simp [sumI])⟩
  case round =>
    obtain ⟨k, S, hk, rfl, rfl, hS0, hS1, HS⟩ := hrel
    by_cases hlt : k < n
    · obtain ⟨b, off, x, rfl, hb, hxk, hc0⟩ := hs.get1 hlt
      obtain ⟨x0, x1⟩ := HZ.out x (List.mem_of_getElem? hxk)
      have HX := hide (show S + x = sumI (zs.take (k + 1)) by rw [takeI_snoc hxk, sumI_snoc, HS.out])
      clear hxk HS
      go_wp2_with fail
      go_round
      case rel => exact ⟨k + 1, _, by omega, rfl, by go_num, by omega, by omega, HX⟩
      case measure => simp [intOf]; omega
    · go_wp2_with fail
      go_ret
      have := HS.out
      rw [List.take_of_length_le (by have := hs.len; omega)] at this
      exact ⟨by rw [← this]; rfl, rfl⟩

set_option maxHeartbeats 4000000 in
theorem law_Ledgers (A : Option Addr) (n c : Nat) (bs : List Int) (w : World) (hbs : SliceOf w 1 byteC A n c bs) (hbd : ∀ z ∈ bs, 0 ≤ z ∧ z ≤ 255) :
    Calls Try.prog 13 #[.slice A n c] w (Ret (.bool true) w) := by
  have HD := hide hbd
  clear hbd
  by_cases hbig : (4096 : Int) < n
  · have hb : decide ((4096 : Int) < n) = true := by simpa using hbig
    go_enter Try.func13, Try.ntmps13
    go_wp2_with fail
    refine (c_big A n c _).mono ?_
    rw [hb]
    rintro e w' ⟨rfl, rfl⟩
    go_wp2_with fail
    go_ret
    exact Ret.bool rfl (Ext.refl _)
  have hb : decide ((4096 : Int) < n) = false := by simpa using hbig
  go_enter Try.func13, Try.ntmps13
  go_wp2_with fail
  refine (c_big A n c _).mono ?_
  rw [hb]
  rintro e w' ⟨rfl, rfl⟩
  clear hb
  go_wp2_with fail
  refine (c_DrawSettleLedger A n c bs _ hbs HD.out (by omega)).mono ?_
  rintro e w1 ⟨A', n', c', ps, acc, rfl, hn', hs, hx1⟩
  obtain ⟨R, B, hR, hways⟩ := set_law acc ps
  obtain ⟨G, BG, hG, hG1, hG2, hG3⟩ := gas_law ps
  obtain ⟨M, BM, hM, hM1, hM2, hM3⟩ := money_law ps
  have HR := hide hR
  have HW := hide hways
  have HG := hide hG
  have HG2 := hide hG2
  have HG3 := hide hG3
  have HM := hide hM
  have HM2 := hide hM2
  have HM3 := hide hM3
  clear hR hways hG hG2 hG3 hM hM2 hM3
  go_wp2_with fail
  refine (c_SettleLedger acc A' n' c' ps _ hs).mono ?_
  rw [HR.out]
  rintro e w2 ⟨A2, n2, c2, g2, rfl, hn2, hc2, hg2, ho2, hx2⟩
  go_wp2_with fail
  refine (c_specSettleLedger acc A' n' c' ps _ (hs.ext hx2)).mono ?_
  rw [HR.out]
  rintro e w3 ⟨A3, n3, c3, g3, rfl, hn3, hc3, hg3, ho3, hx3⟩
  have hx13 := hx2.trans hx3
  go_wp2_with fail
  refine (c_GasBalances A' n' c' ps _ (hs.ext hx13)).mono ?_
  rw [HG.out]
  rintro e w4 ⟨A4, n4, c4, g4, rfl, hn4, hc4, hg4, ho4, hx4⟩
  have hx14 := hx13.trans hx4
  go_wp2_with fail
  refine (c_specGasBalances A' n' c' ps _ (hs.ext hx14)).mono ?_
  rw [HG.out]
  rintro e w5 ⟨A5, n5, c5, g5, rfl, hn5, hc5, hg5, ho5, hx5⟩
  have hx15 := hx14.trans hx5
  go_wp2_with fail
  refine (c_MoneyBalances A' n' c' ps _ (hs.ext hx15)).mono ?_
  rw [HM.out]
  rintro e w6 ⟨A6, n6, c6, g6, rfl, hn6, hc6, hg6, ho6, hx6⟩
  have hx16 := hx15.trans hx6
  go_wp2_with fail
  refine (c_specMoneyBalances A' n' c' ps _ (hs.ext hx16)).mono ?_
  rw [HM.out]
  rintro e w7 ⟨A7, n7, c7, g7, rfl, hn7, hc7, hg7, ho7, hx7⟩
  have hx17 := hx16.trans hx7
  have s2 := (ho2.ext (hx3.trans (hx4.trans (hx5.trans (hx6.trans hx7))))).slice post_len hn2 hc2
  have s3 := (ho3.ext (hx4.trans (hx5.trans (hx6.trans hx7)))).slice post_len hn3 hc3
  have s4 := (ho4.ext (hx5.trans (hx6.trans hx7))).slice intC_len hn4 hc4
  have s5 := (ho5.ext (hx6.trans hx7)).slice intC_len hn5 hc5
  have s6 := (ho6.ext hx7).slice intC_len hn6 hc6
  have s7 := ho7.slice intC_len hn7 hc7
  have hn4' : n4 ≤ 24 := by rw [s4.len]; exact hG1
  have hn6' : n6 ≤ 24 := by rw [s6.len]; exact hM1
  clear ho2 ho3 ho4 ho5 ho6 ho7 hG1 hM1
  go_wp2_with fail
  refine (c_likePostings _ _ _ _ _ _ R _ s2 s3).mono ?_
  rintro e w8 ⟨rfl, hx8⟩
  go_wp2_with fail
  refine (c_likeInts _ _ _ _ _ _ G _ (s4.ext hx8) (s5.ext hx8)).mono ?_
  rintro e w9 ⟨rfl, hx9⟩
  have hx79 := hx8.trans hx9
  go_wp2_with fail
  refine (c_likeInts _ _ _ _ _ _ M _ (s6.ext hx79) (s7.ext hx79)).mono ?_
  rintro e w10 ⟨rfl, hx10⟩
  have hx710 := hx79.trans hx10
  go_wp2_with fail
  refine (c_sum _ _ _ G _ (s4.ext hx710) HG2.out hn4').mono ?_
  rw [HG3.out]
  rintro e w' ⟨rfl, rfl⟩
  go_wp2_with fail
  refine (c_sum _ _ _ M _ (s6.ext hx710) HM2.out hn6').mono ?_
  rw [HM3.out]
  rintro e w' ⟨rfl, rfl⟩
  rcases HW.out with hB | ⟨rfl, J, D, hJ, hD⟩
  · go_wp2_with fail
    go_ret
    exact Ret.bool rfl (hx1.trans (hx17.trans hx710))
  · have HJ := hide hJ
    clear hJ
    go_wp2_with fail
    refine (c_JoinLedgers A' A2 n' c' n2 c2 ps R _ (hs.ext (hx17.trans hx710)) (s2.ext hx710)).mono ?_
    rw [HJ.out]
    rintro e w11 ⟨A8, n8, c8, g8, rfl, hn8, hc8, hg8, ho8, hx11⟩
    rcases hD with hD | ⟨rfl, hset⟩
    · go_wp2_with fail
      go_ret
      exact Ret.bool rfl (hx1.trans (hx17.trans (hx710.trans hx11)))
    · have HS := hide hset
      clear hset
      go_wp2_with fail
      refine (c_IsSettled A8 _ c8 J _ (ho8.slice post_len hn8 hc8)).mono ?_
      rw [HS.out]
      rintro e w12 ⟨rfl, hx12⟩
      go_wp2_with fail
      go_ret
      exact Ret.bool rfl (hx1.trans (hx17.trans (hx710.trans (hx11.trans hx12))))

set_option maxRecDepth 100000 in
theorem lifted_Ledgers (os : Os) (started : os.Started) (H : Type) (enc : TypeId × Value → H) :
    ReturnsInHanded {} Try.checked os 13 .any (Rows.fnLedgersSpec.pre6 enc Try.prog Try.f13 Rows.fnLedgersRow.domain false) (Rows.fnLedgersSpec.post enc Try.prog Try.f13 false true false false) := by
  refine returnsInHanded_of_change (C := Try.checked) own started (by kernel_rfl) Try.func13
    (ChangeSpec.witness6 (enc := enc) (C := Try.checked) false ⟨#[], #[.slice none 0 0], []⟩ 8 (by kernel_rfl) (by kernel_rfl) (by kernel_rfl) (by kernel_rfl)) ?_
  intro W base args ds gs before hval0 hW _ _
  have hval : ∀ (j : Nat) t v, Try.f13.params[j]? = some t → args[j]? = some v → Value.okWide Try.prog W .any base t v := hval0
  have hW' := hW
  obtain ⟨p, q, hA0, hV, rfl, hfz, hnd⟩ := hW
  have hA : DataW.TrodAll enc Try.prog W 0 (fun _ => true) true Try.f13.params.toList args.toList ds p := hA0
  rw [Try.params13] at hA hval
  obtain ⟨v0, vs0, d0, ds0, p0, q0, hargs, rfl, rfl, h0, r0⟩ := trodAll_cons hA
  obtain ⟨rfl, rfl, rfl⟩ := trodAll_nil r0
  obtain rfl : args = #[v0] := by cases args; simp_all
  obtain ⟨rfl, rfl⟩ := trodVars_none hV
  have k0 := h0
  have lt0 : ∀ x ∈ p0, x.block < W.heap.size := by obtain ⟨m, hm⟩ := k0; exact DataW.trod_lt m _ _ _ hm
  obtain ⟨A, n, c, bs, e0, hs, hbd⟩ := open_bytes (hval 0 35 v0 rfl rfl) h0
  rw [e0]
  clear hA0 hval0
  refine (law_Ledgers A n c bs W hs hbd).mono fun e W' ⟨he, bel⟩ => ?_
  subst he
  rw [e0] at hW'
  exact ⟨_, rfl, _, _, _, [], _, [], hW', trodAll_mk1 (shut_bool Try.underlying4 _), (trodAll_cons_mk (Below.trod laidOut (by kernel_rfl) (of_decide_eq_true (by kernel_rfl)) (e0 ▸ k0) bel lt0) trodAll_mk0), rfl, bel.frame _, fun h => by cases h⟩

theorem holds_Ledgers : Rows.FnLedgersSaid :=
  OpenClaim.holds_of_wide 13 Try.f13 rfl rfl rfl rfl rfl rfl rfl ⟨rfl, rfl, rfl, rfl, rfl⟩ rfl rfl rfl rfl rfl (by kernel_rfl) Try.func13 (by kernel_rfl)
    (of_decide_eq_true (by kernel_rfl)) (by unfold Func.isWrapper; first | (rw [if_pos (by decide +kernel)]; kernel_rfl) | (rw [if_neg (by decide +kernel)]; exact ⟨rfl, rfl⟩))
    (fun os started H enc _ => lifted_Ledgers os started H enc)
#print axioms holds_Ledgers
end Go.Proofs.Ytclnfjpjmelfpaa
