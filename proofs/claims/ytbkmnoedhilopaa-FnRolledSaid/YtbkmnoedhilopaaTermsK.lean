
/-
  ChargeFor, CashOut, TierOf of the program and of the reference.
-/
import Derived.Test.YtbkmnoedhilopaaTermsJ
namespace Go.Proofs.Ytbkmnoedhilopaa
open Go.RowKit


theorem c_ChargeFor (band percent price ex : Int) (A : Option Addr) (n c : Nat) (ts : List Tier) (w : World) (hs : SliceOf w 2 Tier.cells A n c ts) :
    Calls Try.prog 23 #[.agg #[.int .i64 band, .int .i64 percent, .int .i64 price, .slice A n c], .int .i64 ex] w (Ret2 (chargeR band percent price ts ex) w) := by
  cases hT : isTermsB band percent price ts
  · have HR := hide (show chargeR band percent price ts ex = (0, 1) by simp [chargeR, hT])
    go_enter Try.func23, Try.ntmps23
    go_wp2_with fail
    refine (c_isTerms band percent price A n c ts _ (hs.ext (Ext.alloc _ _))).mono ?_
    rw [hT]
    rintro e w1 ⟨rfl, hx1⟩
    have hcl1 := hx1.cell
    go_wp2_with fail
    go_ret2
    exact Ret2.of HR.out hx1.box
  · have V := valid_of hT
    cases hi : inB ex 0 1000000000
    · have HR := hide (show chargeR band percent price ts ex = (0, 2) by simp [chargeR, hT, hi])
      go_enter Try.func23, Try.ntmps23
      go_wp2_with fail
      refine (c_isTerms band percent price A n c ts _ (hs.ext (Ext.alloc _ _))).mono ?_
      rw [hT]
      rintro e w1 ⟨rfl, hx1⟩
      have hcl1 := hx1.cell
      go_wp2_with (go_at_call 40; refine (c_within _ _ _ _).mono ?_; rintro e w' ⟨rfl, rfl⟩)
      go_ret2
      exact Ret2.of HR.out hx1.box
    · have HR := hide (show chargeR band percent price ts ex = (chargeF price ts ex, 0) by simp [chargeR, hT, hi])
      obtain ⟨i0, i1⟩ := inB_true.1 hi
      go_enter Try.func23, Try.ntmps23
      go_wp2_with fail
      refine (c_isTerms band percent price A n c ts _ (hs.ext (Ext.alloc _ _))).mono ?_
      rw [hT]
      rintro e w1 ⟨rfl, hx1⟩
      have hcl1 := hx1.cell
      go_wp2_with (first | (go_at_call 40; refine (c_within _ _ _ _).mono ?_; rintro e w' ⟨rfl, rfl⟩) | (go_at_call 46; refine (c_chargeFor band percent price ex A n c ts _ (hs.ext hx1.box) V i0 i1).mono ?_; rintro e w2 ⟨rfl, hx2⟩))
      go_ret2
      exact Ret2.of HR.out (hx1.trans hx2).box

theorem c_specChargeFor (band percent price ex : Int) (A : Option Addr) (n c : Nat) (ts : List Tier) (w : World) (hs : SliceOf w 2 Tier.cells A n c ts) :
    Calls Try.prog 22 #[.agg #[.int .i64 band, .int .i64 percent, .int .i64 price, .slice A n c], .int .i64 ex] w (Ret2 (chargeR band percent price ts ex) w) := by
  cases hT : isTermsB band percent price ts
  · have HR := hide (show chargeR band percent price ts ex = (0, 1) by simp [chargeR, hT])
    go_enter Try.func22, Try.ntmps22
    go_wp2_with fail
    refine (c_specIsTerms band percent price A n c ts _ (hs.ext (Ext.alloc _ _))).mono ?_
    rw [hT]
    rintro e w1 ⟨rfl, hx1⟩
    have hcl1 := hx1.cell
    go_wp2_with fail
    go_ret2
    exact Ret2.of HR.out hx1.box
  · have V := valid_of hT
    cases hi : inB ex 0 1000000000
    · have HR := hide (show chargeR band percent price ts ex = (0, 2) by simp [chargeR, hT, hi])
      go_enter Try.func22, Try.ntmps22
      go_wp2_with fail
      refine (c_specIsTerms band percent price A n c ts _ (hs.ext (Ext.alloc _ _))).mono ?_
      rw [hT]
      rintro e w1 ⟨rfl, hx1⟩
      have hcl1 := hx1.cell
      go_wp2_with (go_at_call 42; refine (c_l29Through _ _).mono ?_; rintro e w' ⟨rfl, rfl⟩)
      go_ret2
      exact Ret2.of HR.out hx1.box
    · have HR := hide (show chargeR band percent price ts ex = (chargeF price ts ex, 0) by simp [chargeR, hT, hi])
      obtain ⟨i0, i1⟩ := inB_true.1 hi
      go_enter Try.func22, Try.ntmps22
      go_wp2_with fail
      refine (c_specIsTerms band percent price A n c ts _ (hs.ext (Ext.alloc _ _))).mono ?_
      rw [hT]
      rintro e w1 ⟨rfl, hx1⟩
      have hcl1 := hx1.cell
      go_wp2_with (first | (go_at_call 42; refine (c_l29Through _ _).mono ?_; rintro e w' ⟨rfl, rfl⟩) | (go_at_call 45; refine (c_l29Charge band percent price ex A n c ts _ (hs.ext hx1.box) V i0 i1).mono ?_; rintro e w2 ⟨rfl, hx2⟩))
      go_ret2
      exact Ret2.of HR.out (hx1.trans hx2).box

theorem excF_bd {band percent bal thr m : Int} (h : 0 ≤ tolF band percent thr) (h4 : -m ≤ bal) (h4' : bal ≤ m) : -m ≤ excF band percent bal thr ∧ excF band percent bal thr ≤ m := by
  unfold excF; (repeat' split) <;> omega

theorem cash_ways (band percent price : Int) (ts : List Tier) (bal thr : Int) :
    (∃ k : Int, (k == 0) = false ∧ balC band percent price ts bal thr = k ∧ excR band percent price ts bal thr = (0, k) ∧ cashR band percent price ts bal thr = (0, 0, k)) ∨
    (balC band percent price ts bal thr = 0 ∧ excR band percent price ts bal thr = (excF band percent bal thr, 0) ∧ cashR band percent price ts bal thr = (bal - excF band percent bal thr, chargeF price ts (absI (excF band percent bal thr)), 0) ∧
      isTermsB band percent price ts = true ∧ inB bal (-1000000000) 1000000000 = true ∧ inB thr 0 1000000000 = true) := by
  unfold balC excR cashR
  cases isTermsB band percent price ts
  · exact .inl ⟨1, by decide, by simp⟩
  · cases inB bal (-1000000000) 1000000000
    · exact .inl ⟨2, by decide, by simp⟩
    · cases inB thr 0 1000000000
      · exact .inl ⟨2, by decide, by simp⟩
      · exact .inr (by simp)

set_option maxHeartbeats 1000000 in
theorem c_CashOut (band percent price bal thr : Int) (A : Option Addr) (n c : Nat) (ts : List Tier) (w : World) (hs : SliceOf w 2 Tier.cells A n c ts) :
    Calls Try.prog 27 #[.agg #[.int .i64 band, .int .i64 percent, .int .i64 price, .slice A n c], .int .i64 bal, .int .i64 thr] w (Ret3 (cashR band percent price ts bal thr) w) := by
  rcases cash_ways band percent price ts bal thr with ⟨k, hk, hc, _, hr⟩ | ⟨hc, _, hr, hT, h1, h2⟩
  · have HR := hide hr
    have hk2 : (k != 0) = true := by simpa using hk
    clear hr
    go_enter Try.func27, Try.ntmps27
    go_wp2_with fail
    refine (c_checkBalance band percent price bal thr A n c ts _ (hs.ext (Ext.alloc _ _))).mono ?_
    rw [hc]
    clear hc
    rintro e w1 ⟨rfl, hx1⟩
    go_wp2_with fail
    go_ret3
    exact Ret3.of HR.out hx1.box
  · have HR := hide hr
    clear hr
    have V := valid_of hT
    obtain ⟨i0, i1⟩ := inB_true.1 h1
    obtain ⟨j0, j1⟩ := inB_true.1 h2
    have ht := tolF_bd V.band0 V.band1 V.per0 V.per1 j0 j1
    obtain ⟨he0, he1⟩ := excF_bd (m := 1000000000) ht.1 i0 i1
    obtain ⟨ha0, ha1⟩ := absI_le he0 he1
    go_enter Try.func27, Try.ntmps27
    go_wp2_with fail
    refine (c_checkBalance band percent price bal thr A n c ts _ (hs.ext (Ext.alloc _ _))).mono ?_
    rw [hc]
    rintro e w1 ⟨rfl, hx1⟩
    have hcl1 := hx1.cell
    go_wp2_with fail
    refine (c_excessOf band percent price bal thr A n c _ V.band0 V.band1 V.per0 V.per1 j0 j1 (by omega) (by omega)).mono ?_
    rintro e w2 ⟨rfl, hx2⟩
    have hx12 := hx1.trans hx2
    have hcl2 := hx12.cell
    have hz := hx12.size
    have hz2 : w.heap.size < w2.heap.size := by simp at hz; omega
    clear hcl1 hc hz
    generalize excF band percent bal thr = E at *
    have e1 : IntKind.i64.wrap (bal - E) = bal - E := IntWalk.i64_in _ (by omega)
    go_wp2_with fail
    refine wp_region_later (by kernel_rfl) (by kernel_rfl) ?_
    repeat (go_big_quiet_step ((first | (go_at_call 52; exact quiet_later_same (c_absOf _ _ (by omega) (by omega))) | (go_at_call 46; exact quiet_later (c_chargeFor band percent price _ A n c ts _ (hs.ext (hx12.box.trans (ext_later _ _))) V ha0 ha1)))))
    refine wpQuiet_nil ?_
    intro w3 hx3
    go_wp2_with fail
    go_ret3
    exact Ret3.of HR.out (hx12.trans hx3).box

set_option maxHeartbeats 1000000 in
theorem c_specCashOut (band percent price bal thr : Int) (A : Option Addr) (n c : Nat) (ts : List Tier) (w : World) (hs : SliceOf w 2 Tier.cells A n c ts) :
    Calls Try.prog 26 #[.agg #[.int .i64 band, .int .i64 percent, .int .i64 price, .slice A n c], .int .i64 bal, .int .i64 thr] w (Ret3 (cashR band percent price ts bal thr) w) := by
  rcases cash_ways band percent price ts bal thr with ⟨k, hk, _, hc, hr⟩ | ⟨_, hc, hr, hT, h1, h2⟩
  · have HR := hide hr
    have hk2 : (k != 0) = true := by simpa using hk
    clear hr
    go_enter Try.func26, Try.ntmps26
    go_wp2_with fail
    refine (c_specExcessOf band percent price bal thr A n c ts _ (hs.ext (Ext.alloc _ _))).mono ?_
    rw [hc]
    clear hc
    rintro e w1 ⟨rfl, hx1⟩
    go_wp2_with fail
    go_ret3
    exact Ret3.of HR.out hx1.box
  · have HR := hide hr
    clear hr
    have V := valid_of hT
    obtain ⟨i0, i1⟩ := inB_true.1 h1
    obtain ⟨j0, j1⟩ := inB_true.1 h2
    have ht := tolF_bd V.band0 V.band1 V.per0 V.per1 j0 j1
    obtain ⟨he0, he1⟩ := excF_bd (m := 1000000000) ht.1 i0 i1
    obtain ⟨ha0, ha1⟩ := absI_le he0 he1
    go_enter Try.func26, Try.ntmps26
    go_wp2_with fail
    refine (c_specExcessOf band percent price bal thr A n c ts _ (hs.ext (Ext.alloc _ _))).mono ?_
    rw [hc]
    clear hc
    generalize excF band percent bal thr = E at *
    rintro e w2 ⟨rfl, hx12⟩
    have hcl2 := hx12.cell
    have hz := hx12.size
    have hz2 : w.heap.size < w2.heap.size := by simp at hz; omega
    clear hz
    have e1 : IntKind.i64.wrap (bal - E) = bal - E := IntWalk.i64_in _ (by omega)
    go_wp2_with fail
    refine wp_region_later (by kernel_rfl) (by kernel_rfl) ?_
    repeat (go_big_quiet_step ((first | (go_at_call 51; exact quiet_later_same (c_l01Abs _ _ (by omega) (by omega))) | (go_at_call 45; exact quiet_later (c_l29Charge band percent price _ A n c ts _ (hs.ext (hx12.box.trans (ext_later _ _))) V ha0 ha1)))))
    refine wpQuiet_nil ?_
    intro w3 hx3
    go_wp2_with fail
    go_ret3
    exact Ret3.of HR.out (hx12.trans hx3).box

end Go.Proofs.Ytbkmnoedhilopaa
