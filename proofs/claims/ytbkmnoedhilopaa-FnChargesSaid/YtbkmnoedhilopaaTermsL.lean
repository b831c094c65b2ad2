
/-
  TierOf of the program and of the reference.
-/
import Derived.Test.YtbkmnoedhilopaaTermsJ
namespace Go.Proofs.Ytbkmnoedhilopaa
open Go.RowKit

set_option maxHeartbeats 1000000 in
theorem c_TierOf (band percent price ex : Int) (A : Option Addr) (n c : Nat) (ts : List Tier) (w : World) (hs : SliceOf w 2 Tier.cells A n c ts) :
    Calls Try.prog 21 #[.agg #[.int .i64 band, .int .i64 percent, .int .i64 price, .slice A n c], .int .i64 ex] w (Ret2 (tierR band percent price ts ex) w) := by
  cases hT : isTermsB band percent price ts
  · have HR := hide (show tierR band percent price ts ex = (0, 1) by simp [tierR, hT])
    go_enter Try.func21, Try.ntmps21
    go_wp2_with fail
    refine (c_isTerms band percent price A n c ts _ (hs.ext (Ext.alloc _ _))).mono ?_
    rw [hT]
    rintro e w1 ⟨rfl, hx1⟩
    have hcl1 := hx1.cell
    go_wp2_with fail
    go_ret2
    exact Ret2.of HR.out hx1.box
  have V := valid_of hT
  cases hi : inB ex 0 1000000000
  · have HR := hide (show tierR band percent price ts ex = (0, 2) by simp [tierR, hT, hi])
    go_enter Try.func21, Try.ntmps21
    go_wp2_with fail
    refine (c_isTerms band percent price A n c ts _ (hs.ext (Ext.alloc _ _))).mono ?_
    rw [hT]
    rintro e w1 ⟨rfl, hx1⟩
    have hcl1 := hx1.cell
    go_wp2_with (go_at_call 40; refine (c_within _ _ _ _).mono ?_; rintro e w' ⟨rfl, rfl⟩)
    go_ret2
    exact Ret2.of HR.out hx1.box
  obtain ⟨i0, i1⟩ := inB_true.1 hi
  have hn : n ≤ 6 := by rw [hs.len]; exact V.len1
  have hn1 : 1 ≤ n := by rw [hs.len]; exact V.len0
  by_cases hz0 : ex = 0
  · have HR := hide (show tierR band percent price ts ex = (-1, 0) by simp [tierR, hT, hz0, inB])
    have hz : (ex == 0) = true := by simpa using hz0
    clear hz0
    go_enter Try.func21, Try.ntmps21
    go_wp2_with fail
    refine (c_isTerms band percent price A n c ts _ (hs.ext (Ext.alloc _ _))).mono ?_
    rw [hT]
    rintro e w1 ⟨rfl, hx1⟩
    have hcl1 := hx1.cell
    go_wp2_with (go_at_call 40; refine (c_within _ _ _ _).mono ?_; rintro e w' ⟨rfl, rfl⟩)
    go_ret2
    exact Ret2.of HR.out hx1.box
  have HR := hide (show tierR band percent price ts ex = (tierF ts ex 0, 0) by simp [tierR, hT, hi, hz0])
  have hz : (ex == 0) = false := by simpa using hz0
  clear hz0
  go_enter Try.func21, Try.ntmps21
  go_wp2_with fail
  refine (c_isTerms band percent price A n c ts _ (hs.ext (Ext.alloc _ _))).mono ?_
  rw [hT]
  rintro e w1 ⟨rfl, hx1⟩
  have hcl1 := hx1.cell
  go_wp2_with (go_at_call 40; refine (c_within _ _ _ _).mono ?_; rintro e w' ⟨rfl, rfl⟩)
  go_loopw [4, 5, 19] (fun a b i wr => ∃ (k : Nat), k ≤ n ∧ a = .int .i64 0 ∧ b = .int .i64 0 ∧ i = .int .i64 k ∧ Hid (tierF ts ex 0 = tierF (ts.drop k) ex k) ∧ Ext w1 wr) (fun _ _ i _ => n - (intOf i).toNat)
  case atStart => exact ⟨0, Nat.zero_le _, rfl, rfl, rfl, hide (by simp), Ext.refl _⟩
  case round =>
    obtain ⟨k, hk, rfl, rfl, rfl, HK, hx⟩ := hrel
    have hx0 := hx1.trans hx
    have hzz := hx0.size
    have hz1 : w.heap.size < wr.heap.size := by simp at hzz; omega
    clear hzz hcl1
    have hbx3 : wr.cell? ⟨w.heap.size, 3, none⟩ = some (.slice A n c) := by rw [hx0.cell _ _ (by simp)]; simp
    by_cases hlt : k < n
    · obtain ⟨b, off, x, rfl, hb, hxk, hc⟩ := (hs.ext hx0.box).get hlt
      have hc0 := hc 0 _ rfl
      have hc1 := hc 1 _ rfl
      clear hc
      simp only [Nat.add_zero] at hc0
      have HK2 := hide (show tierF ts ex 0 = if ex ≤ x.upto then (k : Int) else tierF (ts.drop (k + 1)) ex (k + 1) by rw [HK.out, drop_at hxk, tierF_cons])
      clear HK hxk
      by_cases hle : ex ≤ x.upto
      · go_wp2_with fail
        go_ret2
        exact Ret2.of (by rw [HR.out, HK2.out, if_pos hle]) (hx0.box.and_alloc _)
      · go_wp2_with fail
        go_roundw
        case rel => exact ⟨k + 1, by omega, rfl, rfl, by go_num, hide (by rw [HK2.out, if_neg hle]), hx.and_alloc _⟩
        case measure => simp [intOf]; omega
    · have hkn : k = n := by omega
      have HK2 := hide (show tierF ts ex 0 = (n : Int) - 1 by rw [HK.out, List.drop_of_length_le (by have := hs.len; omega), tierF_nil, hkn])
      clear HK hkn
      go_wp2_with fail
      go_ret2
      exact Ret2.of (by rw [HR.out, HK2.out]) hx0.box

set_option maxHeartbeats 1000000 in
theorem c_specTierOf (band percent price ex : Int) (A : Option Addr) (n c : Nat) (ts : List Tier) (w : World) (hs : SliceOf w 2 Tier.cells A n c ts) :
    Calls Try.prog 20 #[.agg #[.int .i64 band, .int .i64 percent, .int .i64 price, .slice A n c], .int .i64 ex] w (Ret2 (tierR band percent price ts ex) w) := by
  cases hT : isTermsB band percent price ts
  · have HR := hide (show tierR band percent price ts ex = (0, 1) by simp [tierR, hT])
    go_enter Try.func20, Try.ntmps20
    go_wp2_with fail
    refine (c_specIsTerms band percent price A n c ts _ (hs.ext (Ext.alloc _ _))).mono ?_
    rw [hT]
    rintro e w1 ⟨rfl, hx1⟩
    have hcl1 := hx1.cell
    go_wp2_with fail
    go_ret2
    exact Ret2.of HR.out hx1.box
  have V := valid_of hT
  cases hi : inB ex 0 1000000000
  · have HR := hide (show tierR band percent price ts ex = (0, 2) by simp [tierR, hT, hi])
    go_enter Try.func20, Try.ntmps20
    go_wp2_with fail
    refine (c_specIsTerms band percent price A n c ts _ (hs.ext (Ext.alloc _ _))).mono ?_
    rw [hT]
    rintro e w1 ⟨rfl, hx1⟩
    have hcl1 := hx1.cell
    go_wp2_with (go_at_call 42; refine (c_l29Through _ _).mono ?_; rintro e w' ⟨rfl, rfl⟩)
    go_ret2
    exact Ret2.of HR.out hx1.box
  obtain ⟨i0, i1⟩ := inB_true.1 hi
  have hn : n ≤ 6 := by rw [hs.len]; exact V.len1
  have hn1 : 1 ≤ n := by rw [hs.len]; exact V.len0
  by_cases hz0 : ex = 0
  · have HR := hide (show tierR band percent price ts ex = (-1, 0) by simp [tierR, hT, hz0, inB])
    have hz : (ex == 0) = true := by simpa using hz0
    clear hz0
    go_enter Try.func20, Try.ntmps20
    go_wp2_with fail
    refine (c_specIsTerms band percent price A n c ts _ (hs.ext (Ext.alloc _ _))).mono ?_
    rw [hT]
    rintro e w1 ⟨rfl, hx1⟩
    have hcl1 := hx1.cell
    go_wp2_with (go_at_call 42; refine (c_l29Through _ _).mono ?_; rintro e w' ⟨rfl, rfl⟩)
    go_ret2
    exact Ret2.of HR.out hx1.box
  have HR := hide (show tierR band percent price ts ex = (tierF ts ex 0, 0) by simp [tierR, hT, hi, hz0])
  have hz : (ex == 0) = false := by simpa using hz0
  clear hz0
  go_enter Try.func20, Try.ntmps20
  go_wp2_with fail
  refine (c_specIsTerms band percent price A n c ts _ (hs.ext (Ext.alloc _ _))).mono ?_
  rw [hT]
  rintro e w1 ⟨rfl, hx1⟩
  have hcl1 := hx1.cell
  go_wp2_with (go_at_call 42; refine (c_l29Through _ _).mono ?_; rintro e w' ⟨rfl, rfl⟩)
  have hz1 := hx1.size
  have hz2 : w.heap.size < w1.heap.size := by simp at hz1; omega
  clear hz1
  have hbx3 : w1.cell? ⟨w.heap.size, 3, none⟩ = some (.slice A n c) := by rw [hx1.cell _ _ (by simp)]; simp
  clear hcl1
  go_loop [4, 5, 6] (fun a b i => ∃ (k : Nat), k ≤ n ∧ a = .int .i64 0 ∧ b = .int .i64 0 ∧ i = .int .i64 k ∧ Hid (tierF ts ex 0 = tierF (ts.drop k) ex k)) (fun _ _ i => n - (intOf i).toNat)
  case atStart => exact ⟨0, Nat.zero_le _, rfl, rfl, rfl, hide (by simp)⟩
  case round =>
    obtain ⟨k, hk, rfl, rfl, rfl, HK⟩ := hrel
    by_cases hlt : k < n
    · obtain ⟨b, off, x, rfl, hb, hxk, hc⟩ := (hs.ext hx1.box).get hlt
      have hc0 := hc 0 _ rfl
      have hc1 := hc 1 _ rfl
      clear hc
      simp only [Nat.add_zero] at hc0
      have HK2 := hide (show tierF ts ex 0 = if ex ≤ x.upto then (k : Int) else tierF (ts.drop (k + 1)) ex (k + 1) by rw [HK.out, drop_at hxk, tierF_cons])
      clear HK hxk
      by_cases hle : ex ≤ x.upto
      · go_wp2_with fail
        go_ret2
        exact Ret2.of (by rw [HR.out, HK2.out, if_pos hle]) hx1.box
      · go_wp2_with fail
        go_round
        case rel => exact ⟨k + 1, by omega, rfl, rfl, by go_num, hide (by rw [HK2.out, if_neg hle])⟩
        case measure => simp [intOf]; omega
    · have hkn : k = n := by omega
      have HK2 := hide (show tierF ts ex 0 = (n : Int) - 1 by rw [HK.out, List.drop_of_length_le (by have := hs.len; omega), tierF_nil, hkn])
      clear HK hkn
      go_wp2_with fail
      go_ret2
      exact Ret2.of (by rw [HR.out, HK2.out]) hx1.box

end Go.Proofs.Ytbkmnoedhilopaa
