
/-
  The charge: chargeFor of the program, l29Charge of the reference.
-/
import Derived.Test.YtbkmnoedhilopaaTermsH
namespace Go.Proofs.Ytbkmnoedhilopaa
open Go.RowKit

theorem pay_bd {d price f : Int} (h0 : 0 ≤ d) (h1 : d ≤ 1000000000) (p0 : 0 ≤ price) (p1 : price ≤ 1000000) (f0 : 0 ≤ f) (f1 : f ≤ 1000) :
    0 ≤ d * price ∧ d * price ≤ 1000000000000000 ∧ 0 ≤ d * price * f ∧ d * price * f ≤ d * 1000000000 := by
  have a := mul_bd 1000000000 1000000 h0 h1 p0 p1
  have b : d * price ≤ d * 1000000 := Int.mul_le_mul_of_nonneg_left p1 h0
  have c : 0 ≤ d * price * f := Int.mul_nonneg a.1 f0
  have e : d * price * f ≤ d * price * 1000 := Int.mul_le_mul_of_nonneg_left f1 a.1
  refine ⟨a.1, a.2, c, ?_⟩
  omega
theorem step_sum {price ex B S T : Int} {x : Tier} {l : List Tier} {U : Int} (hS : S + price * chg ex (x :: l) B = T) (hU : (l = [] ∧ U = ex) ∨ (l ≠ [] ∧ U = min ex x.upto)) (hlt : B < U) :
    S + (U - B) * price * x.factor + price * chg ex l U = T := by
  have e : (U - B) * price * x.factor = price * ((U - B) * x.factor) := by
    rw [Int.mul_comm (U - B) price, Int.mul_assoc]
  rcases hU with ⟨rfl, rfl⟩ | ⟨hl, rfl⟩
  · rw [chg_last, if_pos hlt] at hS
    rw [chg_nil, e, Int.mul_zero]
    omega
  · rw [chg_cons _ _ _ _ hl, if_pos hlt, Int.mul_add] at hS
    rw [e]
    omega
theorem stay_sum {price ex B S T : Int} {x : Tier} {l : List Tier} {U : Int} (hS : S + price * chg ex (x :: l) B = T) (hU : (l = [] ∧ U = ex) ∨ (l ≠ [] ∧ U = min ex x.upto)) (hlt : ¬ B < U) :
    S + price * chg ex l B = T := by
  rcases hU with ⟨rfl, rfl⟩ | ⟨hl, rfl⟩
  · rw [chg_last, if_neg hlt] at hS
    rw [chg_nil]; exact hS
  · rw [chg_cons _ _ _ _ hl, if_neg hlt] at hS
    exact hS

set_option maxHeartbeats 2000000 in
theorem c_chargeFor (band percent price ex : Int) (A : Option Addr) (n c : Nat) (ts : List Tier) (w : World) (hs : SliceOf w 2 Tier.cells A n c ts) (V : Valid band percent price ts) (h0 : 0 ≤ ex) (h1 : ex ≤ 1000000000) :
    Calls Try.prog 46 #[.agg #[.int .i64 band, .int .i64 percent, .int .i64 price, .slice A n c], .int .i64 ex] w (Ret (.int .i64 (chargeF price ts ex)) w) := by
  have hn : n ≤ 6 := by rw [hs.len]; exact V.len1
  have hn1 : 1 ≤ n := by rw [hs.len]; exact V.len0
  have hp0 := V.pr0
  have hp1 := V.pr1
  have HR := hide (show chargeF price ts ex = (price * chg ex ts 0 + 99) / 100 from rfl)
  generalize chargeF price ts ex = R at HR ⊢
  go_enter Try.func46, Try.ntmps46
  go_wp2_with fail
  go_loopw [5, 6, 13] (fun s b i wr => ∃ (k : Nat) (S B : Int), k ≤ n ∧ s = .int .i64 S ∧ b = .int .i64 B ∧ i = .int .i64 k ∧ 0 ≤ B ∧ B ≤ ex ∧ 0 ≤ S ∧ S ≤ B * 1000000000 ∧ Hid (S + price * chg ex (ts.drop k) B = price * chg ex ts 0) ∧ Ext (w.alloc (.cells #[.int .i64 band, .int .i64 percent, .int .i64 price, .slice A n c] 29)) wr) (fun _ _ i _ => n - (intOf i).toNat)
  case atStart => exact ⟨0, 0, 0, Nat.zero_le _, rfl, rfl, rfl, by omega, by omega, by omega, by omega, hide (by simp), Ext.refl _⟩
  case round =>
    obtain ⟨k, S, B, hk, rfl, rfl, rfl, hB0, hB1, hS0, hS1, HS, hx⟩ := hrel
    have hxs := hx.size
    have hz : w.heap.size < wr.heap.size := by simp at hxs; omega
    clear hxs
    have hbx2 : wr.cell? ⟨w.heap.size, 2, none⟩ = some (.int .i64 price) := by rw [hx.cell _ _ (by simp)]; simp
    have hbx3 : wr.cell? ⟨w.heap.size, 3, none⟩ = some (.slice A n c) := by rw [hx.cell _ _ (by simp)]; simp
    by_cases hlt : k < n
    · obtain ⟨b, off, x, rfl, hb, hxk, hc⟩ := (hs.ext hx.box).get hlt
      have hc0 := hc 0 _ rfl
      have hc1 := hc 1 _ rfl
      clear hc
      simp only [Nat.add_zero] at hc0
      obtain ⟨hu0, hu1, hf0, hf1⟩ := V.at_ k x hxk
      have HS2 := hide (show S + price * chg ex (x :: ts.drop (k + 1)) B = price * chg ex ts 0 by rw [← drop_at hxk]; exact HS.out)
      have HD := hide (show ts.drop (k + 1) = [] ↔ k + 1 = n by rw [List.drop_eq_nil_iff, ← hs.len]; omega)
      clear HS hxk
      have key : ∃ U : Int, ((k + 1 = n ∧ U = ex) ∨ (k + 1 < n ∧ U = min ex x.upto)) := by
        by_cases e : k + 1 = n
        · exact ⟨ex, .inl ⟨e, rfl⟩⟩
        · exact ⟨_, .inr ⟨by omega, rfl⟩⟩
      obtain ⟨U, hU⟩ := key
      have HU := hide (show (ts.drop (k + 1) = [] ∧ U = ex) ∨ (ts.drop (k + 1) ≠ [] ∧ U = min ex x.upto) by
        rcases hU with ⟨e, h⟩ | ⟨e, h⟩
        · exact .inl ⟨HD.out.2 e, h⟩
        · exact .inr ⟨fun h' => by have := HD.out.1 h'; omega, h⟩)
      have hU1 : U ≤ ex := by omega
      have hpay := pay_bd (d := U - B) (price := price) (f := x.factor)
      have HN : Hid (B < U → S + (U - B) * price * x.factor + price * chg ex (ts.drop (k + 1)) U = price * chg ex ts 0) := hide (step_sum HS2.out HU.out)
      have HN' : Hid (¬ B < U → S + price * chg ex (ts.drop (k + 1)) B = price * chg ex ts 0) := hide (stay_sum HS2.out HU.out)
      clear HS2 HD HU
      by_cases hBU : B < U
      · obtain ⟨q1, q2, q3, q4⟩ := hpay (by omega) (by omega) hp0 hp1 hf0 hf1
        have HN2 := hide (HN.out hBU)
        clear HN HN' hpay
        rcases hU with ⟨e1, e2⟩ | ⟨e1, e2⟩
        · have hl : ((k : Int) == (n : Int) - 1) = true := by simp; omega
          subst e2
          clear e1
          go_wp2_with fail
          all_goals
            go_roundw
            case rel => exact ⟨k + 1, _, _, by omega, rfl, rfl, by go_num, by omega, by omega, by omega, by omega, HN2, hx.and_alloc _⟩
            case measure => simp [intOf]; omega
        · have hl : ((k : Int) == (n : Int) - 1) = false := by simp; omega
          by_cases hm : ex ≤ x.upto
          · have e3 : U = ex := by omega
            clear e2
            subst e3
            go_wp2_with fail
            go_roundw
            case rel => exact ⟨k + 1, _, _, by omega, rfl, rfl, by go_num, by omega, by omega, by omega, by omega, HN2, hx.and_alloc _⟩
            case measure => simp [intOf]; omega
          · have e3 : U = x.upto := by omega
            clear e2
            subst e3
            go_wp2_with fail
            go_roundw
            case rel => exact ⟨k + 1, _, _, by omega, rfl, rfl, by go_num, by omega, by omega, by omega, by omega, HN2, hx.and_alloc _⟩
            case measure => simp [intOf]; omega
      · have HN2 := hide (HN'.out hBU)
        clear HN HN' hpay
        rcases hU with ⟨e1, e2⟩ | ⟨e1, e2⟩
        · have hl : ((k : Int) == (n : Int) - 1) = true := by simp; omega
          subst e2
          clear e1
          go_wp2_with fail
          all_goals
            go_roundw
            case rel => exact ⟨k + 1, _, _, by omega, rfl, rfl, by go_num, by omega, by omega, by omega, by omega, HN2, hx.and_alloc _⟩
            case measure => simp [intOf]; omega
        · have hl : ((k : Int) == (n : Int) - 1) = false := by simp; omega
          go_wp2_with fail
          all_goals
            go_roundw
            case rel => exact ⟨k + 1, _, _, by omega, rfl, rfl, by go_num, by omega, by omega, by omega, by omega, HN2, hx.and_alloc _⟩
            case measure => simp [intOf]; omega
    · go_wp2_with fail
      go_ret
      refine Ret.int ?_ hx.box
      have := HS.out
      rw [List.drop_of_length_le (by have := hs.len; omega), chg_nil] at this
      rw [HR.out, ← this, Int.mul_zero, Int.add_zero]

end Go.Proofs.Ytbkmnoedhilopaa
