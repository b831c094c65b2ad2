
/-
  The charge of the reference.
-/
import Derived.Test.YtbkmnoedhilopaaTermsI
namespace Go.Proofs.Ytbkmnoedhilopaa
open Go.RowKit

theorem step_sum1 {ex B S T : Int} {x : Tier} {l : List Tier} {U : Int} (hS : S + chg ex (x :: l) B = T) (hU : (l = [] ∧ U = ex) ∨ (l ≠ [] ∧ U = min ex x.upto)) (hlt : B < U) :
    S + (U - B) * x.factor + chg ex l U = T := by
  rcases hU with ⟨rfl, rfl⟩ | ⟨hl, rfl⟩
  · rw [chg_last, if_pos hlt] at hS
    rw [chg_nil]
    omega
  · rw [chg_cons _ _ _ _ hl, if_pos hlt] at hS
    omega

set_option maxHeartbeats 2000000 in
theorem c_l29Charge (band percent price ex : Int) (A : Option Addr) (n c : Nat) (ts : List Tier) (w : World) (hs : SliceOf w 2 Tier.cells A n c ts) (V : Valid band percent price ts) (h0 : 0 ≤ ex) (h1 : ex ≤ 1000000000) :
    Calls Try.prog 45 #[.agg #[.int .i64 band, .int .i64 percent, .int .i64 price, .slice A n c], .int .i64 ex] w (Ret (.int .i64 (chargeF price ts ex)) w) := by
  have hn : n ≤ 6 := by rw [hs.len]; exact V.len1
  have hn1 : 1 ≤ n := by rw [hs.len]; exact V.len0
  have hp0 := V.pr0
  have hp1 := V.pr1
  have HR := hide (show chargeF price ts ex = chg ex ts 0 / 100 * price + (chg ex ts 0 % 100 * price + 99) / 100 from (charge_spec _ _).symm)
  generalize chargeF price ts ex = R at HR ⊢
  have fin : ∀ s : Int, 0 ≤ s → s ≤ 1000000000000 → 0 ≤ s / 100 * price ∧ s / 100 * price ≤ 10000000000 * 1000000 ∧ 0 ≤ s % 100 * price ∧ s % 100 * price ≤ 100 * 1000000 := by
    intro s s0 s1
    have a := mul_bd (a := s / 100) (b := price) 10000000000 1000000 (by omega) (by omega) hp0 hp1
    have b := mul_bd (a := s % 100) (b := price) 100 1000000 (by omega) (by omega) hp0 hp1
    exact ⟨a.1, a.2, b.1, b.2⟩
  have FIN := hide fin
  clear fin
  go_enter Try.func45, Try.ntmps45
  go_wp2_with fail
  go_loop [5, 6, 7] (fun s b i => ∃ (k : Nat) (S B : Int), k ≤ n ∧ s = .int .i64 S ∧ b = .int .i64 B ∧ i = .int .i64 k ∧ 0 ≤ B ∧ B ≤ ex ∧ 0 ≤ S ∧ S ≤ B * 1000 ∧ Hid (S + chg ex (ts.drop k) B = chg ex ts 0) ∧ Hid (B < ex → ∀ x, ts[k]? = some x → B < x.upto)) (fun _ _ i => n - (intOf i).toNat)
  case atStart => exact ⟨0, 0, 0, Nat.zero_le _, rfl, rfl, rfl, by omega, by omega, by omega, by omega, hide (by simp), hide (fun _ x hx => by have := V.at_ 0 x hx; omega)⟩
  case round =>
    obtain ⟨k, S, B, hk, rfl, rfl, rfl, hB0, hB1, hS0, hS1, HS, HU⟩ := hrel
    by_cases hlt : k < n
    · by_cases hBe : B < ex
      · obtain ⟨b, off, x, rfl, hb, hxk, hc⟩ := hs.get hlt
        have hc0 := hc 0 _ rfl
        have hc1 := hc 1 _ rfl
        clear hc
        simp only [Nat.add_zero] at hc0
        obtain ⟨hu0, hu1, hf0, hf1⟩ := V.at_ k x hxk
        have hBx := HU.out hBe x hxk
        have HS2 := hide (show S + chg ex (x :: ts.drop (k + 1)) B = chg ex ts 0 by rw [← drop_at hxk]; exact HS.out)
        have HD := hide (show ts.drop (k + 1) = [] ↔ k + 1 = n by rw [List.drop_eq_nil_iff, ← hs.len]; omega)
        have HX := hide hxk
        clear HS HU hxk
        have key : ∃ U : Int, ((k + 1 = n ∧ U = ex) ∨ (k + 1 < n ∧ U = min ex x.upto)) := by
          by_cases e : k + 1 = n
          · exact ⟨ex, .inl ⟨e, rfl⟩⟩
          · exact ⟨_, .inr ⟨by omega, rfl⟩⟩
        obtain ⟨U, hU⟩ := key
        have hBU : B < U := by omega
        have hU1 : U ≤ ex := by omega
        have HN := hide (step_sum1 HS2.out (show (ts.drop (k + 1) = [] ∧ U = ex) ∨ (ts.drop (k + 1) ≠ [] ∧ U = min ex x.upto) by
          rcases hU with ⟨e, h⟩ | ⟨e, h⟩
          · exact .inl ⟨HD.out.2 e, h⟩
          · exact .inr ⟨fun h' => by have := HD.out.1 h'; omega, h⟩) hBU)
        have HV := hide (show U < ex → ∀ y, ts[k + 1]? = some y → U < y.upto by
          intro hUe y hy
          have := V.next k x y HX.out hy
          omega)
        have q1 : 0 ≤ (U - B) * x.factor := Int.mul_nonneg (by omega) hf0
        have q2 : (U - B) * x.factor ≤ (U - B) * 1000 := Int.mul_le_mul_of_nonneg_left hf1 (by omega)
        clear HS2 HD HX
        rcases hU with ⟨e1, e2⟩ | ⟨e1, e2⟩
        · have hl : ((k : Int) == (n : Int) - 1) = true := by simp; omega
          subst e2
          clear e1
          go_wp2_with fail
          all_goals
            go_round
            case rel => exact ⟨k + 1, _, _, by omega, rfl, rfl, by go_num, by omega, by omega, by omega, by omega, HN, HV⟩
            case measure => simp [intOf]; omega
        · have hl : ((k : Int) == (n : Int) - 1) = false := by simp; omega
          by_cases hm : ex ≤ x.upto
          · have e3 : U = ex := by omega
            clear e2
            subst e3
            go_wp2_with fail
            go_round
            case rel => exact ⟨k + 1, _, _, by omega, rfl, rfl, by go_num, by omega, by omega, by omega, by omega, HN, HV⟩
            case measure => simp [intOf]; omega
          · have e3 : U = x.upto := by omega
            clear e2
            subst e3
            go_wp2_with fail
            go_round
            case rel => exact ⟨k + 1, _, _, by omega, rfl, rfl, by go_num, by omega, by omega, by omega, by omega, HN, HV⟩
            case measure => simp [intOf]; omega
      · obtain ⟨r1, r2, r3, r4⟩ := FIN.out S hS0 (by omega)
        have hBe' : decide (B < ex) = false := by simpa using hBe
        go_wp2_with fail
        go_ret
        refine Ret.int ?_ (Ext.alloc _ _)
        have := HS.out
        rw [chg_done _ _ _ (by omega), Int.add_zero] at this
        rw [HR.out, ← this]
    · obtain ⟨r1, r2, r3, r4⟩ := FIN.out S hS0 (by omega)
      go_wp2_with fail
      go_ret
      refine Ret.int ?_ (Ext.alloc _ _)
      have := HS.out
      rw [List.drop_of_length_le (by have := hs.len; omega), chg_nil, Int.add_zero] at this
      rw [HR.out, ← this]

end Go.Proofs.Ytbkmnoedhilopaa
