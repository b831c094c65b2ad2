/-
  Plain mathematics of terms: what valid terms give, the charge, the tier. No function of the program is named here. The reference's IsTerms returns isTermsB. The charge: chargeFor of the program, l29Charge of the reference. The charge of the reference. Postings and ledgers: validity, of the program and of the reference. Ledgers: isLedger of the program (by way of slices.ContainsFunc), l30List of the reference. The helpers of the laws on Posting: copying, comparing, measuring, marking.
-/
import Derived.Test.YtfkpghdmljjegaaGreatVb24
import Derived.Test.YtfkpghdmljjegaaGreatVb01
namespace Go.Proofs.YtfkpghdmljjegaaGreat

structure Valid (band percent price : Int) (ts : List Tier) : Prop where
  band0 : 0 ≤ band
  band1 : band ≤ 1000000000
  per0 : 0 ≤ percent
  per1 : percent ≤ 100
  pr0 : 0 ≤ price
  pr1 : price ≤ 1000000
  len0 : 1 ≤ ts.length
  len1 : ts.length ≤ 6
  at_ : ∀ (k : Nat) (x : Tier), ts[k]? = some x → 1 ≤ x.upto ∧ x.upto ≤ 1000000000 ∧ 0 ≤ x.factor ∧ x.factor ≤ 1000
  next : ∀ (k : Nat) (x y : Tier), ts[k]? = some x → ts[k + 1]? = some y → x.upto < y.upto ∧ x.factor ≤ y.factor

theorem valid_of {band percent price : Int} {ts : List Tier} (h : isTermsB band percent price ts = true) : Valid band percent price ts := by
  unfold isTermsB at h
  simp only [Bool.and_eq_true, inB_true] at h
  obtain ⟨⟨⟨⟨h1, h2⟩, h3⟩, h4⟩, h5⟩ := h
  have hk : ∀ k, k < ts.length → tierOk ts k = true := fun k hk => List.all_eq_true.1 h5 k (by simpa using hk)
  refine ⟨h1.1, h1.2, h2.1, h2.2, h3.1, h3.2, by omega, by omega, ?_, ?_⟩
  · intro k x hx
    have := hk k (List.getElem?_eq_some_iff.1 hx).1
    unfold tierOk at this
    rw [hx] at this
    simp only [Bool.and_eq_true, inB_true] at this
    omega
  · intro k x y hx hy
    have := hk (k + 1) (List.getElem?_eq_some_iff.1 hy).1
    unfold tierOk at this
    rw [hy] at this
    simp only [hx, stepOk, Bool.and_eq_true, decide_eq_true_eq] at this
    exact this.2

/-- the charge of the tiers that are left, before the price -/
def chg (ex : Int) : List Tier → Int → Int
  | [], _ => 0
  | [x], b => if b < ex then (ex - b) * x.factor else 0
  | x :: y :: r, b => if b < min ex x.upto then (min ex x.upto - b) * x.factor + chg ex (y :: r) (min ex x.upto) else chg ex (y :: r) b
theorem chg_nil (ex b : Int) : chg ex [] b = 0 := rfl
theorem chg_last (ex b : Int) (x : Tier) : chg ex [x] b = if b < ex then (ex - b) * x.factor else 0 := rfl
theorem chg_cons (ex b : Int) (x : Tier) (l : List Tier) (h : l ≠ []) : chg ex (x :: l) b = if b < min ex x.upto then (min ex x.upto - b) * x.factor + chg ex l (min ex x.upto) else chg ex l b := by
  cases l with
  | nil => exact absurd rfl h
  | cons y r => rfl
theorem chg_done (ex : Int) (l : List Tier) (b : Int) (h : ex ≤ b) : chg ex l b = 0 := by
  induction l with
  | nil => rfl
  | cons x l ih =>
    by_cases hl : l = []
    · subst hl; rw [chg_last, if_neg (by omega)]
    · rw [chg_cons _ _ _ _ hl, if_neg (by omega), ih]
theorem drop_at {ts : List Tier} {k : Nat} {x : Tier} (h : ts[k]? = some x) : ts.drop k = x :: ts.drop (k + 1) := by
  obtain ⟨hk, rfl⟩ := List.getElem?_eq_some_iff.1 h
  exact List.drop_eq_getElem_cons hk
def chargeF (price : Int) (ts : List Tier) (ex : Int) : Int := (price * chg ex ts 0 + 99) / 100

theorem charge_spec (s price : Int) : s / 100 * price + (s % 100 * price + 99) / 100 = (price * s + 99) / 100 := by
  have h : price * s + 99 = (s % 100 * price + 99) + 100 * (s / 100 * price) := by
    have e := Int.emod_add_mul_ediv s 100
    calc price * s + 99 = (s % 100 + 100 * (s / 100)) * price + 99 := by rw [e, Int.mul_comm]
      _ = (s % 100 * price + 99) + 100 * (s / 100 * price) := by rw [Int.add_mul, Int.mul_assoc]; omega
  rw [h, Int.add_mul_ediv_left _ _ (by decide)]
  omega

end Go.Proofs.YtfkpghdmljjegaaGreat

namespace Go.Proofs.YtfkpghdmljjegaaGreat
open Go.RowKit
set_option maxHeartbeats 2000000 in
theorem c_specIsTerms (band percent price : Int) (A : Option Addr) (n c : Nat) (ts : List Tier) (w : World) (hs : SliceOf w 2 Tier.cells A n c ts) :
    Calls Tryz.prog 133 #[.agg #[.int .i64 band, .int .i64 percent, .int .i64 price, .slice A n c]] w (Ret (.bool (isTermsB band percent price ts)) w) := by
  have HF := hide (show isTermsB band percent price ts = (inB band 0 1000000000 && inB percent 0 100 && inB price 0 1000000 && inB n 1 6 && (List.range n).all (tierOk ts)) by rw [isTermsB, hs.1])
  generalize isTermsB band percent price ts = R at HF ⊢
  by_cases hg : inB band 0 1000000000 = true ∧ inB percent 0 100 = true ∧ inB price 0 1000000 = true ∧ inB n 1 6 = true
  · obtain ⟨h1, h2, h3, h4⟩ := hg
    have hn : n ≤ 6 := by simp [inB] at h4; omega
    have hn1 : 1 ≤ n := by simp [inB] at h4; omega
    have HR := hide (show R = (List.range n).all (tierOk ts) by rw [HF.out]; simp [h1, h2, h3, h4])
    clear HF
    go_enter Tryz.func133, Tryz.ntmps133
    go_wp2_with (go_at_call 169; refine (c_l01In _ _ _ _).mono ?_; rintro e w' ⟨rfl, rfl⟩)
    go_loopw [2, 3] (fun r i wr => ∃ k : Nat, k ≤ n ∧ r = .bool false ∧ i = .int .i64 k ∧ Hid (∀ j, j < k → tierOk ts j = true) ∧ Ext (w.alloc (.cells #[.int .i64 band, .int .i64 percent, .int .i64 price, .slice A n c] 73)) wr) (fun _ i _ => n - (intOf i).toNat)
    case atStart => exact ⟨0, Nat.zero_le _, rfl, rfl, hide (fun j hj => absurd hj (by omega)), Ext.refl _⟩
    case round =>
      obtain ⟨k, hk, rfl, rfl, HK, hx⟩ := hrel
      have hxs := hx.size
      have hz : w.heap.size < wr.heap.size := by simp at hxs; omega
      clear hxs
      have hbx3 : wr.cell? ⟨w.heap.size, 3, none⟩ = some (.slice A n c) := by rw [hx.cell _ _ (by simp)]; simp
      have hx0 : Ext w wr := hx.box
      by_cases hlt : k < n
      · have hs' := hs.ext hx0
        obtain ⟨b, off, x, rfl, hb, hxk, hc⟩ := hs'.get hlt
        have hc0 := hc 0 _ rfl
        have hc1 := hc 1 _ rfl
        clear hc
        simp only [Nat.add_zero] at hc0
        by_cases h0 : 0 < k
        · obtain ⟨y, hyk, hc⟩ := hs'.at_ (k := k - 1) (by omega)
          have hd0 := hc 0 _ rfl
          have hd1 := hc 1 _ rfl
          clear hc
          simp only [Nat.add_zero] at hd0
          have ways := tier_ways hlt (tierOk_pos h0 hxk hyk)
          clear hxk hyk
          have e1 : IntKind.i64.wrap (↑k - 1) = (↑k - 1) := IntWalk.i64_in _ (by omega)
          have e2 : (0:Int) ≤ ↑k - 1 := by omega
          have e3 : ((k:Int) - 1).toNat = k - 1 := by omega
          rcases ways with ⟨g1, g2, g3, g4, HT⟩ | ⟨g1, HT⟩ | ⟨g1, g2, HT⟩ | ⟨g1, g2, g3, HT⟩ | ⟨g1, g2, g3, g4, HT⟩
          · go_wp2_with (go_at_call 169; refine (c_l01In _ _ _ _).mono ?_; rintro e w' ⟨rfl, rfl⟩)
            go_quiet (fail)
            go_wp2
            go_roundw
            case rel => exact ⟨k + 1, by omega, rfl, by go_num, hide (all_upto HK.out HT.out), hx.drewN _⟩
            case measure => simp [intOf]; omega
          · go_wp2_with (go_at_call 169; refine (c_l01In _ _ _ _).mono ?_; rintro e w' ⟨rfl, rfl⟩)
            go_ret
            exact Ret.bool (HR.out.trans HT.out) hx0
          · go_wp2_with (go_at_call 169; refine (c_l01In _ _ _ _).mono ?_; rintro e w' ⟨rfl, rfl⟩)
            go_ret
            exact Ret.bool (HR.out.trans HT.out) hx0
          all_goals
            go_wp2_with (go_at_call 169; refine (c_l01In _ _ _ _).mono ?_; rintro e w' ⟨rfl, rfl⟩)
            go_quiet (fail)
            go_wp2
            go_ret
            exact Ret.bool (HR.out.trans HT.out) (hx0.drewN _)
        · have ways := tier_ways0 hlt (tierOk_zero h0 hxk)
          clear hxk
          have h0' : decide (0 < k) = false := by simpa using h0
          rcases ways with ⟨g1, g2, HT⟩ | ⟨g1, HT⟩ | ⟨g1, g2, HT⟩
          · go_wp2_with (go_at_call 169; refine (c_l01In _ _ _ _).mono ?_; rintro e w' ⟨rfl, rfl⟩)
            go_quiet (fail)
            go_wp2
            go_roundw
            case rel => exact ⟨k + 1, by omega, rfl, by go_num, hide (all_upto HK.out HT.out), hx.drewN _⟩
            case measure => simp [intOf]; omega
          all_goals
            go_wp2_with (go_at_call 169; refine (c_l01In _ _ _ _).mono ?_; rintro e w' ⟨rfl, rfl⟩)
            go_ret
            exact Ret.bool (HR.out.trans HT.out) hx0
      · go_wp2
        go_ret
        exact Ret.bool (HR.out.trans (all_range_true (fun j hj => HK.out j (by omega)))) hx0
  · have hw : inB band 0 1000000000 = false ∨ (inB band 0 1000000000 = true ∧ inB percent 0 100 = false) ∨ (inB band 0 1000000000 = true ∧ inB percent 0 100 = true ∧ inB price 0 1000000 = false) ∨ (inB band 0 1000000000 = true ∧ inB percent 0 100 = true ∧ inB price 0 1000000 = true ∧ inB n 1 6 = false) := by
      revert hg; cases inB band 0 1000000000 <;> cases inB percent 0 100 <;> cases inB price 0 1000000 <;> cases inB n 1 6 <;> simp
    have HR := hide (show R = false by rw [HF.out]; rcases hw with h | h | h | h <;> simp [h])
    clear HF hg
    rcases hw with g1 | ⟨g1, g2⟩ | ⟨g1, g2, g3⟩ | ⟨g1, g2, g3, g4⟩
    case' inr.inr.inr =>
      have hn : n < 1 ∨ (1 ≤ n ∧ 6 < n) := by simp [inB] at g4; omega
      rcases hn with hn | ⟨hn, hn'⟩
    all_goals
      go_enter Tryz.func133, Tryz.ntmps133
      go_wp2_with (go_at_call 169; refine (c_l01In _ _ _ _).mono ?_; rintro e w' ⟨rfl, rfl⟩)
      go_ret
      exact Ret.bool HR.out (Ext.alloc _ _)

end Go.Proofs.YtfkpghdmljjegaaGreat

namespace Go.Proofs.YtfkpghdmljjegaaGreat
open Go.RowKit

theorem pay_bd {d price f : Int} (h0 : 0 ≤ d) (h1 : d ≤ 1000000000) (p0 : 0 ≤ price) (p1 : price ≤ 1000000) (f0 : 0 ≤ f) (f1 : f ≤ 1000) :
    0 ≤ d * price ∧ d * price ≤ 1000000000000000 ∧ 0 ≤ d * price * f ∧ d * price * f ≤ d * 1000000000 := by
  have a := mul_bd 1000000000 1000000 h0 h1 p0 p1
  have b : d * price ≤ d * 1000000 := Int.mul_le_mul_of_nonneg_left p1 h0
  have c : 0 ≤ d * price * f := Int.mul_nonneg a.1 f0
  have e : d * price * f ≤ d * price * 1000 := Int.mul_le_mul_of_nonneg_left f1 a.1
  refine ⟨a.1, a.2, c, ?_⟩
  omega
theorem step_sum {price ex B S T : Int} {x : Tier} {l : List Tier} {U : Int} (hS : S + price * chg ex (x :: l) B = T) (hU : (l = [] ∧ U = ex) ∨ (l ≠ [] ∧ U = min ex x.upto)) (hlt : B < U) :
    S + (U - B) * price * x.factor + price * chg ex l U = T := by
  have e : (U - B) * price * x.factor = price * ((U - B) * x.factor) := by
    rw [Int.mul_comm (U - B) price, Int.mul_assoc]
  rcases hU with ⟨rfl, rfl⟩ | ⟨hl, rfl⟩
  · rw [chg_last, if_pos hlt] at hS
    rw [chg_nil, e, Int.mul_zero]
    omega
  · rw [chg_cons _ _ _ _ hl, if_pos hlt, Int.mul_add] at hS
    rw [e]
    omega
theorem stay_sum {price ex B S T : Int} {x : Tier} {l : List Tier} {U : Int} (hS : S + price * chg ex (x :: l) B = T) (hU : (l = [] ∧ U = ex) ∨ (l ≠ [] ∧ U = min ex x.upto)) (hlt : ¬ B < U) :
    S + price * chg ex l B = T := by
  rcases hU with ⟨rfl, rfl⟩ | ⟨hl, rfl⟩
  · rw [chg_last, if_neg hlt] at hS
    rw [chg_nil]; exact hS
  · rw [chg_cons _ _ _ _ hl, if_neg hlt] at hS
    exact hS

set_option maxHeartbeats 2000000 in
theorem c_chargeFor (band percent price ex : Int) (A : Option Addr) (n c : Nat) (ts : List Tier) (w : World) (hs : SliceOf w 2 Tier.cells A n c ts) (V : Valid band percent price ts) (h0 : 0 ≤ ex) (h1 : ex ≤ 1000000000) :
    Calls Tryz.prog 200 #[.agg #[.int .i64 band, .int .i64 percent, .int .i64 price, .slice A n c], .int .i64 ex] w (Ret (.int .i64 (chargeF price ts ex)) w) := by
  have hn : n ≤ 6 := by rw [hs.len]; exact V.len1
  have hn1 : 1 ≤ n := by rw [hs.len]; exact V.len0
  have hp0 := V.pr0
  have hp1 := V.pr1
  have HR := hide (show chargeF price ts ex = (price * chg ex ts 0 + 99) / 100 from rfl)
  generalize chargeF price ts ex = R at HR ⊢
  go_enter Tryz.func200, Tryz.ntmps200
  go_wp2_with fail
  go_loopw [5, 6, 13] (fun s b i wr => ∃ (k : Nat) (S B : Int), k ≤ n ∧ s = .int .i64 S ∧ b = .int .i64 B ∧ i = .int .i64 k ∧ 0 ≤ B ∧ B ≤ ex ∧ 0 ≤ S ∧ S ≤ B * 1000000000 ∧ Hid (S + price * chg ex (ts.drop k) B = price * chg ex ts 0) ∧ Ext (w.alloc (.cells #[.int .i64 band, .int .i64 percent, .int .i64 price, .slice A n c] 73)) wr) (fun _ _ i _ => n - (intOf i).toNat)
  case atStart => exact ⟨0, 0, 0, Nat.zero_le _, rfl, rfl, rfl, by omega, by omega, by omega, by omega, hide (by simp), Ext.refl _⟩
  case round =>
    obtain ⟨k, S, B, hk, rfl, rfl, rfl, hB0, hB1, hS0, hS1, HS, hx⟩ := hrel
    have hxs := hx.size
    have hz : w.heap.size < wr.heap.size := by simp at hxs; omega
    clear hxs
    have hbx2 : wr.cell? ⟨w.heap.size, 2, none⟩ = some (.int .i64 price) := by rw [hx.cell _ _ (by simp)]; simp
    have hbx3 : wr.cell? ⟨w.heap.size, 3, none⟩ = some (.slice A n c) := by rw [hx.cell _ _ (by simp)]; simp
    by_cases hlt : k < n
    · obtain ⟨b, off, x, rfl, hb, hxk, hc⟩ := (hs.ext hx.box).get hlt
      have hc0 := hc 0 _ rfl
      have hc1 := hc 1 _ rfl
      clear hc
      simp only [Nat.add_zero] at hc0
      obtain ⟨hu0, hu1, hf0, hf1⟩ := V.at_ k x hxk
      have HS2 := hide (show S + price * chg ex (x :: ts.drop (k + 1)) B = price * chg ex ts 0 by rw [← drop_at hxk]; exact HS.out)
      have HD := hide (show ts.drop (k + 1) = [] ↔ k + 1 = n by rw [List.drop_eq_nil_iff, ← hs.len]; omega)
      clear HS hxk
      have key : ∃ U : Int, ((k + 1 = n ∧ U = ex) ∨ (k + 1 < n ∧ U = min ex x.upto)) := by
        by_cases e : k + 1 = n
        · exact ⟨ex, .inl ⟨e, rfl⟩⟩
        · exact ⟨_, .inr ⟨by omega, rfl⟩⟩
      obtain ⟨U, hU⟩ := key
      have HU := hide (show (ts.drop (k + 1) = [] ∧ U = ex) ∨ (ts.drop (k + 1) ≠ [] ∧ U = min ex x.upto) by
        rcases hU with ⟨e, h⟩ | ⟨e, h⟩
        · exact .inl ⟨HD.out.2 e, h⟩
        · exact .inr ⟨fun h' => by have := HD.out.1 h'; omega, h⟩)
      have hU1 : U ≤ ex := by omega
      have hpay := pay_bd (d := U - B) (price := price) (f := x.factor)
      have HN : Hid (B < U → S + (U - B) * price * x.factor + price * chg ex (ts.drop (k + 1)) U = price * chg ex ts 0) := hide (step_sum HS2.out HU.out)
      have HN' : Hid (¬ B < U → S + price * chg ex (ts.drop (k + 1)) B = price * chg ex ts 0) := hide (stay_sum HS2.out HU.out)
      clear HS2 HD HU
      by_cases hBU : B < U
      · obtain ⟨q1, q2, q3, q4⟩ := hpay (by omega) (by omega) hp0 hp1 hf0 hf1
        have HN2 := hide (HN.out hBU)
        clear HN HN' hpay
        rcases hU with ⟨e1, e2⟩ | ⟨e1, e2⟩
        · have hl : ((k : Int) == (n : Int) - 1) = true := by simp; omega
          subst e2
          clear e1
          go_wp2_with fail
          all_goals
            go_roundw
            case rel => exact ⟨k + 1, _, _, by omega, rfl, rfl, by go_num, by omega, by omega, by omega, by omega, HN2, hx.and_alloc _⟩
            case measure => simp [intOf]; omega
        · have hl : ((k : Int) == (n : Int) - 1) = false := by simp; omega
          by_cases hm : ex ≤ x.upto
          · have e3 : U = ex := by omega
            clear e2
            subst e3
            go_wp2_with fail
            go_roundw
            case rel => exact ⟨k + 1, _, _, by omega, rfl, rfl, by go_num, by omega, by omega, by omega, by omega, HN2, hx.and_alloc _⟩
            case measure => simp [intOf]; omega
          · have e3 : U = x.upto := by omega
            clear e2
            subst e3
            go_wp2_with fail
            go_roundw
            case rel => exact ⟨k + 1, _, _, by omega, rfl, rfl, by go_num, by omega, by omega, by omega, by omega, HN2, hx.and_alloc _⟩
            case measure => simp [intOf]; omega
      · have HN2 := hide (HN'.out hBU)
        clear HN HN' hpay
        rcases hU with ⟨e1, e2⟩ | ⟨e1, e2⟩
        · have hl : ((k : Int) == (n : Int) - 1) = true := by simp; omega
          subst e2
          clear e1
          go_wp2_with fail
          all_goals
            go_roundw
            case rel => exact ⟨k + 1, _, _, by omega, rfl, rfl, by go_num, by omega, by omega, by omega, by omega, HN2, hx.and_alloc _⟩
            case measure => simp [intOf]; omega
        · have hl : ((k : Int) == (n : Int) - 1) = false := by simp; omega
          go_wp2_with fail
          all_goals
            go_roundw
            case rel => exact ⟨k + 1, _, _, by omega, rfl, rfl, by go_num, by omega, by omega, by omega, by omega, HN2, hx.and_alloc _⟩
            case measure => simp [intOf]; omega
    · go_wp2_with fail
      go_ret
      refine Ret.int ?_ hx.box
      have := HS.out
      rw [List.drop_of_length_le (by have := hs.len; omega), chg_nil] at this
      rw [HR.out, ← this, Int.mul_zero, Int.add_zero]

end Go.Proofs.YtfkpghdmljjegaaGreat

namespace Go.Proofs.YtfkpghdmljjegaaGreat
open Go.RowKit

theorem step_sum1 {ex B S T : Int} {x : Tier} {l : List Tier} {U : Int} (hS : S + chg ex (x :: l) B = T) (hU : (l = [] ∧ U = ex) ∨ (l ≠ [] ∧ U = min ex x.upto)) (hlt : B < U) :
    S + (U - B) * x.factor + chg ex l U = T := by
  rcases hU with ⟨rfl, rfl⟩ | ⟨hl, rfl⟩
  · rw [chg_last, if_pos hlt] at hS
    rw [chg_nil]
    omega
  · rw [chg_cons _ _ _ _ hl, if_pos hlt] at hS
    omega

set_option maxHeartbeats 2000000 in
theorem c_l29Charge (band percent price ex : Int) (A : Option Addr) (n c : Nat) (ts : List Tier) (w : World) (hs : SliceOf w 2 Tier.cells A n c ts) (V : Valid band percent price ts) (h0 : 0 ≤ ex) (h1 : ex ≤ 1000000000) :
    Calls Tryz.prog 208 #[.agg #[.int .i64 band, .int .i64 percent, .int .i64 price, .slice A n c], .int .i64 ex] w (Ret (.int .i64 (chargeF price ts ex)) w) := by
  have hn : n ≤ 6 := by rw [hs.len]; exact V.len1
  have hn1 : 1 ≤ n := by rw [hs.len]; exact V.len0
  have hp0 := V.pr0
  have hp1 := V.pr1
  have HR := hide (show chargeF price ts ex = chg ex ts 0 / 100 * price + (chg ex ts 0 % 100 * price + 99) / 100 from (charge_spec _ _).symm)
  generalize chargeF price ts ex = R at HR ⊢
  have fin : ∀ s : Int, 0 ≤ s → s ≤ 1000000000000 → 0 ≤ s / 100 * price ∧ s / 100 * price ≤ 10000000000 * 1000000 ∧ 0 ≤ s % 100 * price ∧ s % 100 * price ≤ 100 * 1000000 := by
    intro s s0 s1
    have a := mul_bd (a := s / 100) (b := price) 10000000000 1000000 (by omega) (by omega) hp0 hp1
    have b := mul_bd (a := s % 100) (b := price) 100 1000000 (by omega) (by omega) hp0 hp1
    exact ⟨a.1, a.2, b.1, b.2⟩
  have FIN := hide fin
  clear fin
  go_enter Tryz.func208, Tryz.ntmps208
  go_wp2_with fail
  go_loop [5, 6, 7] (fun s b i => ∃ (k : Nat) (S B : Int), k ≤ n ∧ s = .int .i64 S ∧ b = .int .i64 B ∧ i = .int .i64 k ∧ 0 ≤ B ∧ B ≤ ex ∧ 0 ≤ S ∧ S ≤ B * 1000 ∧ Hid (S + chg ex (ts.drop k) B = chg ex ts 0) ∧ Hid (B < ex → ∀ x, ts[k]? = some x → B < x.upto)) (fun _ _ i => n - (intOf i).toNat)
  case atStart => exact ⟨0, 0, 0, Nat.zero_le _, rfl, rfl, rfl, by omega, by omega, by omega, by omega, hide (by simp), hide (fun _ x hx => by have := V.at_ 0 x hx; omega)⟩
  case round =>
    obtain ⟨k, S, B, hk, rfl, rfl, rfl, hB0, hB1, hS0, hS1, HS, HU⟩ := hrel
    by_cases hlt : k < n
    · by_cases hBe : B < ex
      · obtain ⟨b, off, x, rfl, hb, hxk, hc⟩ := hs.get hlt
        have hc0 := hc 0 _ rfl
        have hc1 := hc 1 _ rfl
        clear hc
        simp only [Nat.add_zero] at hc0
        obtain ⟨hu0, hu1, hf0, hf1⟩ := V.at_ k x hxk
        have hBx := HU.out hBe x hxk
        have HS2 := hide (show S + chg ex (x :: ts.drop (k + 1)) B = chg ex ts 0 by rw [← drop_at hxk]; exact HS.out)
        have HD := hide (show ts.drop (k + 1) = [] ↔ k + 1 = n by rw [List.drop_eq_nil_iff, ← hs.len]; omega)
        have HX := hide hxk
        clear HS HU hxk
        have key : ∃ U : Int, ((k + 1 = n ∧ U = ex) ∨ (k + 1 < n ∧ U = min ex x.upto)) := by
          by_cases e : k + 1 = n
          · exact ⟨ex, .inl ⟨e, rfl⟩⟩
          · exact ⟨_, .inr ⟨by omega, rfl⟩⟩
        obtain ⟨U, hU⟩ := key
        have hBU : B < U := by omega
        have hU1 : U ≤ ex := by omega
        have HN := hide (step_sum1 HS2.out (show (ts.drop (k + 1) = [] ∧ U = ex) ∨ (ts.drop (k + 1) ≠ [] ∧ U = min ex x.upto) by
          rcases hU with ⟨e, h⟩ | ⟨e, h⟩
          · exact .inl ⟨HD.out.2 e, h⟩
          · exact .inr ⟨fun h' => by have := HD.out.1 h'; omega, h⟩) hBU)
        have HV := hide (show U < ex → ∀ y, ts[k + 1]? = some y → U < y.upto by
          intro hUe y hy
          have := V.next k x y HX.out hy
          omega)
        have q1 : 0 ≤ (U - B) * x.factor := Int.mul_nonneg (by omega) hf0
        have q2 : (U - B) * x.factor ≤ (U - B) * 1000 := Int.mul_le_mul_of_nonneg_left hf1 (by omega)
        clear HS2 HD HX
        rcases hU with ⟨e1, e2⟩ | ⟨e1, e2⟩
        · have hl : ((k : Int) == (n : Int) - 1) = true := by simp; omega
          subst e2
          clear e1
          go_wp2_with fail
          all_goals
            go_round
            case rel => exact ⟨k + 1, _, _, by omega, rfl, rfl, by go_num, by omega, by omega, by omega, by omega, HN, HV⟩
            case measure => simp [intOf]; omega
        · have hl : ((k : Int) == (n : Int) - 1) = false := by simp; omega
          by_cases hm : ex ≤ x.upto
          · have e3 : U = ex := by omega
            clear e2
            subst e3
            go_wp2_with fail
            go_round
            case rel => exact ⟨k + 1, _, _, by omega, rfl, rfl, by go_num, by omega, by omega, by omega, by omega, HN, HV⟩
            case measure => simp [intOf]; omega
          · have e3 : U = x.upto := by omega
            clear e2
            subst e3
            go_wp2_with fail
            go_round
            case rel => exact ⟨k + 1, _, _, by omega, rfl, rfl, by go_num, by omega, by omega, by omega, by omega, HN, HV⟩
            case measure => simp [intOf]; omega
      · obtain ⟨r1, r2, r3, r4⟩ := FIN.out S hS0 (by omega)
        have hBe' : decide (B < ex) = false := by simpa using hBe
        go_wp2_with fail
        go_ret
        refine Ret.int ?_ (Ext.alloc _ _)
        have := HS.out
        rw [chg_done _ _ _ (by omega), Int.add_zero] at this
        rw [HR.out, ← this]
    · obtain ⟨r1, r2, r3, r4⟩ := FIN.out S hS0 (by omega)
      go_wp2_with fail
      go_ret
      refine Ret.int ?_ (Ext.alloc _ _)
      have := HS.out
      rw [List.drop_of_length_le (by have := hs.len; omega), chg_nil, Int.add_zero] at this
      rw [HR.out, ← this]

end Go.Proofs.YtfkpghdmljjegaaGreat

namespace Go.Proofs.YtfkpghdmljjegaaGreat
open Go.RowKit
structure Posting where
  debit : Int
  credit : Int
  gas : Int
  money : Int
def Posting.cells (p : Posting) : List Value := [.int .i64 p.debit, .int .i64 p.credit, .int .i64 p.gas, .int .i64 p.money]
theorem post_len (p : Posting) : p.cells.length = 4 := rfl
end Go.Proofs.YtfkpghdmljjegaaGreat

namespace Go.Proofs.YtfkpghdmljjegaaGreat
open Go.RowKit

end Go.Proofs.YtfkpghdmljjegaaGreat

namespace Go.Proofs.YtfkpghdmljjegaaGreat
open Go.RowKit


theorem posting_info : (Tryz.prog.info? 188).map (fun i => (i.zero, i.size, i.bytes)) = some (some (.agg #[.int .i64 0, .int .i64 0, .int .i64 0, .int .i64 0]), 4, 32) := by kernel_rfl


theorem c_eqPosting (x : Posting) (w : World) :
    Calls Tryz.prog 141 #[.agg #[.int .i64 x.debit, .int .i64 x.credit, .int .i64 x.gas, .int .i64 x.money], .agg #[.int .i64 x.debit, .int .i64 x.credit, .int .i64 x.gas, .int .i64 x.money]] w (Ret (.bool true) w) := by
  go_enter Tryz.func141, Tryz.ntmps141
  go_wp2
  go_ret
  exact Ret.bool rfl (((Ext.refl _).and_alloc _).and_alloc _)




set_option maxHeartbeats 1000000 in
theorem c_eqPostingS (A A' : Option Addr) (n c n' c' : Nat) (ts : List Posting) (w : World) (hs : SliceOf w 4 Posting.cells A n c ts) (hs' : SliceOf w 4 Posting.cells A' n' c' ts) :
    Calls Tryz.prog 57 #[.slice A n c, .slice A' n' c'] w (Ret (.bool true) w) := by
  have hl := hs.len
  obtain rfl : n = n' := by rw [hs.len, hs'.len]
  have hm := hs.max
  have hcp := hs.cap
  clear hl
  go_enter Tryz.func57, Tryz.ntmps57
  go_wp2_with fail
  go_loopw [5] (fun i wr => ∃ (k : Nat), k ≤ n ∧ i = .int .i64 k ∧ Ext w wr) (fun i _ => n - (intOf i).toNat)
  case atStart => exact ⟨0, Nat.zero_le _, rfl, Ext.refl _⟩
  case round =>
    obtain ⟨k, hk, rfl, hx⟩ := hrel
    by_cases hlt : k < n
    · obtain ⟨b, off, x, rfl, hb, hxk, hc⟩ := (hs.ext hx).get hlt
      obtain ⟨b', off', x', rfl, hb', hxk', hc'⟩ := (hs'.ext hx).get hlt
      obtain rfl : x = x' := by rw [hxk] at hxk'; injection hxk'
      have hc0 := hc 0 _ rfl
      have hc1 := hc 1 _ rfl
      have hc2 := hc 2 _ rfl
      have hc3 := hc 3 _ rfl
      have hd0 := hc' 0 _ rfl
      have hd1 := hc' 1 _ rfl
      have hd2 := hc' 2 _ rfl
      have hd3 := hc' 3 _ rfl
      clear hc hc' hxk hxk'
      simp only [Nat.add_zero] at hc0 hd0
      go_wp2_with fail
      refine wp_region_later (by kernel_rfl) (by kernel_rfl) ?_
      repeat (go_big_quiet_step ((go_at_call 141; exact quiet_later (c_eqPosting x _))))
      refine wpQuiet_nil ?_
      intro w1 hx1
      go_wp2
      go_roundw
      case rel => exact ⟨k + 1, by omega, by go_num, hx.trans hx1⟩
      case measure => simp [intOf]; omega
    · go_wp2
      go_ret
      exact Ret.bool rfl hx


/-- the marks from a number on -/
def markPosting (a : Int) (n : Nat) : List Posting := (List.range n).map fun (i : Nat) => ⟨a + 4 * (i : Int), a + 4 * (i : Int) + 1, a + 4 * (i : Int) + 2, a + 4 * (i : Int) + 3⟩
theorem markPosting_at (a : Int) (n i : Nat) (h : i < n) : (markPosting a n)[i]? = some ⟨a + 4 * (i : Int), a + 4 * (i : Int) + 1, a + 4 * (i : Int) + 2, a + 4 * (i : Int) + 3⟩ := by
  unfold markPosting; rw [List.getElem?_map, List.getElem?_range h]; rfl
/-- the row is marked; nothing else has turned -/
def MarkedPosting (g : Nat) (A : Option Addr) (n : Nat) (a : Int) (w : World) (e : Ending) (w' : World) : Prop :=
  e = .returned (.int .i64 (a + 4 * n)) ∧ OwnS w' g 188 Posting.cells A n (markPosting a n) ∧ Only g w w'
set_option maxHeartbeats 1000000 in
theorem c_markPostingS (g : Nat) (A : Option Addr) (n c : Nat) (ts : List Posting) (a : Int) (w : World) (hown0 : OwnS w g 188 Posting.cells A n ts) (hn : n ≤ 1000000000) (hcap : n ≤ c) (hmax : c ≤ 9223372036854775807) (ha0 : 0 ≤ a) (ha1 : a ≤ 1000000000000) :
    Calls Tryz.prog 62 #[.slice A n c, .int .i64 a] w (MarkedPosting g A n a w) := by
  go_enter Tryz.func62, Tryz.ntmps62
  go_wp2_with fail
  go_loopw [1, 5] (fun q i wr => ∃ (k : Nat) (K : Int) (L : List Posting), k ≤ n ∧ q = .int .i64 K ∧ i = .int .i64 k ∧ a + 4 * (k : Int) ≤ K ∧ K ≤ a + 4 * (k : Int) ∧ OwnS wr g 188 Posting.cells A n L ∧ Hid (∀ j, j < k → L[j]? = (markPosting a n)[j]?) ∧ Only g w wr) (fun _ i _ => n - (intOf i).toNat)
  case atStart => exact ⟨0, a, ts, Nat.zero_le _, rfl, rfl, by omega, by omega, hown0, hide (fun j hj => absurd hj (by omega)), Only.refl _ _⟩
  case round =>
    obtain ⟨k, K, L, hk, rfl, rfl, hK0, hK1, hown, HK, hx⟩ := hrel
    by_cases hlt : k < n
    · have hn0 : 0 < n := by omega
      obtain ⟨rfl, _⟩ := hown.2 hn0
      obtain ⟨v0, hv0⟩ := hown.there post_len (i := k) hlt (j := 0) (by omega)
      have hf0 := hown.frozen hn0 (k * 4)
      obtain ⟨v1, hv1⟩ := hown.there post_len (i := k) hlt (j := 1) (by omega)
      have hf1 := hown.frozen hn0 (k * 4 + 1)
      obtain ⟨v2, hv2⟩ := hown.there post_len (i := k) hlt (j := 2) (by omega)
      have hf2 := hown.frozen hn0 (k * 4 + 2)
      obtain ⟨v3, hv3⟩ := hown.there post_len (i := k) hlt (j := 3) (by omega)
      have hf3 := hown.frozen hn0 (k * 4 + 3)
      rw [Nat.add_zero] at hv0
      have HL := hide hown.1
      go_wp2_with fail
      go_roundw
      case rel =>
        refine ⟨k + 1, _, L.set k ⟨K, K + 1, K + 1 + 1, K + 1 + 1 + 1⟩, by omega, rfl, by go_num, by omega, by omega, hown.put post_len hlt ⟨K, K + 1, K + 1 + 1, K + 1 + 1 + 1⟩, hide ?_, hx.put (k * 4) (Posting.cells ⟨K, K + 1, K + 1 + 1, K + 1 + 1 + 1⟩)⟩
        intro j hj
        rw [List.getElem?_set]
        by_cases e : k = j
        · subst e
          rw [if_pos rfl, if_pos (by rw [← HL.out]; exact hlt), markPosting_at _ _ _ hlt]
          congr 2 <;> omega
        · rw [if_neg e]; exact HK.out j (by omega)
      case measure => simp [intOf]; omega
    · go_wp2_with fail
      go_ret
      have hLts : L = markPosting a n := by
        apply List.ext_getElem?
        intro j
        by_cases hj : j < n
        · exact HK.out j (by omega)
        · rw [List.getElem?_eq_none (by have := hown.1; omega), List.getElem?_eq_none (by simp [markPosting]; omega)]
      subst hLts
      refine ⟨?_, hown, hx⟩
      obtain rfl : k = n := by omega
      have : K = a + 4 * (k : Int) := by omega
      rw [← this]; rfl

set_option maxHeartbeats 1000000 in
theorem c_heldPostingS (A : Option Addr) (n c : Nat) (a : Int) (w : World) (hs : SliceOf w 4 Posting.cells A n c (markPosting a n)) (hn : n ≤ 1000000000) (ha0 : 0 ≤ a) (ha1 : a ≤ 1000000000000) :
    Calls Tryz.prog 63 #[.slice A n c, .int .i64 a] w fun e w' => e = .returned (.int .i64 (a + 4 * n)) ∧ w = w' := by
  have hcap := hs.cap
  have hmax := hs.max
  go_enter Tryz.func63, Tryz.ntmps63
  go_wp2_with fail
  go_loop [1, 5] (fun q i => ∃ (k : Nat) (K : Int), k ≤ n ∧ q = .int .i64 K ∧ i = .int .i64 k ∧ a + 4 * (k : Int) ≤ K ∧ K ≤ a + 4 * (k : Int)) (fun _ i => n - (intOf i).toNat)
  case atStart => exact ⟨0, a, Nat.zero_le _, rfl, rfl, by omega, by omega⟩
  case round =>
    obtain ⟨k, K, hk, rfl, rfl, hK0, hK1⟩ := hrel
    by_cases hlt : k < n
    · obtain ⟨b, off, x, rfl, hb, hxk, hc⟩ := hs.get hlt
      rw [markPosting_at _ _ _ hlt] at hxk
      obtain rfl : (⟨K, K + 1, K + 1 + 1, K + 1 + 1 + 1⟩ : Posting) = x := by
        injection hxk with hxk
        rw [← hxk]
        congr 1 <;> omega
      clear hxk
      have hc0 := hc 0 _ rfl
      have hc1 := hc 1 _ rfl
      have hc2 := hc 2 _ rfl
      have hc3 := hc 3 _ rfl
      clear hc
      simp only [Nat.add_zero] at hc0
      go_wp2_with fail
      go_round
      case rel => exact ⟨k + 1, _, by omega, rfl, by go_num, by omega, by omega⟩
      case measure => simp [intOf]; omega
    · go_wp2_with fail
      go_ret
      obtain rfl : k = n := by omega
      have : K = a + 4 * (k : Int) := by omega
      exact ⟨by rw [← this]; rfl, rfl⟩

end Go.Proofs.YtfkpghdmljjegaaGreat
