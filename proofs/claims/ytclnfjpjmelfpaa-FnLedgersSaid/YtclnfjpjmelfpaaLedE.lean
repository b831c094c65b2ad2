

/-
  IsSettled, GasBalances, MoneyBalances of the program and of the reference.
-/
import Derived.Test.YtclnfjpjmelfpaaLedD
import Derived.Test.YtclnfjpjmelfpaaIntsM
namespace Go.Proofs.Ytclnfjpjmelfpaa
open Go.RowKit

theorem c_l05Zero (A : Option Addr) (n c : Nat) (zs : List Int) (w : World) (hs : SliceOf w 1 intC A n c zs) :
    Calls Try.prog 58 #[.slice A n c] w fun e w' => e = .returned (.bool (allB zs 0 0)) ∧ w = w' := by
  have hm := hs.max
  have hcap := hs.cap
  go_enter Try.func58, Try.ntmps58
  go_wp2_with fail
  go_loop [2, 3] (fun r i => ∃ k : Nat, k ≤ n ∧ r = .bool false ∧ i = .int .i64 k ∧ Hid (∀ (j : Nat) (z : Int), j < k → zs[j]? = some z → inB z 0 0 = true)) (fun _ i => n - (intOf i).toNat)
  case atStart => exact ⟨0, Nat.zero_le _, rfl, rfl, hide (fun j z hj => absurd hj (by omega))⟩
  case round =>
    obtain ⟨k, hk, rfl, rfl, HK⟩ := hrel
    by_cases hlt : k < n
    · obtain ⟨b, off, x, rfl, hb, hxk, hc0⟩ := hs.get1 hlt
      have HX := hide hxk
      clear hxk
      by_cases h0 : x = 0
      · have h0' : (x != 0) = false := by simpa using h0
        have HI := hide (show inB x 0 0 = true by rw [inB_true]; omega)
        clear h0
        go_wp2_with fail
        go_round
        case rel =>
          refine ⟨k + 1, by omega, rfl, by go_num, hide fun j z hj hz => ?_⟩
          by_cases e : j = k
          · subst e; rw [HX.out] at hz; injection hz with hz; subst hz; exact HI.out
          · exact HK.out j z (by omega) hz
        case measure => simp [intOf]; omega
      · have h0' : (x != 0) = true := by simpa using h0
        have HI := hide (show inB x 0 0 = false by rw [inB_false]; omega)
        clear h0
        go_wp2_with fail
        go_ret
        exact ⟨by rw [all_take_false HX.out HI.out]; rfl, rfl⟩
    · go_wp2_with fail
      go_ret
      refine ⟨?_, rfl⟩
      rw [all_take_true (fun j z hz => HK.out j z (by have := (List.getElem?_eq_some_iff.1 hz).1; have := hs.len; omega) hz)]; rfl

def settledB (ps : List Posting) : Bool := ledB ps && allB (balL (balF Posting.gas ps)) 0 0 && allB (balL (balF Posting.money ps)) 0 0
theorem settled_ways (ps : List Posting) : (ledB ps = false ∧ settledB ps = false) ∨ (ledB ps = true ∧ allB (balL (balF Posting.gas ps)) 0 0 = false ∧ settledB ps = false) ∨
    (ledB ps = true ∧ allB (balL (balF Posting.gas ps)) 0 0 = true ∧ settledB ps = allB (balL (balF Posting.money ps)) 0 0) := by
  unfold settledB
  cases ledB ps <;> cases allB (balL (balF Posting.gas ps)) 0 0 <;> simp

set_option maxHeartbeats 1000000 in
theorem c_IsSettled (A : Option Addr) (n c : Nat) (ps : List Posting) (w : World) (hs : SliceOf w 4 Posting.cells A n c ps) :
    Calls Try.prog 21 #[.slice A n c] w (Ret (.bool (settledB ps)) w) := by
  rcases settled_ways ps with ⟨h1, hr⟩ | ⟨h1, h2, hr⟩ | ⟨h1, h2, hr⟩
  · have HR := hide hr
    clear hr
    go_enter Try.func21, Try.ntmps21
    go_wp2_with fail
    refine (c_isLedger A n c ps _ hs).mono ?_
    rw [h1]
    rintro e w1 ⟨rfl, hx1⟩
    go_wp2_with fail
    go_ret
    exact Ret.bool HR.out hx1
  all_goals
    have HR := hide hr
    clear hr
    go_enter Try.func21, Try.ntmps21
    go_wp2_with fail
    refine (c_isLedger A n c ps _ hs).mono ?_
    rw [h1]
    rintro e w1 ⟨rfl, hx1⟩
    go_wp2_with fail
    refine (c_balancesOf A n c ps _ (hs.ext hx1) h1).mono ?_
    rintro e w2 ⟨g1, g2, rfl, hg1, hg2, hne, hr1, hr2, hx2⟩
    go_wp2_with fail
    refine (c_allWithin _ _ _ _ _ _ _ (hr1.slice intC_len (n := 24) (balL_len _).symm (by omega))).mono ?_
    rw [h2]
    rintro e w3 ⟨rfl, rfl⟩
  · go_wp2_with fail
    go_ret
    exact Ret.bool HR.out (hx1.trans hx2)
  · go_wp2_with fail
    refine (c_allWithin _ _ _ _ _ _ _ (hr2.slice intC_len (n := 24) (balL_len _).symm (by omega))).mono ?_
    rintro e w3 ⟨rfl, rfl⟩
    go_wp2_with fail
    go_ret
    exact Ret.bool HR.out (hx1.trans hx2)

set_option maxHeartbeats 1000000 in
theorem c_specIsSettled (A : Option Addr) (n c : Nat) (ps : List Posting) (w : World) (hs : SliceOf w 4 Posting.cells A n c ps) :
    Calls Try.prog 19 #[.slice A n c] w (Ret (.bool (settledB ps)) w) := by
  rcases settled_ways ps with ⟨h1, hr⟩ | ⟨h1, h2, hr⟩ | ⟨h1, h2, hr⟩
  · have HR := hide hr
    clear hr
    go_enter Try.func19, Try.ntmps19
    go_wp2_with fail
    refine (c_l30List A n c ps _ hs).mono ?_
    rw [h1]
    rintro e w1 ⟨rfl, hx1⟩
    go_wp2_with fail
    go_ret
    exact Ret.bool HR.out hx1
  all_goals
    have HR := hide hr
    clear hr
    go_enter Try.func19, Try.ntmps19
    go_wp2_with fail
    refine (c_l30List A n c ps _ hs).mono ?_
    rw [h1]
    rintro e w1 ⟨rfl, hx1⟩
    go_wp2_with fail
    refine (c_l30Gas A n c ps _ (hs.ext hx1) h1).mono ?_
    rintro e w2 ⟨g1, rfl, hg1, hr1, hx2⟩
    go_wp2_with fail
    refine (c_l05Zero _ _ _ _ _ (hr1.slice intC_len (n := 24) (balL_len _).symm (by omega))).mono ?_
    rw [h2]
    rintro e w3 ⟨rfl, rfl⟩
  · go_wp2_with fail
    go_ret
    exact Ret.bool HR.out (hx1.trans hx2)
  · go_wp2_with fail
    refine (c_l30Money A n c ps _ (hs.ext (hx1.trans hx2)) h1).mono ?_
    rintro e w4 ⟨g2, rfl, hg2, hr2, hx4⟩
    go_wp2_with fail
    refine (c_l05Zero _ _ _ _ _ (hr2.slice intC_len (n := 24) (balL_len _).symm (by omega))).mono ?_
    rintro e w3 ⟨rfl, rfl⟩
    go_wp2_with fail
    go_ret
    exact Ret.bool HR.out ((hx1.trans hx2).trans hx4)

def gasR (ps : List Posting) : List Int × Int := if ledB ps = false then ([], 3) else (balL (balF Posting.gas ps), 0)
def moneyR (ps : List Posting) : List Int × Int := if ledB ps = false then ([], 3) else (balL (balF Posting.money ps), 0)

theorem c_GasBalances (A : Option Addr) (n c : Nat) (ps : List Posting) (w : World) (hs : SliceOf w 4 Posting.cells A n c ps) :
    Calls Try.prog 39 #[.slice A n c] w (RetS 2 intC (gasR ps) w) := by
  cases h1 : ledB ps
  · have HR := hide (show gasR ps = ([], 3) by simp [gasR, h1])
    go_enter Try.func39, Try.ntmps39
    go_wp2_with fail
    refine (c_isLedger A n c ps _ hs).mono ?_
    rw [h1]
    rintro e w1 ⟨rfl, hx1⟩
    go_wp2_with fail
    go_ret2
    exact RetS.nil_ HR.out hx1
  · go_enter Try.func39, Try.ntmps39
    go_wp2_with fail
    refine (c_isLedger A n c ps _ hs).mono ?_
    rw [h1]
    rintro e w1 ⟨rfl, hx1⟩
    go_wp2_with fail
    refine (c_balancesOf A n c ps _ (hs.ext hx1) h1).mono ?_
    rintro e w2 ⟨g1, g2, rfl, hg1, hg2, hne, hr1, hr2, hx2⟩
    go_wp2_with fail
    go_ret2
    exact RetS.row (by simp [gasR, h1]) (balL_len _).symm (by omega) (by have := hx1.size; omega) hr1 (hx1.trans hx2)

theorem c_MoneyBalances (A : Option Addr) (n c : Nat) (ps : List Posting) (w : World) (hs : SliceOf w 4 Posting.cells A n c ps) :
    Calls Try.prog 41 #[.slice A n c] w (RetS 2 intC (moneyR ps) w) := by
  cases h1 : ledB ps
  · have HR := hide (show moneyR ps = ([], 3) by simp [moneyR, h1])
    go_enter Try.func41, Try.ntmps41
    go_wp2_with fail
    refine (c_isLedger A n c ps _ hs).mono ?_
    rw [h1]
    rintro e w1 ⟨rfl, hx1⟩
    go_wp2_with fail
    go_ret2
    exact RetS.nil_ HR.out hx1
  · go_enter Try.func41, Try.ntmps41
    go_wp2_with fail
    refine (c_isLedger A n c ps _ hs).mono ?_
    rw [h1]
    rintro e w1 ⟨rfl, hx1⟩
    go_wp2_with fail
    refine (c_balancesOf A n c ps _ (hs.ext hx1) h1).mono ?_
    rintro e w2 ⟨g1, g2, rfl, hg1, hg2, hne, hr1, hr2, hx2⟩
    go_wp2_with fail
    go_ret2
    exact RetS.row (by simp [moneyR, h1]) (balL_len _).symm (by omega) (by have := hx1.size; omega) hr2 (hx1.trans hx2)

theorem c_specGasBalances (A : Option Addr) (n c : Nat) (ps : List Posting) (w : World) (hs : SliceOf w 4 Posting.cells A n c ps) :
    Calls Try.prog 38 #[.slice A n c] w (RetS 2 intC (gasR ps) w) := by
  cases h1 : ledB ps
  · have HR := hide (show gasR ps = ([], 3) by simp [gasR, h1])
    go_enter Try.func38, Try.ntmps38
    go_wp2_with fail
    refine (c_l30List A n c ps _ hs).mono ?_
    rw [h1]
    rintro e w1 ⟨rfl, hx1⟩
    go_wp2_with fail
    go_ret2
    exact RetS.nil_ HR.out hx1
  · go_enter Try.func38, Try.ntmps38
    go_wp2_with fail
    refine (c_l30List A n c ps _ hs).mono ?_
    rw [h1]
    rintro e w1 ⟨rfl, hx1⟩
    go_wp2_with fail
    refine (c_l30Gas A n c ps _ (hs.ext hx1) h1).mono ?_
    rintro e w2 ⟨g1, rfl, hg1, hr1, hx2⟩
    go_wp2_with fail
    go_ret2
    exact RetS.row (by simp [gasR, h1]) (balL_len _).symm (by omega) (by have := hx1.size; omega) hr1 (hx1.trans hx2)

theorem c_specMoneyBalances (A : Option Addr) (n c : Nat) (ps : List Posting) (w : World) (hs : SliceOf w 4 Posting.cells A n c ps) :
    Calls Try.prog 40 #[.slice A n c] w (RetS 2 intC (moneyR ps) w) := by
  cases h1 : ledB ps
  · have HR := hide (show moneyR ps = ([], 3) by simp [moneyR, h1])
    go_enter Try.func40, Try.ntmps40
    go_wp2_with fail
    refine (c_l30List A n c ps _ hs).mono ?_
    rw [h1]
    rintro e w1 ⟨rfl, hx1⟩
    go_wp2_with fail
    go_ret2
    exact RetS.nil_ HR.out hx1
  · go_enter Try.func40, Try.ntmps40
    go_wp2_with fail
    refine (c_l30List A n c ps _ hs).mono ?_
    rw [h1]
    rintro e w1 ⟨rfl, hx1⟩
    go_wp2_with fail
    refine (c_l30Money A n c ps _ (hs.ext hx1) h1).mono ?_
    rintro e w2 ⟨g1, rfl, hg1, hr1, hx2⟩
    go_wp2_with fail
    go_ret2
    exact RetS.row (by simp [moneyR, h1]) (balL_len _).symm (by omega) (by have := hx1.size; omega) hr1 (hx1.trans hx2)

end Go.Proofs.Ytclnfjpjmelfpaa
