

/-
  Ledgers: isLedger of the program (by way of slices.ContainsFunc), l30List of the reference.
-/
import Derived.Test.YtclnfjpjmelfpaaLedA
namespace Go.Proofs.Ytclnfjpjmelfpaa
open Go.RowKit

def ledB (ps : List Posting) : Bool := decide (ps.length ≤ 300) && ps.all postB

theorem c_bad (p : Posting) (w : World) :
    Calls Try.prog 80 #[.agg #[.int .i64 p.debit, .int .i64 p.credit, .int .i64 p.gas, .int .i64 p.money]] w (Ret (.bool (!postB p)) w) := by
  go_enter Try.func80, Try.ntmps80
  go_wp2_with (go_at_call 17; refine (c_IsPosting p _).mono ?_; rintro e w1 ⟨rfl, hx1⟩)
  go_ret
  exact Ret.bool rfl hx1.box

/-- an index that is not negative where one is found -/
def FoundIdx (b : Bool) (w : World) (e : Ending) (w' : World) : Prop := ∃ r : Int, e = .returned (.int .i64 r) ∧ decide (0 ≤ r) = !b ∧ Ext w w'

set_option maxHeartbeats 1000000 in
theorem c_IndexFunc (A : Option Addr) (n c : Nat) (ps : List Posting) (w : World) (hs : SliceOf w 4 Posting.cells A n c ps) :
    Calls Try.prog 84 #[.slice A n c, .func (.func 80) #[] #[]] w (FoundIdx (ps.all postB) w) := by
  have hm := hs.max
  have hcap := hs.cap
  go_enter Try.func84, Try.ntmps84
  go_wp2_with fail
  go_loopw [4, 8] (fun r i wr => ∃ k : Nat, k ≤ n ∧ r = .int .i64 0 ∧ i = .int .i64 k ∧ Hid (∀ (j : Nat) (p : Posting), j < k → ps[j]? = some p → postB p = true) ∧ Ext w wr) (fun _ i _ => n - (intOf i).toNat)
  case atStart => exact ⟨0, Nat.zero_le _, rfl, rfl, hide (fun j p hj => absurd hj (by omega)), Ext.refl _⟩
  case round =>
    obtain ⟨k, hk, rfl, rfl, HK, hx⟩ := hrel
    by_cases hlt : k < n
    · obtain ⟨b, off, p, rfl, hb, hxk, hc⟩ := (hs.ext hx).get hlt
      have hc0 := hc 0 _ rfl
      have hc1 := hc 1 _ rfl
      have hc2 := hc 2 _ rfl
      have hc3 := hc 3 _ rfl
      clear hc
      simp only [Nat.add_zero] at hc0
      have HX := hide hxk
      clear hxk
      cases hp : postB p
      · go_wp2_with (go_at_call 80; refine (c_bad p _).mono ?_; rw [hp]; rintro e w1 ⟨rfl, hx1⟩)
        go_ret
        refine ⟨k, rfl, ?_, hx.trans hx1⟩
        have : ps.all postB = false := by rw [List.all_eq_false]; exact ⟨p, List.mem_of_getElem? HX.out, by simp [hp]⟩
        rw [this]; simp
      · go_wp2_with (go_at_call 80; refine (c_bad p _).mono ?_; rw [hp]; rintro e w1 ⟨rfl, hx1⟩)
        go_roundw
        case rel =>
          refine ⟨k + 1, by omega, rfl, by go_num, hide fun j q hj hq => ?_, hx.trans hx1⟩
          by_cases e : j = k
          · subst e; rw [HX.out] at hq; injection hq with hq; subst hq; exact hp
          · exact HK.out j q (by omega) hq
        case measure => simp [intOf]; omega
    · go_wp2_with fail
      go_ret
      refine ⟨-1, rfl, ?_, hx⟩
      have : ps.all postB = true := by
        rw [List.all_eq_true]; intro q hq
        obtain ⟨j, hj, rfl⟩ := List.mem_iff_getElem.1 hq
        exact HK.out j _ (by have := hs.len; omega) (List.getElem?_eq_getElem hj)
      rw [this]; simp

theorem c_ContainsFunc (A : Option Addr) (n c : Nat) (ps : List Posting) (w : World) (hs : SliceOf w 4 Posting.cells A n c ps) :
    Calls Try.prog 79 #[.slice A n c, .func (.func 80) #[] #[]] w (Ret (.bool (!ps.all postB)) w) := by
  go_enter Try.func79, Try.ntmps79
  go_wp2_with fail
  refine (c_IndexFunc A n c ps _ hs).mono ?_
  rintro e w1 ⟨r, rfl, hr, hx1⟩
  have HR := hide hr
  clear hr
  go_wp2_with fail
  go_ret
  exact Ret.bool HR.out.symm hx1

theorem c_isLedger (A : Option Addr) (n c : Nat) (ps : List Posting) (w : World) (hs : SliceOf w 4 Posting.cells A n c ps) :
    Calls Try.prog 60 #[.slice A n c] w (Ret (.bool (ledB ps)) w) := by
  have hm := hs.max
  have hcap := hs.cap
  by_cases h3 : n ≤ 300
  · have HR := hide (show ledB ps = ps.all postB by simp [ledB, ← hs.len, h3])
    go_enter Try.func60, Try.ntmps60
    go_wp2_with fail
    refine (c_ContainsFunc A n c ps _ hs).mono ?_
    rintro e w1 ⟨rfl, hx1⟩
    go_wp2_with fail
    go_ret
    refine Ret.bool ?_ hx1
    rw [HR.out]
  · have HR := hide (show ledB ps = false by simp [ledB, ← hs.len, h3])
    have h3' : decide (n ≤ 300) = false := by simpa using h3
    go_enter Try.func60, Try.ntmps60
    go_wp2_with fail
    go_ret
    exact Ret.bool HR.out (Ext.refl _)

set_option maxHeartbeats 1000000 in
theorem c_l30List (A : Option Addr) (n c : Nat) (ps : List Posting) (w : World) (hs : SliceOf w 4 Posting.cells A n c ps) :
    Calls Try.prog 57 #[.slice A n c] w (Ret (.bool (ledB ps)) w) := by
  have hm := hs.max
  have hcap := hs.cap
  go_enter Try.func57, Try.ntmps57
  go_wp2_with fail
  go_loopw [2, 3] (fun r i wr => ∃ k : Nat, k ≤ n ∧ r = .bool false ∧ i = .int .i64 k ∧ Hid (∀ (j : Nat) (p : Posting), j < k → ps[j]? = some p → postB p = true) ∧ Ext w wr) (fun _ i _ => n - (intOf i).toNat)
  case atStart => exact ⟨0, Nat.zero_le _, rfl, rfl, hide (fun j p hj => absurd hj (by omega)), Ext.refl _⟩
  case round =>
    obtain ⟨k, hk, rfl, rfl, HK, hx⟩ := hrel
    by_cases hlt : k < n
    · obtain ⟨b, off, p, rfl, hb, hxk, hc⟩ := (hs.ext hx).get hlt
      have hc0 := hc 0 _ rfl
      have hc1 := hc 1 _ rfl
      have hc2 := hc 2 _ rfl
      have hc3 := hc 3 _ rfl
      clear hc
      simp only [Nat.add_zero] at hc0
      have HX := hide hxk
      clear hxk
      cases hp : postB p
      · go_wp2_with (go_at_call 15; refine (c_specIsPosting p _).mono ?_; rw [hp]; rintro e w1 ⟨rfl, hx1⟩)
        go_ret
        refine Ret.bool ?_ (hx.trans hx1)
        have : ps.all postB = false := by rw [List.all_eq_false]; exact ⟨p, List.mem_of_getElem? HX.out, by simp [hp]⟩
        simp [ledB, this]
      · go_wp2_with (go_at_call 15; refine (c_specIsPosting p _).mono ?_; rw [hp]; rintro e w1 ⟨rfl, hx1⟩)
        go_roundw
        case rel =>
          refine ⟨k + 1, by omega, rfl, by go_num, hide fun j q hj hq => ?_, hx.trans hx1⟩
          by_cases e : j = k
          · subst e; rw [HX.out] at hq; injection hq with hq; subst hq; exact hp
          · exact HK.out j q (by omega) hq
        case measure => simp [intOf]; omega
    · have : ps.all postB = true := by
        rw [List.all_eq_true]; intro q hq
        obtain ⟨j, hj, rfl⟩ := List.mem_iff_getElem.1 hq
        exact HK.out j _ (by have := hs.len; omega) (List.getElem?_eq_getElem hj)
      have HR := hide (show ledB ps = decide (n ≤ 300) by simp [ledB, this, ← hs.len])
      clear this
      go_wp2_with fail
      go_ret
      exact Ret.bool (by rw [HR.out, Bool.eq_iff_iff]; simp; omega) hx

end Go.Proofs.Ytclnfjpjmelfpaa
