/-
  Plain lemmas on texts: a numeral is read as the number that it was written of; words and lines. No function of the program is named here.
-/
import Derived.Lib.ItoaMem
import Derived.Lib.ParseIntBCases
import Derived.Lib.SplitLaws
import Derived.Lib.Join
namespace Go.Proofs.YtglbiddddflmeaaDoor
open Go.Lib
theorem parseUintM_append (M : Nat) : ∀ (l r : List UInt8) (acc : Nat), parseUintM M acc (l ++ r) = match parseUintM M acc l with | .ok a => parseUintM M a r | .syntax => .syntax | .range => .range
  | [], r, acc => rfl
  | c :: l, r, acc => by
    simp only [List.cons_append, parseUintM]
    split
    · split
      · rfl
      · split
        · rfl
        · exact parseUintM_append M l r _
    · rfl
theorem digit_toNat {d : Nat} (h : d < 10) : (UInt8.ofNat (48 + d)).toNat = 48 + d := by
  rw [UInt8.toNat_ofNat']
  exact Nat.mod_eq_of_lt (by omega)
theorem parse_digits (M : Nat) : ∀ (k u : Nat), u < k → u ≤ M → u < 1844674407370955162 → parseUintM M 0 (decDigits u) = .ok u := by
  intro k
  induction k with
  | zero => intro u h; omega
  | succ k ih =>
    intro u hk hM hu
    by_cases h : u < 10
    · rw [decDigits_one h]
      simp only [parseUintM, digit_toNat h]
      rw [if_pos (by omega), if_neg (by omega), if_neg (by omega)]
      congr 1
      omega
    · rw [decDigits, dif_neg h, parseUintM_append, ih (u / 10) (by omega) (by omega) (by omega)]
      simp only [parseUintM, digit_toNat (Nat.mod_lt u (by omega : 10 > 0))]
      rw [if_pos (by omega), if_neg (by omega), if_neg (by omega)]
      congr 1
      omega
theorem decDigits_ne (u : Nat) : decDigits u ≠ [] := by
  rw [decDigits]; split <;> simp
theorem decDigits_digit : ∀ (k u : Nat), u < k → ∀ c ∈ decDigits u, 48 ≤ c.toNat ∧ c.toNat ≤ 57 := by
  intro k
  induction k with
  | zero => intro u h; omega
  | succ k ih =>
    intro u hk c hc
    rw [decDigits] at hc
    split at hc
    · rename_i h
      simp only [List.mem_singleton] at hc
      subst hc
      rw [digit_toNat h]; omega
    · rename_i h
      rcases List.mem_append.1 hc with hc | hc
      · exact ih (u / 10) (by omega) c hc
      · simp only [List.mem_singleton] at hc
        subst hc
        rw [digit_toNat (Nat.mod_lt u (by omega))]
        have := Nat.mod_lt u (show 10 > 0 by omega)
        omega
/-- a numeral is read as its number -/
theorem parse_itoa (n : Int) (h0 : -1000000000 ≤ n) (h1 : n ≤ 1000000000) : parseIntB 64 (itoa n) = .ok n := by
  by_cases h : n < 0
  · have e : itoa n = 45 :: decDigits n.natAbs := by unfold itoa; rw [if_pos h]
    rw [e, parseIntB_minus]
    unfold parseUintB
    rw [if_neg (decDigits_ne _), parse_digits _ (n.natAbs + 1) n.natAbs (by omega) (by omega) (by omega)]
    simp only [signedC]
    rw [if_neg (by omega)]
    congr 1
    omega
  · have e : itoa n = decDigits n.toNat := by unfold itoa; rw [if_neg h]
    rw [e]
    cases hd : decDigits n.toNat with
    | nil => exact absurd hd (decDigits_ne _)
    | cons c r =>
      have hc := decDigits_digit (n.toNat + 1) n.toNat (by omega) c (by rw [hd]; simp)
      rw [parseIntB_plain 64 c r (by omega) (by omega), ← hd]
      unfold parseUintB
      rw [if_neg (decDigits_ne _), parse_digits _ (n.toNat + 1) n.toNat (by omega) (by omega) (by omega)]
      simp only [signlessC]
      rw [if_neg (by omega)]
      congr 1
      omega
end Go.Proofs.YtglbiddddflmeaaDoor
