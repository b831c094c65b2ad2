/-
  Sums of numbers, of the program and of the reference.
-/
import Derived.Test.YtegkeeeohileiaaSa13
namespace Go.Proofs.Ytegkeeeohileiaa
open Go.RowKit

def sumI : List Int → Int
  | [] => 0
  | z :: zs => z + sumI zs
theorem sumI_snoc (zs : List Int) (z : Int) : sumI (zs ++ [z]) = sumI zs + z := by
  induction zs with
  | nil => simp [sumI]
  | cons y ys ih => simp only [List.cons_append, sumI, ih]; omega
theorem takeI_snoc {zs : List Int} {k : Nat} {z : Int} (h : zs[k]? = some z) : zs.take (k + 1) = zs.take k ++ [z] := by
  obtain ⟨hk, rfl⟩ := List.getElem?_eq_some_iff.1 h
  rw [List.take_succ_eq_append_getElem hk]
theorem sumI_bd {M : Int} (zs : List Int) (h : ∀ z ∈ zs, -M ≤ z ∧ z ≤ M) : -(M * (zs.length : Int)) ≤ sumI zs ∧ sumI zs ≤ M * (zs.length : Int) := by
  induction zs with
  | nil => simp [sumI]
  | cons z zs ih =>
    have h1 := h z (by simp)
    have h2 := ih (fun y hy => h y (by simp [hy]))
    have h4 : M * ((z :: zs).length : Int) = M * (zs.length : Int) + M := by rw [List.length_cons, show ((zs.length + 1 : Nat) : Int) = (zs.length : Int) + 1 by omega, Int.mul_add, Int.mul_one]
    rw [h4]
    simp only [sumI]
    omega
theorem allB_mem {zs : List Int} {lo hi : Int} (h : allB zs lo hi = true) : ∀ z ∈ zs, lo ≤ z ∧ z ≤ hi := fun z hz => inB_true.1 (List.all_eq_true.1 h z hz)

theorem c_sumOf (A : Option Addr) (n c : Nat) (zs : List Int) (w : World) (hs : SliceOf w 1 intC A n c zs) (hz : allB zs (-1000000000) 1000000000 = true) (hn : n ≤ 1048576) :
    Calls Try.prog 51 #[.slice A n c] w fun e w' => e = .returned (.int .i64 (sumI zs)) ∧ w = w' := by
  have HZ := hide (allB_mem hz)
  clear hz
  go_enter Try.func51, Try.ntmps51
  go_wp2_with fail
  go_loop [3, 8] (fun q i => ∃ (k : Nat) (S : Int), k ≤ n ∧ q = .int .i64 S ∧ i = .int .i64 k ∧ -(1000000000 * (k : Int)) ≤ S ∧ S ≤ 1000000000 * (k : Int) ∧ Hid (S = sumI (zs.take k))) (fun _ i => n - (intOf i).toNat)
  case atStart => exact ⟨0, 0, Nat.zero_le _, rfl, rfl, by omega, by omega, hide (by simp [sumI])⟩
  case round =>
    obtain ⟨k, S, hk, rfl, rfl, hS0, hS1, HS⟩ := hrel
    by_cases hlt : k < n
    · obtain ⟨b, off, x, rfl, hb, hxk, hc0⟩ := hs.get1 hlt
      obtain ⟨x0, x1⟩ := HZ.out x (List.mem_of_getElem? hxk)
      have HX := hide (show S + x = sumI (zs.take (k + 1)) by rw [takeI_snoc hxk, sumI_snoc, HS.out])
      clear hxk HS
      go_wp2_with fail
      go_round
      case rel => exact ⟨k + 1, _, by omega, rfl, by go_num, by omega, by omega, HX⟩
      case measure => simp [intOf]; omega
    · go_wp2_with fail
      go_ret
      have := HS.out
      rw [List.take_of_length_le (by have := hs.len; omega)] at this
      exact ⟨by rw [← this]; rfl, rfl⟩

theorem c_l01Sum (A : Option Addr) (n c : Nat) (zs : List Int) (w : World) (hs : SliceOf w 1 intC A n c zs) (hz : allB zs (-1000000000) 1000000000 = true) (hn : n ≤ 1048576) :
    Calls Try.prog 39 #[.slice A n c] w fun e w' => e = .returned (.int .i64 (sumI zs)) ∧ w = w' := by
  have HZ := hide (allB_mem hz)
  clear hz
  go_enter Try.func39, Try.ntmps39
  go_wp2_with fail
  go_loop [3, 4] (fun q i => ∃ (k : Nat) (S : Int), k ≤ n ∧ q = .int .i64 S ∧ i = .int .i64 k ∧ -(1000000000 * (k : Int)) ≤ S ∧ S ≤ 1000000000 * (k : Int) ∧ Hid (S = sumI (zs.take k))) (fun _ i => n - (intOf i).toNat)
  case atStart => exact ⟨0, 0, Nat.zero_le _, rfl, rfl, by omega, by omega, hide (by simp [sumI])⟩
  case round =>
    obtain ⟨k, S, hk, rfl, rfl, hS0, hS1, HS⟩ := hrel
    by_cases hlt : k < n
    · obtain ⟨b, off, x, rfl, hb, hxk, hc0⟩ := hs.get1 hlt
      obtain ⟨x0, x1⟩ := HZ.out x (List.mem_of_getElem? hxk)
      have HX := hide (show S + x = sumI (zs.take (k + 1)) by rw [takeI_snoc hxk, sumI_snoc, HS.out])
      clear hxk HS
      go_wp2_with fail
      go_round
      case rel => exact ⟨k + 1, _, by omega, rfl, by go_num, by omega, by omega, HX⟩
      case measure => simp [intOf]; omega
    · go_wp2_with fail
      go_ret
      have := HS.out
      rw [List.take_of_length_le (by have := hs.len; omega)] at this
      exact ⟨by rw [← this]; rfl, rfl⟩

end Go.Proofs.Ytegkeeeohileiaa
