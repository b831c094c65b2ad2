

/-
  Reading a number, of the reference.
-/
import Derived.Test.YtglbiddddflmeaaDoorJouF
import Derived.Test.YtglbiddddflmeaaDoorJouG
namespace Go.Proofs.YtglbiddddflmeaaDoor
open Go.RowKit
open Go.Lib hiding intOf
def digVal (l : List UInt8) : Nat := l.foldl (fun n b => 10 * n + (b.toNat - 48)) 0
theorem digVal_snoc (l : List UInt8) (b : UInt8) : digVal (l ++ [b]) = 10 * digVal l + (b.toNat - 48) := by simp [digVal]
theorem digVal_dec : ∀ (k m : Nat), m < k → digVal (decDigits m) = m := by
  intro k
  induction k with
  | zero => intro m h; omega
  | succ k ih =>
    intro m hm
    rw [decDigits]
    split
    · rename_i h
      simp only [digVal, List.foldl_cons, List.foldl_nil, digit_toNat h]
      omega
    · rename_i h
      rw [digVal_snoc, ih (m / 10) (by omega), digit_toNat (Nat.mod_lt m (by omega))]
      omega
def ValPost (l : List UInt8) (w : World) (e : Ending) (w' : World) : Prop :=
  ∃ (n : Int) (ok : Bool), e = .returned (.tuple #[.int .i64 n, .bool ok]) ∧ (∀ m : Nat, m ≤ 30000 → l = decDigits m → ok = true ∧ n = m) ∧ (0 ≤ n ∧ n ≤ 1000000000000000000) ∧ Ext w w'
theorem ten18 (k : Nat) (h : k ≤ 18) : (10 : Nat) ^ k ≤ 1000000000000000000 := by
  have := Nat.pow_le_pow_right (show 0 < 10 by omega) h
  have e : (10 : Nat) ^ 18 = 1000000000000000000 := by decide
  omega
set_option maxHeartbeats 2000000 in
set_option maxRecDepth 8000 in
theorem c_l01Value (l : List UInt8) (hl : l.length ≤ 1048576) (w : World) :
    Calls Tryd.prog 76 #[.string (mkB l)] w (ValPost l w) := by
  have hsz : (mkB l).size = l.length := rfl
  by_cases h0 : l.length < 1
  · have HN := hide (show ∀ m, m ≤ 30000 → l ≠ decDigits m from fun m _ he => by
      have : l = [] := List.length_eq_zero_iff.1 (by omega)
      exact decDigits_ne m (by rw [← he]; exact this))
    go_enter Tryd.func76, Tryd.ntmps76
    go_wp2_with fail
    exact bodyPost_ret (v := .tuple #[.int .i64 0, .bool false]) (by simp [results, Tryd.results76, go_sem]) rfl ⟨0, false, rfl, fun m hm he => absurd he (HN.out m hm), by omega, Ext.refl _⟩
  by_cases h18 : 18 < l.length
  · have HN := hide (show ∀ m, m ≤ 30000 → l ≠ decDigits m from fun m hm he => by
      have := decDigits_small 5 m (by omega) (by omega)
      rw [← he] at this
      omega)
    go_enter Tryd.func76, Tryd.ntmps76
    go_wp2_with fail
    exact bodyPost_ret (v := .tuple #[.int .i64 0, .bool false]) (by simp [results, Tryd.results76, go_sem]) rfl ⟨0, false, rfl, fun m hm he => absurd he (HN.out m hm), by omega, Ext.refl _⟩
  go_enter Tryd.func76, Tryd.ntmps76
  go_wp2_with fail
  go_loop [4, 5] (fun v i => ∃ (k z : Nat), k ≤ l.length ∧ i = .int .i64 k ∧ v = .int .i64 z ∧ z < 10 ^ k ∧ Hid (z = digVal (l.take k))) (fun _ i => l.length - (intOf i).toNat)
  case atStart => exact ⟨0, 0, Nat.zero_le _, rfl, rfl, by decide, hide rfl⟩
  case round =>
    obtain ⟨k, z, hk, rfl, rfl, hz, HZ⟩ := hrel
    have hp := ten18 k (by omega)
    have hz1 : z < 1000000000000000000 := by omega
    have HZK := hide hz
    clear hz hp
    by_cases hlt : k < l.length
    · have hk17 := ten18 k (by omega)
      have hz2 : z < 100000000000000000 := by
        have h1 := HZK.out
        have h2 : (10 : Nat) ^ k ≤ 10 ^ 17 := Nat.pow_le_pow_right (by omega) (by omega)
        have e : (10 : Nat) ^ 17 = 100000000000000000 := by decide
        omega
      clear hk17
      obtain ⟨b, hb⟩ : ∃ b, l[k]? = some b := ⟨_, List.getElem?_eq_getElem hlt⟩
      have hat := str_at l k b hb w
      have HB := hide hb
      clear hb
      have hbb := b.toNat_lt
      by_cases hd : 48 ≤ b.toNat ∧ b.toNat ≤ 57
      · have HT := hide (show l.take (k + 1) = l.take k ++ [b] by rw [List.take_add_one, HB.out]; rfl)
        have hw : IntKind.u8.wrap ((b.toNat : Int) - 48) = (b.toNat : Int) - 48 := by simp [IntKind.wrap, IntKind.signed, IntKind.bits]; omega
        obtain ⟨bn, hbn⟩ : ∃ bn : Nat, b.toNat = bn := ⟨_, rfl⟩
        rw [hbn] at hat hd hbb hw
        have HBN := hide hbn
        clear hbn
        go_wp2_with fail
        go_round
        case rel => exact ⟨k + 1, 10 * z + (bn - 48), by omega, by go_num, by go_num, by rw [Nat.pow_succ]; have := HZK.out; omega, hide (by rw [HT.out, digVal_snoc, ← HZ.out, HBN.out])⟩
        case measure => simp [intOf]; omega
      · have HN := hide (show ∀ m, m ≤ 30000 → l ≠ decDigits m from fun m _ he => by
          have := decDigits_digit (m + 1) m (Nat.lt_succ_self _) b (by rw [← he]; exact List.mem_of_getElem? HB.out)
          omega)
        obtain ⟨bn, hbn⟩ : ∃ bn : Nat, b.toNat = bn := ⟨_, rfl⟩
        rw [hbn] at hat hd hbb
        clear hbn
        by_cases h48 : bn < 48
        · go_wp2_with fail
          exact bodyPost_ret (v := .tuple #[.int .i64 0, .bool false]) (by simp [results, Tryd.results76, go_sem]) rfl ⟨0, false, rfl, fun m hm he => absurd he (HN.out m hm), by omega, Ext.refl _⟩
        · have h57 : 57 < bn := by omega
          go_wp2_with fail
          exact bodyPost_ret (v := .tuple #[.int .i64 0, .bool false]) (by simp [results, Tryd.results76, go_sem]) rfl ⟨0, false, rfl, fun m hm he => absurd he (HN.out m hm), by omega, Ext.refl _⟩
    · have hkn : k = l.length := by omega
      have HZ2 := hide (show z = digVal l by rw [HZ.out, hkn, List.take_length])
      clear HZ HZK hkn
      go_wp2_with fail
      refine (c_l01Dec z (by omega) _).mono ?_
      rintro e w1 ⟨rfl, hx⟩
      go_wp2_with fail
      refine bodyPost_ret (v := .tuple #[.int .i64 z, .bool ((mkB (decDigits z)).toList == (mkB l).toList)]) (by simp [results, Tryd.results76, go_sem]) rfl ⟨z, _, rfl, fun m hm he => ?_, by omega, hx⟩
      have hzm : z = m := by rw [HZ2.out, he, digVal_dec (m + 1) m (Nat.lt_succ_self _)]
      exact ⟨by rw [mkB_toList, mkB_toList, hzm, ← he]; simp, by rw [hzm]⟩
end Go.Proofs.YtglbiddddflmeaaDoor
