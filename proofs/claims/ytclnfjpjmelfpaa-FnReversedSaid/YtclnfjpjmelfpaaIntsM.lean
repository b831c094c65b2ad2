
/-
  Marking and holding slices of int64; what a call that returns a slice and a code leaves.
-/
import Derived.Test.YtclnfjpjmelfpaaInts
import Derived.Test.YtclnfjpjmelfpaaOwn
namespace Go.Proofs.Ytclnfjpjmelfpaa
open Go.RowKit

/-- a slice of the call's own, and a code -/
def RetS {α : Type} (t : TypeId) (f : α → List Value) (r : List α × Int) (w : World) (e : Ending) (w' : World) : Prop :=
  ∃ A n c g, e = .returned (.tuple #[.slice A n c, .int .i64 r.2]) ∧ n ≤ c ∧ c ≤ 9223372036854775807 ∧ w.heap.size ≤ g ∧ OwnS w' g t f A n r.1 ∧ Ext w w'
theorem RetS.nil_ {α : Type} {t : TypeId} {f : α → List Value} {r : List α × Int} {k : Int} {w w' : World} (h : r = ([], k)) (hx : Ext w w') : RetS t f r w (.returned (.tuple #[.slice none 0 0, .int .i64 k])) w' := by
  subst h
  exact ⟨none, 0, 0, w.heap.size, rfl, Nat.le_refl _, by omega, Nat.le_refl _, OwnS.nil, hx⟩
theorem RetS.row {α : Type} {t : TypeId} {f : α → List Value} {r : List α × Int} {xs : List α} {k : Int} {w w' : World} {g n : Nat} (h : r = (xs, k)) (hn : n = xs.length) (hm : n ≤ 9223372036854775807) (hg : w.heap.size ≤ g) (hr : RowOf w' g t f xs) (hx : Ext w w') :
    RetS t f r w (.returned (.tuple #[.slice (some ⟨g, 0, none⟩) n n, .int .i64 k])) w' := by
  subst h
  subst hn
  exact ⟨_, _, _, g, rfl, Nat.le_refl _, hm, hg, OwnS.of_row hr, hx⟩

theorem c_szInt64S (A : Option Addr) (n c : Nat) (left : Int) (w : World) (hn : n ≤ c) (hc : c ≤ 9223372036854775807) (h0 : 0 ≤ left) (h1 : left ≤ 1048576) :
    Calls Try.prog 71 #[.slice A n c, .int .i64 left] w fun e w' => e = .returned (.int .i64 (if left < n then -1 else left - n)) ∧ w = w' := by
  go_enter Try.func71, Try.ntmps71
  go_wp2
  all_goals
    go_ret
    simp <;> omega

/-- the marks from a number on -/
def markInt (a : Int) (n : Nat) : List Int := (List.range n).map fun (i : Nat) => a + (i : Int)
theorem markInt_at (a : Int) (n i : Nat) (h : i < n) : (markInt a n)[i]? = some (a + (i : Int)) := by
  unfold markInt; rw [List.getElem?_map, List.getElem?_range h]; rfl
/-- the row is marked; nothing else has turned -/
def MarkedInt (g : Nat) (A : Option Addr) (n : Nat) (a : Int) (w : World) (e : Ending) (w' : World) : Prop :=
  e = .returned (.int .i64 (a + 1 * n)) ∧ OwnS w' g 2 intC A n (markInt a n) ∧ Only g w w'
set_option maxHeartbeats 1000000 in
theorem c_markInt64S (g : Nat) (A : Option Addr) (n c : Nat) (ts : List Int) (a : Int) (w : World) (hown0 : OwnS w g 2 intC A n ts) (hn : n ≤ 1000000000) (hcap : n ≤ c) (hmax : c ≤ 9223372036854775807) (ha0 : 0 ≤ a) (ha1 : a ≤ 1000000000000) :
    Calls Try.prog 34 #[.slice A n c, .int .i64 a] w (MarkedInt g A n a w) := by
  go_enter Try.func34, Try.ntmps34
  go_wp2_with fail
  go_loopw [1, 5] (fun q i wr => ∃ (k : Nat) (K : Int) (L : List Int), k ≤ n ∧ q = .int .i64 K ∧ i = .int .i64 k ∧ a + (k : Int) ≤ K ∧ K ≤ a + (k : Int) ∧ OwnS wr g 2 intC A n L ∧ Hid (∀ j, j < k → L[j]? = (markInt a n)[j]?) ∧ Only g w wr) (fun _ i _ => n - (intOf i).toNat)
  case atStart => exact ⟨0, a, ts, Nat.zero_le _, rfl, rfl, by omega, by omega, hown0, hide (fun j hj => absurd hj (by omega)), Only.refl _ _⟩
  case round =>
    obtain ⟨k, K, L, hk, rfl, rfl, hK0, hK1, hown, HK, hx⟩ := hrel
    by_cases hlt : k < n
    · have hn0 : 0 < n := by omega
      obtain ⟨rfl, _⟩ := hown.2 hn0
      obtain ⟨v0, hv0⟩ := hown.there intC_len (i := k) hlt (j := 0) (by omega)
      have hf0 := hown.frozen hn0 k
      simp only [Nat.mul_one, Nat.add_zero] at hv0
      have HL := hide hown.1
      go_wp2_with fail
      go_roundw
      case rel =>
        have hput := hown.put intC_len hlt K
        rw [Nat.mul_one] at hput
        refine ⟨k + 1, _, L.set k K, by omega, rfl, by go_num, by omega, by omega, hput, hide ?_, hx.put k (intC K)⟩
        intro j hj
        rw [List.getElem?_set]
        by_cases e : k = j
        · subst e
          rw [if_pos rfl, if_pos (by rw [← HL.out]; exact hlt), markInt_at _ _ _ hlt]
          congr 1; omega
        · rw [if_neg e]; exact HK.out j (by omega)
      case measure => simp [intOf]; omega
    · go_wp2_with fail
      go_ret
      have hLts : L = markInt a n := by
        apply List.ext_getElem?
        intro j
        by_cases hj : j < n
        · exact HK.out j (by omega)
        · rw [List.getElem?_eq_none (by have := hown.1; omega), List.getElem?_eq_none (by simp [markInt]; omega)]
      subst hLts
      refine ⟨?_, hown, hx⟩
      obtain rfl : k = n := by omega
      have : K = a + 1 * (k : Int) := by omega
      rw [← this]; rfl

set_option maxHeartbeats 1000000 in
theorem c_heldInt64S (A : Option Addr) (n c : Nat) (a : Int) (w : World) (hs : SliceOf w 1 intC A n c (markInt a n)) (hn : n ≤ 1000000000) (ha0 : 0 ≤ a) (ha1 : a ≤ 1000000000000) :
    Calls Try.prog 35 #[.slice A n c, .int .i64 a] w fun e w' => e = .returned (.int .i64 (a + 1 * n)) ∧ w = w' := by
  have hcap := hs.cap
  have hmax := hs.max
  go_enter Try.func35, Try.ntmps35
  go_wp2_with fail
  go_loop [1, 5] (fun q i => ∃ (k : Nat) (K : Int), k ≤ n ∧ q = .int .i64 K ∧ i = .int .i64 k ∧ a + (k : Int) ≤ K ∧ K ≤ a + (k : Int)) (fun _ i => n - (intOf i).toNat)
  case atStart => exact ⟨0, a, Nat.zero_le _, rfl, rfl, by omega, by omega⟩
  case round =>
    obtain ⟨k, K, hk, rfl, rfl, hK0, hK1⟩ := hrel
    by_cases hlt : k < n
    · obtain ⟨b, off, x, rfl, hb, hxk, hc0⟩ := hs.get1 hlt
      rw [markInt_at _ _ _ hlt] at hxk
      obtain rfl : K = x := by injection hxk with hxk; omega
      clear hxk
      go_wp2_with fail
      go_round
      case rel => exact ⟨k + 1, _, by omega, rfl, by go_num, by omega, by omega⟩
      case measure => simp [intOf]; omega
    · go_wp2_with fail
      go_ret
      obtain rfl : k = n := by omega
      have : K = a + (k : Int) := by omega
      exact ⟨by rw [← this]; rfl, rfl⟩

end Go.Proofs.Ytclnfjpjmelfpaa
