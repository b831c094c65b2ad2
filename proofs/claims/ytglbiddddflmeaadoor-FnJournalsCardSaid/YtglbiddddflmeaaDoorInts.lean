

/-
  Contracts of the functions on slices of int64.
-/
import Derived.Test.YtglbiddddflmeaaDoorNum
import Derived.Test.YtglbiddddflmeaaDoorRowsB
import Derived.Test.YtglbiddddflmeaaDoorSched
namespace Go.Proofs.YtglbiddddflmeaaDoor
open Go.RowKit

def intC (z : Int) : List Value := [.int .i64 z]
theorem intC_len (z : Int) : (intC z).length = 1 := rfl
theorem int_info : (Tryd.prog.info? 2).map (fun i => (i.zero, i.size, i.bytes)) = some (some (.int .i64 0), 1, 8) := by kernel_rfl
section
variable {w : World} {A : Option Addr} {n c : Nat} {xs : List Int}
theorem SliceOf.get1 (h : SliceOf w 1 intC A n c xs) {k : Nat} (hk : k < n) :
    ∃ b off x, A = some ⟨b, off, none⟩ ∧ b < w.heap.size ∧ xs[k]? = some x ∧ w.cell? ⟨b, off + k, none⟩ = some (.int .i64 x) := by
  obtain ⟨b, off, x, hA, hb, hx, hc⟩ := h.get hk
  exact ⟨b, off, x, hA, hb, hx, by simpa using hc 0 _ rfl⟩
end
theorem RowOf.set1 {w : World} {g : Nat} {t : TypeId} {L : List Int} (h : RowOf w g t intC L) {d : Nat} (hd : d < L.length) (v : Int) : RowOf (w.setCell ⟨g, d, none⟩ (.int .i64 v)) g t intC (L.set d v) := by
  have := h.put intC_len (i := d) hd v
  rw [Nat.mul_one] at this
  exact this
/-- a new slice of the call's own -/
def NewRow {α : Type} (t : TypeId) (f : α → List Value) (xs : List α) (w : World) (e : Ending) (w' : World) : Prop :=
  ∃ g, e = .returned (.slice (some ⟨g, 0, none⟩) xs.length xs.length) ∧ w.heap.size ≤ g ∧ RowOf w' g t f xs ∧ Ext w w'

def allB (zs : List Int) (lo hi : Int) : Bool := zs.all fun z => inB z lo hi
theorem all_take_false {zs : List Int} {k : Nat} {z lo hi : Int} (hz : zs[k]? = some z) (h : inB z lo hi = false) : allB zs lo hi = false := by
  rw [allB, List.all_eq_false]; exact ⟨z, List.mem_of_getElem? hz, by simp [h]⟩
theorem all_take_true {zs : List Int} {lo hi : Int} (h : ∀ (j : Nat) (z : Int), zs[j]? = some z → inB z lo hi = true) : allB zs lo hi = true := by
  rw [allB, List.all_eq_true]; intro z hz
  obtain ⟨j, hj, rfl⟩ := List.mem_iff_getElem.1 hz
  exact h j _ (List.getElem?_eq_getElem hj)
theorem c_allWithin (A : Option Addr) (n c : Nat) (zs : List Int) (lo hi : Int) (w : World) (hs : SliceOf w 1 intC A n c zs) :
    Calls Tryd.prog 54 #[.slice A n c, .int .i64 lo, .int .i64 hi] w fun e w' => e = .returned (.bool (allB zs lo hi)) ∧ w = w' := by
  have hm := hs.max
  have hcap := hs.cap
  go_enter Tryd.func54, Tryd.ntmps54
  go_wp2_with fail
  go_loop [6, 11] (fun r i => ∃ k : Nat, k ≤ n ∧ r = .bool false ∧ i = .int .i64 k ∧ Hid (∀ (j : Nat) (z : Int), j < k → zs[j]? = some z → inB z lo hi = true)) (fun _ i => n - (intOf i).toNat)
  case atStart => exact ⟨0, Nat.zero_le _, rfl, rfl, hide (fun j z hj => absurd hj (by omega))⟩
  case round =>
    obtain ⟨k, hk, rfl, rfl, HK⟩ := hrel
    by_cases hlt : k < n
    · obtain ⟨b, off, x, rfl, hb, hxk, hc0⟩ := hs.get1 hlt
      have HX := hide hxk
      clear hxk
      cases hi0 : inB x lo hi
      · go_wp2_with (go_at_call 53; refine (c_within _ _ _ _).mono ?_; rintro e w' ⟨rfl, rfl⟩)
        go_ret
        exact ⟨by rw [all_take_false HX.out hi0]; rfl, rfl⟩
      · go_wp2_with (go_at_call 53; refine (c_within _ _ _ _).mono ?_; rintro e w' ⟨rfl, rfl⟩)
        go_round
        case rel =>
          refine ⟨k + 1, by omega, rfl, by go_num, hide fun j z hj hz => ?_⟩
          by_cases e : j = k
          · subst e; rw [HX.out] at hz; injection hz with hz; subst hz; exact hi0
          · exact HK.out j z (by omega) hz
        case measure => simp [intOf]; omega
    · go_wp2_with fail
      go_ret
      refine ⟨?_, rfl⟩
      rw [all_take_true (fun j z hz => HK.out j z (by have := (List.getElem?_eq_some_iff.1 hz).1; have := hs.len; omega) hz)]; rfl



end Go.Proofs.YtglbiddddflmeaaDoor
