
/-
  Contracts of the functions on slices of int64.
-/
import Derived.Test.YtclnfjpjmelfpaaNum
import Derived.Test.YtclnfjpjmelfpaaRowsB
import Derived.Test.YtclnfjpjmelfpaaSched
namespace Go.Proofs.Ytclnfjpjmelfpaa
open Go.RowKit

def intC (z : Int) : List Value := [.int .i64 z]
theorem intC_len (z : Int) : (intC z).length = 1 := rfl
theorem int_info : (Try.prog.info? 2).map (fun i => (i.zero, i.size, i.bytes)) = some (some (.int .i64 0), 1, 8) := by kernel_rfl
section
variable {w : World} {A : Option Addr} {n c : Nat} {xs : List Int}
theorem SliceOf.get1 (h : SliceOf w 1 intC A n c xs) {k : Nat} (hk : k < n) :
    ∃ b off x, A = some ⟨b, off, none⟩ ∧ b < w.heap.size ∧ xs[k]? = some x ∧ w.cell? ⟨b, off + k, none⟩ = some (.int .i64 x) := by
  obtain ⟨b, off, x, hA, hb, hx, hc⟩ := h.get hk
  exact ⟨b, off, x, hA, hb, hx, by simpa using hc 0 _ rfl⟩
end
theorem RowOf.set1 {w : World} {g : Nat} {t : TypeId} {L : List Int} (h : RowOf w g t intC L) {d : Nat} (hd : d < L.length) (v : Int) : RowOf (w.setCell ⟨g, d, none⟩ (.int .i64 v)) g t intC (L.set d v) := by
  have := h.put intC_len (i := d) hd v
  rw [Nat.mul_one] at this
  exact this
/-- a new slice of the call's own -/
def NewRow {α : Type} (t : TypeId) (f : α → List Value) (xs : List α) (w : World) (e : Ending) (w' : World) : Prop :=
  ∃ g, e = .returned (.slice (some ⟨g, 0, none⟩) xs.length xs.length) ∧ w.heap.size ≤ g ∧ RowOf w' g t f xs ∧ Ext w w'

def allB (zs : List Int) (lo hi : Int) : Bool := zs.all fun z => inB z lo hi
theorem all_take_false {zs : List Int} {k : Nat} {z lo hi : Int} (hz : zs[k]? = some z) (h : inB z lo hi = false) : allB zs lo hi = false := by
  rw [allB, List.all_eq_false]; exact ⟨z, List.mem_of_getElem? hz, by simp [h]⟩
theorem all_take_true {zs : List Int} {lo hi : Int} (h : ∀ (j : Nat) (z : Int), zs[j]? = some z → inB z lo hi = true) : allB zs lo hi = true := by
  rw [allB, List.all_eq_true]; intro z hz
  obtain ⟨j, hj, rfl⟩ := List.mem_iff_getElem.1 hz
  exact h j _ (List.getElem?_eq_getElem hj)
theorem c_allWithin (A : Option Addr) (n c : Nat) (zs : List Int) (lo hi : Int) (w : World) (hs : SliceOf w 1 intC A n c zs) :
    Calls Try.prog 62 #[.slice A n c, .int .i64 lo, .int .i64 hi] w fun e w' => e = .returned (.bool (allB zs lo hi)) ∧ w = w' := by
  have hm := hs.max
  have hcap := hs.cap
  go_enter Try.func62, Try.ntmps62
  go_wp2_with fail
  go_loop [6, 11] (fun r i => ∃ k : Nat, k ≤ n ∧ r = .bool false ∧ i = .int .i64 k ∧ Hid (∀ (j : Nat) (z : Int), j < k → zs[j]? = some z → inB z lo hi = true)) (fun _ i => n - (intOf i).toNat)
  case atStart => exact ⟨0, Nat.zero_le _, rfl, rfl, hide (fun j z hj => absurd hj (by omega))⟩
  case round =>
    obtain ⟨k, hk, rfl, rfl, HK⟩ := hrel
    by_cases hlt : k < n
    · obtain ⟨b, off, x, rfl, hb, hxk, hc0⟩ := hs.get1 hlt
      have HX := hide hxk
      clear hxk
      cases hi0 : inB x lo hi
      · go_wp2_with (go_at_call 56; refine (c_within _ _ _ _).mono ?_; rintro e w' ⟨rfl, rfl⟩)
        go_ret
        exact ⟨by rw [all_take_false HX.out hi0]; rfl, rfl⟩
      · go_wp2_with (go_at_call 56; refine (c_within _ _ _ _).mono ?_; rintro e w' ⟨rfl, rfl⟩)
        go_round
        case rel =>
          refine ⟨k + 1, by omega, rfl, by go_num, hide fun j z hj hz => ?_⟩
          by_cases e : j = k
          · subst e; rw [HX.out] at hz; injection hz with hz; subst hz; exact hi0
          · exact HK.out j z (by omega) hz
        case measure => simp [intOf]; omega
    · go_wp2_with fail
      go_ret
      refine ⟨?_, rfl⟩
      rw [all_take_true (fun j z hz => HK.out j z (by have := (List.getElem?_eq_some_iff.1 hz).1; have := hs.len; omega) hz)]; rfl

set_option maxHeartbeats 1000000 in
theorem c_toInt64S (A : Option Addr) (n c : Nat) (ts : List Int) (w : World) (hs : SliceOf w 1 intC A n c ts) (hn : n ≤ 1048576) :
    Calls Try.prog 75 #[.slice A n c] w (NewRow 2 intC ts w) := by
  have hmk := fun W => run_make_flat (P := Try.prog) 39 2 _ _ 1 8 Try.underlying39 int_info (f := intC) 0 rfl rfl rfl (by omega) n (by omega) (by omega) W
  have hR0 := Row.new w 2 ((List.replicate n (0 : Int)).flatMap intC)
  go_enter Try.func75, Try.ntmps75
  go_wp2_with fail
  go_loopw [4] (fun i wr => ∃ (k : Nat) (L : List Int), k ≤ n ∧ i = .int .i64 k ∧ L.length = n ∧ RowOf wr w.heap.size 2 intC L ∧ Hid (∀ j, j < k → L[j]? = ts[j]?) ∧ Ext w wr) (fun i _ => n - (intOf i).toNat)
  case atStart => exact ⟨0, _, Nat.zero_le _, rfl, List.length_replicate, hR0, hide (fun j hj => absurd hj (by omega)), Ext.alloc _ _⟩
  case round =>
    obtain ⟨k, L, hk, rfl, hL, hrow, HK, hx⟩ := hrel
    clear hR0 hmk
    have hgs := hrow.lt
    by_cases hlt : k < n
    · obtain ⟨b, off, x, rfl, hb, hxk, hc0⟩ := (hs.ext hx).get1 hlt
      have Hx := hide hxk
      have HL := hide hL
      clear hxk hL
      obtain ⟨v0, hv0⟩ := hrow.there intC_len (i := k) (by rw [HL.out]; exact hlt) (j := 0) (by omega)
      have hf0 := hrow.frozen k
      simp only [Nat.mul_one, Nat.add_zero] at hv0
      go_wp2_with fail
      go_roundw
      case rel =>
        have hput := hrow.put intC_len (i := k) (by rw [HL.out]; exact hlt) x
        rw [Nat.mul_one] at hput
        refine ⟨k + 1, L.set k x, by omega, by go_num, by simpa using HL.out, hput, hide ?_, hx.put (Nat.le_refl _) k (intC x)⟩
        intro j hj
        rw [List.getElem?_set]
        by_cases e : k = j
        · subst e; rw [if_pos rfl, if_pos (by rw [HL.out]; exact hlt), Hx.out]
        · rw [if_neg e]; exact HK.out j (by omega)
      case measure => simp [intOf]; omega
    · go_wp2
      go_ret
      have hLts : L = ts := by
        apply List.ext_getElem?
        intro j
        by_cases hj : j < n
        · exact HK.out j (by omega)
        · rw [List.getElem?_eq_none (by omega), List.getElem?_eq_none (by have := hs.len; omega)]
      subst hLts
      refine ⟨w.heap.size, ?_, Nat.le_refl _, hrow, hx⟩
      rw [hL]; rfl

set_option maxHeartbeats 1000000 in
theorem c_eqInt64S (A A' : Option Addr) (n c n' c' : Nat) (ts : List Int) (w : World) (hs : SliceOf w 1 intC A n c ts) (hs' : SliceOf w 1 intC A' n' c' ts) :
    Calls Try.prog 33 #[.slice A n c, .slice A' n' c'] w (Ret (.bool true) w) := by
  have hl := hs.len
  obtain rfl : n = n' := by rw [hs.len, hs'.len]
  have hm := hs.max
  have hcp := hs.cap
  clear hl
  go_enter Try.func33, Try.ntmps33
  go_wp2_with fail
  go_loopw [5] (fun i wr => ∃ (k : Nat), k ≤ n ∧ i = .int .i64 k ∧ Ext w wr) (fun i _ => n - (intOf i).toNat)
  case atStart => exact ⟨0, Nat.zero_le _, rfl, Ext.refl _⟩
  case round =>
    obtain ⟨k, hk, rfl, hx⟩ := hrel
    by_cases hlt : k < n
    · obtain ⟨b, off, x, rfl, hb, hxk, hc0⟩ := (hs.ext hx).get1 hlt
      obtain ⟨b', off', x', rfl, hb', hxk', hd0⟩ := (hs'.ext hx).get1 hlt
      obtain rfl : x = x' := by rw [hxk] at hxk'; injection hxk'
      clear hxk hxk'
      go_wp2_with fail
      refine wp_region_later (by kernel_rfl) (by kernel_rfl) ?_
      repeat (go_big_quiet_step (fail))
      refine wpQuiet_nil ?_
      intro w1 hx1
      go_wp2_with fail
      go_roundw
      case rel => exact ⟨k + 1, by omega, by go_num, hx.trans hx1⟩
      case measure => simp [intOf]; omega
    · go_wp2_with fail
      go_ret
      exact Ret.bool rfl hx

end Go.Proofs.Ytclnfjpjmelfpaa
