
/-
  The helpers of the laws on terms: toTerms, eqTierS, eqTerms.
-/
import Derived.Test.YtbkmnoedhilopaaTermsD
namespace Go.Proofs.Ytbkmnoedhilopaa
open Go.RowKit

/-- a new copy of terms -/
def NewTerms (band percent price : Int) (ts : List Tier) (w : World) (e : Ending) (w' : World) : Prop :=
  ∃ g, e = .returned (.agg #[.int .i64 band, .int .i64 percent, .int .i64 price, .slice (some ⟨g, 0, none⟩) ts.length ts.length]) ∧ w.heap.size ≤ g ∧ RowOf w' g 57 Tier.cells ts ∧ Ext w w'

theorem c_toTerms (band percent price : Int) (A : Option Addr) (n c : Nat) (ts : List Tier) (w : World) (hs : SliceOf w 2 Tier.cells A n c ts) (hn : n ≤ 1048576) :
    Calls Try.prog 15 #[.agg #[.int .i64 band, .int .i64 percent, .int .i64 price, .slice A n c]] w (NewTerms band percent price ts w) := by
  go_enter Try.func15, Try.ntmps15
  go_wp2_with fail
  refine (c_toTierS A n c ts _ (hs.ext (((Ext.alloc _ _).and_alloc _).and_alloc _)) hn).mono ?_
  rintro e w1 ⟨g, rfl, hg, hrow, hx1⟩
  have hx : Ext w w1 := (((Ext.alloc _ _).and_alloc _).and_alloc _).trans hx1
  have hcl := hx1.cell
  have hfr := hx1.frozen
  have hz := hx1.size
  simp at hz hg
  go_wp2
  refine bodyPost_ret (v := .agg #[.int .i64 band, .int .i64 percent, .int .i64 price, .slice (some ⟨g, 0, none⟩) ts.length ts.length]) (by simp [results, Try.results15, go_sem, hcl]) rfl ⟨g, rfl, by omega, ?_, ?_⟩
  · repeat (refine RowOf.far ?_ (by first | (simp; done) | (simp; omega) | omega) _)
    exact hrow
  · repeat (refine Ext.setCell ?_ (by first | (simp; done) | (simp; omega) | omega) _)
    exact hx

set_option maxHeartbeats 1000000 in
theorem c_eqTierS (A A' : Option Addr) (n c n' c' : Nat) (ts : List Tier) (w : World) (hs : SliceOf w 2 Tier.cells A n c ts) (hs' : SliceOf w 2 Tier.cells A' n' c' ts) :
    Calls Try.prog 41 #[.slice A n c, .slice A' n' c'] w (Ret (.bool true) w) := by
  have hl := hs.len
  obtain rfl : n = n' := by rw [hs.len, hs'.len]
  have hm := hs.max
  have hcp := hs.cap
  clear hl
  go_enter Try.func41, Try.ntmps41
  go_wp2_with fail
  go_loopw [5] (fun i wr => ∃ (k : Nat), k ≤ n ∧ i = .int .i64 k ∧ Ext w wr) (fun i _ => n - (intOf i).toNat)
  case atStart => exact ⟨0, Nat.zero_le _, rfl, Ext.refl _⟩
  case round =>
    obtain ⟨k, hk, rfl, hx⟩ := hrel
    by_cases hlt : k < n
    · obtain ⟨b, off, x, rfl, hb, hxk, hc⟩ := (hs.ext hx).get hlt
      obtain ⟨b', off', x', rfl, hb', hxk', hc'⟩ := (hs'.ext hx).get hlt
      obtain rfl : x = x' := by rw [hxk] at hxk'; injection hxk'
      have hc0 := hc 0 _ rfl
      have hc1 := hc 1 _ rfl
      have hd0 := hc' 0 _ rfl
      have hd1 := hc' 1 _ rfl
      clear hc hc' hxk hxk'
      simp only [Nat.add_zero] at hc0 hd0
      go_wp2_with fail
      refine wp_region_later (by kernel_rfl) (by kernel_rfl) ?_
      repeat (go_big_quiet_step ((go_at_call 61; exact quiet_later (c_eqTier _ _ _ _ _))))
      refine wpQuiet_nil ?_
      intro w1 hx1
      simp only [decide_true, Bool.and_self]
      go_wp2
      go_roundw
      case rel => exact ⟨k + 1, by omega, by go_num, hx.trans hx1⟩
      case measure => simp [intOf]; omega
    · go_wp2
      go_ret
      exact Ret.bool rfl hx

theorem c_eqTerms (band percent price : Int) (A A' : Option Addr) (n c n' c' : Nat) (ts : List Tier) (w : World) (hs : SliceOf w 2 Tier.cells A n c ts) (hs' : SliceOf w 2 Tier.cells A' n' c' ts) :
    Calls Try.prog 17 #[.agg #[.int .i64 band, .int .i64 percent, .int .i64 price, .slice A n c], .agg #[.int .i64 band, .int .i64 percent, .int .i64 price, .slice A' n' c']] w (Ret (.bool true) w) := by
  go_enter Try.func17, Try.ntmps17
  go_wp2_with (go_at_call 41; refine (c_eqTierS _ _ _ _ _ _ ts _ (hs.ext ((Ext.alloc _ _).and_alloc _)) (hs'.ext ((Ext.alloc _ _).and_alloc _))).mono ?_; rintro e w1 ⟨rfl, hx1⟩)
  go_ret
  exact Ret.bool rfl (hx1.box.box)

end Go.Proofs.Ytbkmnoedhilopaa
