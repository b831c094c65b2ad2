

/-
  The law on JournalOf.
-/
import Derived.Test.YtglbiddddflmeaaDoorJovF
namespace Go.Proofs.YtglbiddddflmeaaDoor
open Go.RowKit
open Go.Lib hiding intOf
set_option maxHeartbeats 1000000 in
set_option maxRecDepth 8000 in
theorem law_JournalOf (A : Option Addr) (n c : Nat) (es : List Event) (w : World) (hs : SliceOf w 5 Event.cells A n c es) (hg : GlobJ w) :
    Calls Tryd.prog 3 #[.slice A n c] w (Ret (.bool true) w) := by
  have hcap := hs.cap
  have hmax := hs.max
  have HN := hide hs.len
  go_enter Tryd.func3, Tryd.ntmps3
  go_wp2_with fail
  refine (c_szEventS A n c 1048576 _ hcap hmax (by omega) (by omega)).mono ?_
  rintro e w1 ⟨rfl, rfl⟩
  by_cases hn : (1048576 : Int) < n
  · rw [if_pos hn]
    go_wp2_with fail
    go_ret
    exact Ret.bool rfl (Ext.refl _)
  · rw [if_neg hn]
    have hn' : n ≤ 1048576 := by omega
    go_wp2_with fail
    refine (c_toEventS A n c es _ hs hn').mono ?_
    rintro e w2 ⟨g2, rfl, hg2, hr2, hx2⟩
    go_wp2_with fail
    refine (c_specJournalOf _ _ _ es _ (hr2.slice event_len rfl (by have := HN.out; omega))).mono ?_
    rintro e w3 ⟨rfl, hx3⟩
    have hX3 := hx2.trans hx3
    go_wp2_with fail
    refine (c_toEventS A n c es _ (hs.ext hX3) hn').mono ?_
    rintro e w4 ⟨g4, rfl, hg4, hr4, hx4⟩
    have hX4 := hX3.trans hx4
    go_wp2_with fail
    refine (c_JournalOf _ _ _ es _ (hr4.slice event_len rfl (by have := HN.out; omega)) (hg.ext hX4)).mono ?_
    rintro e w5 ⟨rfl, hx5⟩
    have hX5 := hX4.trans hx5
    go_wp2_with fail
    refine (c_toEventS A n c es _ (hs.ext hX5) hn').mono ?_
    rintro e w6 ⟨g6, rfl, hg6, hr6, hx6⟩
    go_wp2_with fail
    refine (c_eqEventS _ _ _ _ _ _ es _ ((hr4.ext (hx5.trans hx6)).slice event_len rfl (by have := HN.out; omega)) (hr6.slice event_len rfl (by have := HN.out; omega))).mono ?_
    rintro e w7 ⟨rfl, hx7⟩
    go_wp2_with fail
    go_ret
    exact Ret.bool rfl ((hX5.trans hx6).trans hx7)
end Go.Proofs.YtglbiddddflmeaaDoor
