

/-
  The laws on JournalSum and IsJournal: each returns true.
-/
import Derived.Test.YtglbiddddflmeaaDoorJouN
namespace Go.Proofs.YtglbiddddflmeaaDoor
open Go.RowKit
open Go.Lib hiding intOf
set_option maxHeartbeats 1000000 in
set_option maxRecDepth 8000 in
theorem law_JournalSum (l : List UInt8) (w : World) (hg : Glob w) :
    Calls Tryd.prog 6 #[.string (mkB l)] w (Ret (.bool true) w) := by
  have hsz : (mkB l).size = l.length := rfl
  by_cases h : 1048576 < l.length
  · go_enter Tryd.func6, Tryd.ntmps6
    go_wp2_with fail
    go_ret
    exact Ret.bool rfl (Ext.refl _)
  · have hl : l.length ≤ 1048576 := by omega
    go_enter Tryd.func6, Tryd.ntmps6
    go_wp2_with fail
    refine (c_specJournalSum l hl _).mono ?_
    rintro e w1 ⟨rfl, hx1⟩
    go_wp2_with fail
    refine (c_JournalSum l hl _ (hg.ext hx1)).mono ?_
    rintro e w2 ⟨rfl, hx2⟩
    go_wp2_with fail
    go_ret
    exact Ret.bool rfl (hx1.trans hx2)
end Go.Proofs.YtglbiddddflmeaaDoor
