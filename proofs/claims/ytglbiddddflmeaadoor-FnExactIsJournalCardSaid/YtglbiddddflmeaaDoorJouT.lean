

/-
  IsJournal of the reference, and the law.
-/
import Derived.Test.YtglbiddddflmeaaDoorJouN
namespace Go.Proofs.YtglbiddddflmeaaDoor
open Go.RowKit
open Go.Lib hiding intOf
set_option maxHeartbeats 1000000 in
set_option maxRecDepth 8000 in
theorem c_specIsJournal (l : List UInt8) (hl : l.length ≤ 1048576) (w : World) :
    Calls Tryd.prog 17 #[.string (mkB l)] w (Ret (.bool (isJ l)) w) := by
  have hle := recS_le l
  have HR := hide (show isJ l = (((recR l).2.2 == 0) && ((recR l).2.1 == 0)) by
    unfold isJ recR longL
    by_cases h : 20000 < l.length
    · rw [if_pos h, decide_eq_false (by omega)]; rfl
    · rw [if_neg h, decide_eq_true (by omega), Bool.true_and, Bool.eq_iff_iff, decide_eq_true_iff]
      simp
      omega)
  go_enter Tryd.func17, Tryd.ntmps17
  go_wp2_with fail
  refine (c_specRecoverEvents l hl _).mono ?_
  rintro e w1 ⟨A, c, rfl, _, _, hx⟩
  generalize (recR l).2.1 = a at *
  generalize (recR l).2.2 = b at *
  generalize (recR l).1.length = n at *
  by_cases h0 : b = 0
  · subst h0
    go_wp2_with fail
    go_ret
    exact Ret.bool (by rw [HR.out]; simp) hx
  · have h1 : (b == 0) = false := by rw [beq_eq_false_iff_ne]; exact h0
    go_wp2_with fail
    go_ret
    exact Ret.bool (by rw [HR.out, h1]; simp) hx
set_option maxHeartbeats 1000000 in
set_option maxRecDepth 8000 in
theorem law_IsJournal (l : List UInt8) (w : World) (hg : Glob w) :
    Calls Tryd.prog 4 #[.string (mkB l)] w (Ret (.bool true) w) := by
  have hsz : (mkB l).size = l.length := rfl
  by_cases h : 1048576 < l.length
  · go_enter Tryd.func4, Tryd.ntmps4
    go_wp2_with fail
    go_ret
    exact Ret.bool rfl (Ext.refl _)
  · have hl : l.length ≤ 1048576 := by omega
    go_enter Tryd.func4, Tryd.ntmps4
    go_wp2_with fail
    refine (c_specIsJournal l hl _).mono ?_
    rintro e w1 ⟨rfl, hx1⟩
    go_wp2_with fail
    refine (c_IsJournal l hl _ (hg.ext hx1)).mono ?_
    rintro e w2 ⟨rfl, hx2⟩
    go_wp2_with fail
    go_ret
    exact Ret.bool rfl (hx1.trans hx2)
end Go.Proofs.YtglbiddddflmeaaDoor
