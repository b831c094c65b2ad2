

/-
  Contracts of the small functions on numbers.
-/
import Derived.Test.YtglbiddddflmeaaDoorRows
import Derived.Test.YtglbiddddflmeaaDoorBase
namespace Go.Proofs.YtglbiddddflmeaaDoor
open Go.RowKit

theorem c_within (n lo hi : Int) (w : World) :
    Calls Tryd.prog 53 #[.int .i64 n, .int .i64 lo, .int .i64 hi] w fun e w' => e = .returned (.bool (inB n lo hi)) ∧ w = w' := by
  go_enter Tryd.func53, Tryd.ntmps53
  go_wp2
  all_goals
    go_ret
    simp [inB, *] <;> omega

theorem c_l01In (n lo hi : Int) (w : World) :
    Calls Tryd.prog 55 #[.int .i64 n, .int .i64 lo, .int .i64 hi] w fun e w' => e = .returned (.bool (inB n lo hi)) ∧ w = w' := by
  go_enter Tryd.func55, Tryd.ntmps55
  go_wp2
  all_goals
    go_ret
    simp [inB, *] <;> omega

def absI (n : Int) : Int := if n < 0 then -n else n
theorem absI_le {n : Int} {m : Int} (h1 : -m ≤ n) (h2 : n ≤ m) : 0 ≤ absI n ∧ absI n ≤ m := by unfold absI; split <;> omega



end Go.Proofs.YtglbiddddflmeaaDoor
