
/-
  Contracts of the small functions on numbers.
-/
import Derived.Test.YtjpmiokbgpggbaaRows
import Derived.Test.YtjpmiokbgpggbaaBase
namespace Go.Proofs.Ytjpmiokbgpggbaa
open Go.RowKit

theorem c_within (n lo hi : Int) (w : World) :
    Calls Try.prog 44 #[.int .i64 n, .int .i64 lo, .int .i64 hi] w fun e w' => e = .returned (.bool (inB n lo hi)) ∧ w = w' := by
  go_enter Try.func44, Try.ntmps44
  go_wp2
  all_goals
    go_ret
    simp [inB, *] <;> omega

theorem c_l01In (n lo hi : Int) (w : World) :
    Calls Try.prog 39 #[.int .i64 n, .int .i64 lo, .int .i64 hi] w fun e w' => e = .returned (.bool (inB n lo hi)) ∧ w = w' := by
  go_enter Try.func39, Try.ntmps39
  go_wp2
  all_goals
    go_ret
    simp [inB, *] <;> omega

def absI (n : Int) : Int := if n < 0 then -n else n
theorem absI_le {n : Int} {m : Int} (h1 : -m ≤ n) (h2 : n ≤ m) : 0 ≤ absI n ∧ absI n ≤ m := by unfold absI; split <;> omega

theorem c_absOf (n : Int) (w : World) (h : -9223372036854775807 ≤ n) (h' : n ≤ 9223372036854775807) :
    Calls Try.prog 139 #[.int .i64 n] w fun e w' => e = .returned (.int .i64 (absI n)) ∧ w = w' := by
  go_enter Try.func139, Try.ntmps139
  go_wp2
  all_goals
    go_ret
    simp [absI, *] <;> omega


end Go.Proofs.Ytjpmiokbgpggbaa
