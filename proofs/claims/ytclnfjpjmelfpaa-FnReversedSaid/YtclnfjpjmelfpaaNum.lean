
/-
  Contracts of the small functions on numbers.
-/
import Derived.Test.YtclnfjpjmelfpaaRows
import Derived.Test.YtclnfjpjmelfpaaBase
namespace Go.Proofs.Ytclnfjpjmelfpaa
open Go.RowKit

theorem c_within (n lo hi : Int) (w : World) :
    Calls Try.prog 56 #[.int .i64 n, .int .i64 lo, .int .i64 hi] w fun e w' => e = .returned (.bool (inB n lo hi)) ∧ w = w' := by
  go_enter Try.func56, Try.ntmps56
  go_wp2
  all_goals
    go_ret
    simp [inB, *] <;> omega

theorem c_l01In (n lo hi : Int) (w : World) :
    Calls Try.prog 55 #[.int .i64 n, .int .i64 lo, .int .i64 hi] w fun e w' => e = .returned (.bool (inB n lo hi)) ∧ w = w' := by
  go_enter Try.func55, Try.ntmps55
  go_wp2
  all_goals
    go_ret
    simp [inB, *] <;> omega

def absI (n : Int) : Int := if n < 0 then -n else n
theorem absI_le {n : Int} {m : Int} (h1 : -m ≤ n) (h2 : n ≤ m) : 0 ≤ absI n ∧ absI n ≤ m := by unfold absI; split <;> omega



end Go.Proofs.Ytclnfjpjmelfpaa
