
/-
  Contracts of the small functions on numbers.
-/
import Derived.Test.YtbkmnoedhilopaaRows
import Derived.Test.YtbkmnoedhilopaaBase
namespace Go.Proofs.Ytbkmnoedhilopaa
open Go.RowKit

theorem c_within (n lo hi : Int) (w : World) :
    Calls Try.prog 40 #[.int .i64 n, .int .i64 lo, .int .i64 hi] w fun e w' => e = .returned (.bool (inB n lo hi)) ∧ w = w' := by
  go_enter Try.func40, Try.ntmps40
  go_wp2
  all_goals
    go_ret
    simp [inB, *] <;> omega

theorem c_l01In (n lo hi : Int) (w : World) :
    Calls Try.prog 38 #[.int .i64 n, .int .i64 lo, .int .i64 hi] w fun e w' => e = .returned (.bool (inB n lo hi)) ∧ w = w' := by
  go_enter Try.func38, Try.ntmps38
  go_wp2
  all_goals
    go_ret
    simp [inB, *] <;> omega

def absI (n : Int) : Int := if n < 0 then -n else n
theorem absI_le {n : Int} {m : Int} (h1 : -m ≤ n) (h2 : n ≤ m) : 0 ≤ absI n ∧ absI n ≤ m := by unfold absI; split <;> omega

theorem c_absOf (n : Int) (w : World) (h : -9223372036854775807 ≤ n) (h' : n ≤ 9223372036854775807) :
    Calls Try.prog 52 #[.int .i64 n] w fun e w' => e = .returned (.int .i64 (absI n)) ∧ w = w' := by
  go_enter Try.func52, Try.ntmps52
  go_wp2
  all_goals
    go_ret
    simp [absI, *] <;> omega

theorem c_l01Abs (n : Int) (w : World) (h : -9223372036854775807 ≤ n) (h' : n ≤ 9223372036854775807) :
    Calls Try.prog 51 #[.int .i64 n] w fun e w' => e = .returned (.int .i64 (absI n)) ∧ w = w' := by
  go_enter Try.func51, Try.ntmps51
  go_wp2
  all_goals
    go_ret
    simp [absI, *] <;> omega

end Go.Proofs.Ytbkmnoedhilopaa
