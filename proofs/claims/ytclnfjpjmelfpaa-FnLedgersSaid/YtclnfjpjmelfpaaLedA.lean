
/-
  Postings and ledgers: validity, of the program and of the reference.
-/
import Derived.Test.YtclnfjpjmelfpaaInts
namespace Go.Proofs.Ytclnfjpjmelfpaa
open Go.RowKit
structure Posting where
  debit : Int
  credit : Int
  gas : Int
  money : Int
def Posting.cells (p : Posting) : List Value := [.int .i64 p.debit, .int .i64 p.credit, .int .i64 p.gas, .int .i64 p.money]
theorem post_len (p : Posting) : p.cells.length = 4 := rfl
def postB (p : Posting) : Bool := inB p.debit 0 23 && inB p.credit 0 23 && (p.debit != p.credit) && inB p.gas (-1000000000) 1000000000 && inB p.money (-1000000000000000) 1000000000000000

theorem c_l30Account (n : Int) (w : World) :
    Calls Try.prog 53 #[.int .i64 n] w fun e w' => e = .returned (.bool (inB n 0 23)) ∧ w = w' := by
  go_enter Try.func53, Try.ntmps53
  go_wp2_with (go_at_call 55; refine (c_l01In _ _ _ _).mono ?_; rintro e w' ⟨rfl, rfl⟩)
  go_ret
  exact ⟨rfl, rfl⟩

theorem c_l29Balance (n : Int) (w : World) :
    Calls Try.prog 54 #[.int .i64 n] w fun e w' => e = .returned (.bool (inB n (-1000000000) 1000000000)) ∧ w = w' := by
  go_enter Try.func54, Try.ntmps54
  go_wp2_with (go_at_call 55; refine (c_l01In _ _ _ _).mono ?_; rintro e w' ⟨rfl, rfl⟩)
  go_ret
  exact ⟨rfl, rfl⟩

set_option maxHeartbeats 1000000 in
theorem c_IsPosting (p : Posting) (w : World) :
    Calls Try.prog 17 #[.agg #[.int .i64 p.debit, .int .i64 p.credit, .int .i64 p.gas, .int .i64 p.money]] w (Ret (.bool (postB p)) w) := by
  obtain ⟨d, c, g, m⟩ := p
  go_enter Try.func17, Try.ntmps17
  go_wp2_with (go_at_call 56; refine (c_within _ _ _ _).mono ?_; rintro e w' ⟨rfl, rfl⟩)
  all_goals
    go_ret
    refine Ret.bool ?_ (Ext.alloc _ _)
    simp_all [postB]

set_option maxHeartbeats 1000000 in
theorem c_specIsPosting (p : Posting) (w : World) :
    Calls Try.prog 15 #[.agg #[.int .i64 p.debit, .int .i64 p.credit, .int .i64 p.gas, .int .i64 p.money]] w (Ret (.bool (postB p)) w) := by
  obtain ⟨d, c, g, m⟩ := p
  go_enter Try.func15, Try.ntmps15
  go_wp2_with (first | (go_at_call 55; refine (c_l01In _ _ _ _).mono ?_; rintro e w' ⟨rfl, rfl⟩) | (go_at_call 53; refine (c_l30Account _ _).mono ?_; rintro e w' ⟨rfl, rfl⟩) | (go_at_call 54; refine (c_l29Balance _ _).mono ?_; rintro e w' ⟨rfl, rfl⟩))
  all_goals
    go_ret
    refine Ret.bool ?_ (Ext.alloc _ _)
    simp_all [postB]

end Go.Proofs.Ytclnfjpjmelfpaa
