
/-
  Contracts of the small functions on numbers and on terms (no loops).
-/
import Derived.Test.YtbkmnoedhilopaaNum
namespace Go.Proofs.Ytbkmnoedhilopaa
open Go.RowKit

theorem c_l29Through (n : Int) (w : World) :
    Calls Try.prog 42 #[.int .i64 n] w fun e w' => e = .returned (.bool (inB n 0 1000000000)) ∧ w = w' := by
  go_enter Try.func42, Try.ntmps42
  go_wp2_with (go_at_call 38; refine (c_l01In _ _ _ _).mono ?_; rintro e w' ⟨rfl, rfl⟩)
  go_ret
  exact ⟨rfl, rfl⟩

theorem c_l29Balance (n : Int) (w : World) :
    Calls Try.prog 47 #[.int .i64 n] w fun e w' => e = .returned (.bool (inB n (-1000000000) 1000000000)) ∧ w = w' := by
  go_enter Try.func47, Try.ntmps47
  go_wp2_with (go_at_call 38; refine (c_l01In _ _ _ _).mono ?_; rintro e w' ⟨rfl, rfl⟩)
  go_ret
  exact ⟨rfl, rfl⟩

def tolF (band percent thr : Int) : Int := max band (thr * percent / 100)
theorem mul_bd {a b : Int} (x y : Int) (ha : 0 ≤ a) (ha' : a ≤ x) (hb : 0 ≤ b) (hb' : b ≤ y) : 0 ≤ a * b ∧ a * b ≤ x * y :=
  ⟨Int.mul_nonneg ha hb, Int.mul_le_mul ha' hb' hb (by omega)⟩
theorem tolF_bd {band percent thr : Int} (h1 : 0 ≤ band) (h1' : band ≤ 1000000000) (h2 : 0 ≤ percent) (h2' : percent ≤ 100) (h3 : 0 ≤ thr) (h3' : thr ≤ 1000000000) : 0 ≤ tolF band percent thr ∧ tolF band percent thr ≤ 1000000000 := by
  have := mul_bd 1000000000 100 h3 h3' h2 h2'
  unfold tolF; omega

theorem c_toleranceFor (band percent price thr : Int) (A : Option Addr) (n c : Nat) (w : World) (h2 : 0 ≤ percent) (h2' : percent ≤ 100) (h3 : 0 ≤ thr) (h3' : thr ≤ 1000000000) :
    Calls Try.prog 44 #[.agg #[.int .i64 band, .int .i64 percent, .int .i64 price, .slice A n c], .int .i64 thr] w (Ret (.int .i64 (tolF band percent thr)) w) := by
  obtain ⟨hm, hm'⟩ := mul_bd 1000000000 100 h3 h3' h2 h2'
  go_enter Try.func44, Try.ntmps44
  go_wp2
  all_goals
    go_ret
    refine Ret.int ?_ (Ext.alloc _ _)
    unfold tolF; omega

theorem c_l29Tolerance (band percent price thr : Int) (A : Option Addr) (n c : Nat) (w : World) (h2 : 0 ≤ percent) (h2' : percent ≤ 100) (h3 : 0 ≤ thr) (h3' : thr ≤ 1000000000) :
    Calls Try.prog 43 #[.agg #[.int .i64 band, .int .i64 percent, .int .i64 price, .slice A n c], .int .i64 thr] w (Ret (.int .i64 (tolF band percent thr)) w) := by
  obtain ⟨hm, hm'⟩ := mul_bd 1000000000 100 h3 h3' h2 h2'
  go_enter Try.func43, Try.ntmps43
  go_wp2
  all_goals
    go_ret
    refine Ret.int ?_ (Ext.alloc _ _)
    unfold tolF; omega

def excF (band percent bal thr : Int) : Int :=
  if tolF band percent thr < bal then bal - tolF band percent thr else if bal < -tolF band percent thr then bal + tolF band percent thr else 0

theorem c_excessOf (band percent price bal thr : Int) (A : Option Addr) (n c : Nat) (w : World) (h1 : 0 ≤ band) (h1' : band ≤ 1000000000) (h2 : 0 ≤ percent) (h2' : percent ≤ 100) (h3 : 0 ≤ thr) (h3' : thr ≤ 1000000000)
    (h4 : -2000000000 ≤ bal) (h4' : bal ≤ 2000000000) :
    Calls Try.prog 50 #[.agg #[.int .i64 band, .int .i64 percent, .int .i64 price, .slice A n c], .int .i64 bal, .int .i64 thr] w (Ret (.int .i64 (excF band percent bal thr)) w) := by
  have ht := tolF_bd h1 h1' h2 h2' h3 h3'
  have HE := hide (show excF band percent bal thr = if tolF band percent thr < bal then bal - tolF band percent thr else if bal < -tolF band percent thr then bal + tolF band percent thr else 0 from rfl)
  generalize excF band percent bal thr = R at HE ⊢
  go_enter Try.func50, Try.ntmps50
  go_wp2_with fail
  refine (c_toleranceFor _ _ _ _ _ _ _ _ h2 h2' h3 h3').mono ?_
  generalize tolF band percent thr = T at ht HE ⊢
  obtain ⟨ht0, ht1⟩ := ht
  rintro e w1 ⟨rfl, hx⟩
  go_wp2
  all_goals
    go_ret
    refine Ret.int ?_ hx.box
    rw [HE.out]
    (repeat' split) <;> omega

theorem excF_spec {band percent bal thr : Int} (h : 0 ≤ tolF band percent thr) :
    excF band percent bal thr = if bal < 0 then -(max 0 (absI bal - tolF band percent thr)) else max 0 (absI bal - tolF band percent thr) := by
  unfold excF absI; (repeat' split) <;> omega

set_option maxHeartbeats 400000 in
theorem c_l29Excess (band percent price bal thr : Int) (A : Option Addr) (n c : Nat) (w : World) (h1 : 0 ≤ band) (h1' : band ≤ 1000000000) (h2 : 0 ≤ percent) (h2' : percent ≤ 100) (h3 : 0 ≤ thr) (h3' : thr ≤ 1000000000)
    (h4 : -2000000000 ≤ bal) (h4' : bal ≤ 2000000000) :
    Calls Try.prog 48 #[.agg #[.int .i64 band, .int .i64 percent, .int .i64 price, .slice A n c], .int .i64 bal, .int .i64 thr] w (Ret (.int .i64 (excF band percent bal thr)) w) := by
  have ht := tolF_bd h1 h1' h2 h2' h3 h3'
  have ha := absI_le (n := bal) (m := 2000000000) h4 h4'
  have HE := hide (excF_spec (bal := bal) ht.1)
  generalize excF band percent bal thr = R at HE ⊢
  go_enter Try.func48, Try.ntmps48
  go_wp2_with fail
  refine wp_region_later (by kernel_rfl) (by kernel_rfl) ?_
  have e1 : IntKind.i64.wrap (absI bal - tolF band percent thr) = absI bal - tolF band percent thr := IntWalk.i64_in _ (by omega)
  repeat (go_big_quiet_step ((first | (go_at_call 51; exact quiet_later_same (c_l01Abs _ _ (by omega) (by omega))) | (go_at_call 43; exact quiet_later (c_l29Tolerance _ _ _ _ _ _ _ _ h2 h2' h3 h3')))))
  refine wpQuiet_nil ?_
  intro w1 hx
  go_wp2
  all_goals
    go_ret
    refine Ret.int ?_ hx.box
    rw [HE.out]
    (repeat' split) <;> omega

end Go.Proofs.Ytbkmnoedhilopaa
