

/-
  Events: validity, of the program and of the reference.
-/
import Derived.Test.YtglbiddddflmeaaDoorInts
import Derived.Test.YtglbiddddflmeaaDoorEvH
namespace Go.Proofs.YtglbiddddflmeaaDoor
open Go.RowKit
def flowB (z : Int) : Bool := inB z (-30000) 30000
def evB (p : Event) : Bool := inB p.kind 1 3 && flowB p.a && flowB p.b && flowB p.c && flowB p.d

theorem Row.new1 (w : World) (o : Obj) (t : TypeId) (cs : List Value) : Row ((w.alloc o).alloc (.cells cs.toArray t)) (w.heap.size + 1) t cs := by
  have h := Row.new (w.alloc o) t cs
  rwa [show (w.alloc o).heap.size = w.heap.size + 1 by simp] at h

theorem c_l05Flow (n : Int) (w : World) :
    Calls Tryd.prog 56 #[.int .i64 n] w fun e w' => e = .returned (.bool (flowB n)) ∧ w = w' := by
  go_enter Tryd.func56, Tryd.ntmps56
  go_wp2_with (go_at_call 55; refine (c_l01In _ _ _ _).mono ?_; rintro e w' ⟨rfl, rfl⟩)
  go_ret
  exact ⟨rfl, rfl⟩

set_option maxHeartbeats 1000000 in
theorem c_IsEvent (p : Event) (w : World) :
    Calls Tryd.prog 37 #[.agg #[.int .i64 p.kind, .int .i64 p.a, .int .i64 p.b, .int .i64 p.c, .int .i64 p.d]] w (Ret (.bool (evB p)) w) := by
  obtain ⟨k, a, b, c, d⟩ := p
  go_enter Tryd.func37, Tryd.ntmps37
  cases hk : inB k 1 3
  · go_wp2_with (first | (go_at_call 53; refine (c_within _ _ _ _).mono ?_; rintro e w' ⟨rfl, rfl⟩))
    go_ret
    refine Ret.bool ?_ (Ext.alloc _ _)
    simp_all [evB]
  · go_wp2_with (first | (go_at_call 53; refine (c_within _ _ _ _).mono ?_; rintro e w' ⟨rfl, rfl⟩))
    have hS := Row.new1 w (.cells #[.int .i64 k, .int .i64 a, .int .i64 b, .int .i64 c, .int .i64 d] 38) 2 [.int .i64 a, .int .i64 b, .int .i64 c, .int .i64 d]
    refine (c_allWithin _ 4 4 [a, b, c, d] (-30000) 30000 _ (RowOf.slice (f := intC) (xs := [a, b, c, d]) hS intC_len rfl (by omega))).mono ?_
    rintro e w' ⟨rfl, rfl⟩
    go_wp2_with fail
    go_ret
    refine Ret.bool ?_ ((Ext.alloc _ _).and_alloc _)
    simp [evB, allB, flowB, hk, Bool.and_assoc]

set_option maxHeartbeats 1000000 in
theorem c_specIsEvent (p : Event) (w : World) :
    Calls Tryd.prog 38 #[.agg #[.int .i64 p.kind, .int .i64 p.a, .int .i64 p.b, .int .i64 p.c, .int .i64 p.d]] w (Ret (.bool (evB p)) w) := by
  obtain ⟨k, a, b, c, d⟩ := p
  go_enter Tryd.func38, Tryd.ntmps38
  go_wp2_with (first | (go_at_call 55; refine (c_l01In _ _ _ _).mono ?_; rintro e w' ⟨rfl, rfl⟩) | (go_at_call 56; refine (c_l05Flow _ _).mono ?_; rintro e w' ⟨rfl, rfl⟩))
  all_goals
    go_ret
    refine Ret.bool ?_ (Ext.alloc _ _)
    simp_all [evB]

end Go.Proofs.YtglbiddddflmeaaDoor
