
/-
  Events: validity, of the program and of the reference.
-/
import Derived.Test.YtglbiddddflmeaaInts
namespace Go.Proofs.Ytglbiddddflmeaa
open Go.RowKit
structure Event where
  kind : Int
  a : Int
  b : Int
  c : Int
  d : Int
def Event.cells (p : Event) : List Value := [.int .i64 p.kind, .int .i64 p.a, .int .i64 p.b, .int .i64 p.c, .int .i64 p.d]
def flowB (z : Int) : Bool := inB z (-30000) 30000
def evB (p : Event) : Bool := inB p.kind 1 3 && flowB p.a && flowB p.b && flowB p.c && flowB p.d

theorem Row.new1 (w : World) (o : Obj) (t : TypeId) (cs : List Value) : Row ((w.alloc o).alloc (.cells cs.toArray t)) (w.heap.size + 1) t cs := by
  have h := Row.new (w.alloc o) t cs
  rwa [show (w.alloc o).heap.size = w.heap.size + 1 by simp] at h

theorem c_l05Flow (n : Int) (w : World) :
    Calls Try.prog 8 #[.int .i64 n] w fun e w' => e = .returned (.bool (flowB n)) ∧ w = w' := by
  go_enter Try.func8, Try.ntmps8
  go_wp2_with (go_at_call 7; refine (c_l01In _ _ _ _).mono ?_; rintro e w' ⟨rfl, rfl⟩)
  go_ret
  exact ⟨rfl, rfl⟩

set_option maxHeartbeats 1000000 in
theorem c_IsEvent (p : Event) (w : World) :
    Calls Try.prog 6 #[.agg #[.int .i64 p.kind, .int .i64 p.a, .int .i64 p.b, .int .i64 p.c, .int .i64 p.d]] w (Ret (.bool (evB p)) w) := by
  obtain ⟨k, a, b, c, d⟩ := p
  go_enter Try.func6, Try.ntmps6
  cases hk : inB k 1 3
  · go_wp2_with (first | (go_at_call 9; refine (c_within _ _ _ _).mono ?_; rintro e w' ⟨rfl, rfl⟩))
    go_ret
    refine Ret.bool ?_ (Ext.alloc _ _)
    simp_all [evB]
  · go_wp2_with (first | (go_at_call 9; refine (c_within _ _ _ _).mono ?_; rintro e w' ⟨rfl, rfl⟩))
    have hS := Row.new1 w (.cells #[.int .i64 k, .int .i64 a, .int .i64 b, .int .i64 c, .int .i64 d] 25) 2 [.int .i64 a, .int .i64 b, .int .i64 c, .int .i64 d]
    refine (c_allWithin _ 4 4 [a, b, c, d] (-30000) 30000 _ (RowOf.slice (f := intC) (xs := [a, b, c, d]) hS intC_len rfl (by omega))).mono ?_
    rintro e w' ⟨rfl, rfl⟩
    go_wp2_with fail
    go_ret
    refine Ret.bool ?_ ((Ext.alloc _ _).and_alloc _)
    simp [evB, allB, flowB, hk, Bool.and_assoc]

set_option maxHeartbeats 1000000 in
theorem c_specIsEvent (p : Event) (w : World) :
    Calls Try.prog 4 #[.agg #[.int .i64 p.kind, .int .i64 p.a, .int .i64 p.b, .int .i64 p.c, .int .i64 p.d]] w (Ret (.bool (evB p)) w) := by
  obtain ⟨k, a, b, c, d⟩ := p
  go_enter Try.func4, Try.ntmps4
  go_wp2_with (first | (go_at_call 7; refine (c_l01In _ _ _ _).mono ?_; rintro e w' ⟨rfl, rfl⟩) | (go_at_call 8; refine (c_l05Flow _ _).mono ?_; rintro e w' ⟨rfl, rfl⟩))
  all_goals
    go_ret
    refine Ret.bool ?_ (Ext.alloc _ _)
    simp_all [evB]

theorem c_toEvent (p : Event) (w : World) :
    Calls Try.prog 5 #[.agg #[.int .i64 p.kind, .int .i64 p.a, .int .i64 p.b, .int .i64 p.c, .int .i64 p.d]] w (Ret (.agg #[.int .i64 p.kind, .int .i64 p.a, .int .i64 p.b, .int .i64 p.c, .int .i64 p.d]) w) := by
  go_enter Try.func5, Try.ntmps5
  go_wp2
  exact bodyPost_ret (v := .agg #[.int .i64 p.kind, .int .i64 p.a, .int .i64 p.b, .int .i64 p.c, .int .i64 p.d]) (by simp [results, Try.results5, go_sem]) rfl ⟨rfl, (((Ext.refl _).and_alloc _).and_alloc _).and_alloc _⟩

end Go.Proofs.Ytglbiddddflmeaa
