

/-
  JournalSum, IsJournal, RecoverEvents, of the program and of the reference.
-/
import Derived.Test.YtglbiddddflmeaaDoorJouM
namespace Go.Proofs.YtglbiddddflmeaaDoor
open Go.RowKit
open Go.Lib hiding intOf
def sumR (l : List UInt8) : Int × Int := if 20000 < l.length then (0, 3) else (sumEs (recS l) 1, 0)
def longL (l : List UInt8) : Nat := (textL (recS l) 1).length
def isJ (l : List UInt8) : Bool := decide (l.length ≤ 20000) && decide (longL l = l.length)
def recR (l : List UInt8) : List Event × Int × Int := if 20000 < l.length then ([], 0, 3) else (recS l, (l.length : Int) - longL l, 0)
/-- a list of events of the call's own, and two numbers -/
def RetRec (l : List UInt8) (w : World) (e : Ending) (w' : World) : Prop :=
  ∃ A c, e = .returned (.tuple #[.slice A (recR l).1.length c, .int .i64 (recR l).2.1, .int .i64 (recR l).2.2]) ∧ OwnA w' 38 Event.cells A (recR l).1.length c (recR l).1 ∧ (∀ b, blkOf A (recR l).1.length = some b → w.heap.size ≤ b) ∧ Ext w w'
theorem jour_long (A : Option Addr) (n c : Nat) (a b : Int) (W : World) : (Instr.field 68 (.agg #[.slice A n c, .int .i64 a, .int .i64 b]) 1).run Tryd.prog W = .ok (.int .i64 a) W := by kernel_rfl
theorem jour_sum (A : Option Addr) (n c : Nat) (a b : Int) (W : World) : (Instr.field 68 (.agg #[.slice A n c, .int .i64 a, .int .i64 b]) 2).run Tryd.prog W = .ok (.int .i64 b) W := by kernel_rfl
theorem jour_events (A : Option Addr) (n c : Nat) (a b : Int) (W : World) : (Instr.field 68 (.agg #[.slice A n c, .int .i64 a, .int .i64 b]) 0).run Tryd.prog W = .ok (.slice A n c) W := by kernel_rfl
theorem OwnA.none_ {α : Type} {w : World} {t : TypeId} {f : α → List Value} : OwnA w t f none 0 0 ([] : List α) := ⟨rfl, Nat.le_refl _, by omega, fun h => absurd h (by omega)⟩
set_option maxHeartbeats 1000000 in
set_option maxRecDepth 8000 in
theorem c_JournalSum (l : List UInt8) (hl : l.length ≤ 1048576) (w : World) (hg : Glob w) :
    Calls Tryd.prog 22 #[.string (mkB l)] w (Ret (.tuple #[.int .i64 (sumR l).1, .int .i64 (sumR l).2]) w) := by
  have hsz : (mkB l).size = l.length := rfl
  by_cases h : 20000 < l.length
  · have HR := hide (show sumR l = (0, 3) by unfold sumR; rw [if_pos h])
    go_enter Tryd.func22, Tryd.ntmps22
    go_wp2_with fail
    exact bodyPost_ret (v := .tuple #[.int .i64 0, .int .i64 3]) (by simp [results, Tryd.results22, go_sem]) rfl (Ret.of (by rw [HR.out]) (Ext.refl _))
  · have HR := hide (show sumR l = (sumEs (recS l) 1, 0) by unfold sumR; rw [if_neg h])
    go_enter Tryd.func22, Tryd.ntmps22
    go_wp2_with fail
    refine (c_readJournal l hl _ hg).mono ?_
    rintro e w1 ⟨A, c, rfl, _, _, hx⟩
    have hf := jour_sum A (recS l).length c (textL (recS l) 1).length (sumEs (recS l) 1) w1
    go_wp2_with fail
    exact bodyPost_ret (v := .tuple #[.int .i64 (sumEs (recS l) 1), .int .i64 0]) (by simp [results, Tryd.results22, go_sem]) rfl (Ret.of (by rw [HR.out]) hx)
set_option maxHeartbeats 1000000 in
set_option maxRecDepth 8000 in
theorem c_specJournalSum (l : List UInt8) (hl : l.length ≤ 1048576) (w : World) :
    Calls Tryd.prog 21 #[.string (mkB l)] w (Ret (.tuple #[.int .i64 (sumR l).1, .int .i64 (sumR l).2]) w) := by
  have hsz : (mkB l).size = l.length := rfl
  have hv := hide (fun e he => recL_valid (splitL 10 l).dropLast maxEv 1 e he)
  by_cases h : 20000 < l.length
  · have HR := hide (show sumR l = (0, 3) by unfold sumR; rw [if_pos h])
    go_enter Tryd.func21, Tryd.ntmps21
    go_wp2_with fail
    exact bodyPost_ret (v := .tuple #[.int .i64 0, .int .i64 3]) (by simp [results, Tryd.results21, go_sem]) rfl (Ret.of (by rw [HR.out]) (Ext.refl _))
  · have HR := hide (show sumR l = (sumEs (recS l) 1, 0) by unfold sumR; rw [if_neg h])
    have hlen := recL_len (splitL 10 l).dropLast maxEv 1
    have hlen2 : (recS l).length ≤ 300 := hlen
    clear hlen
    go_enter Tryd.func21, Tryd.ntmps21
    go_wp2_with fail
    refine (c_l32Recover l hl _).mono ?_
    rintro e w1 ⟨A, c, rfl, hoA, _, hx⟩
    go_wp2_with fail
    refine (c_l32Text _ _ _ (recS l) _ (hoA.slice event_len) (fun e he => recL_valid (splitL 10 l).dropLast maxEv 1 e he) (by omega)).mono ?_
    rintro e w2 ⟨rfl, hx2⟩
    go_wp2_with fail
    exact bodyPost_ret (v := .tuple #[.int .i64 (sumEs (recS l) 1), .int .i64 0]) (by simp [results, Tryd.results21, go_sem]) rfl (Ret.of (by rw [HR.out]) (hx.trans hx2))
set_option maxHeartbeats 1000000 in
set_option maxRecDepth 8000 in
theorem c_IsJournal (l : List UInt8) (hl : l.length ≤ 1048576) (w : World) (hg : Glob w) :
    Calls Tryd.prog 18 #[.string (mkB l)] w (Ret (.bool (isJ l)) w) := by
  have hsz : (mkB l).size = l.length := rfl
  by_cases h : 20000 < l.length
  · have HR := hide (show isJ l = false by unfold isJ; rw [decide_eq_false (by omega)]; rfl)
    go_enter Tryd.func18, Tryd.ntmps18
    go_wp2_with fail
    go_ret
    exact Ret.bool HR.out (Ext.refl _)
  · have HR := hide (show isJ l = ((longL l : Int) == (l.length : Int)) by
      unfold isJ
      rw [decide_eq_true (by omega), Bool.true_and, Bool.eq_iff_iff, decide_eq_true_iff, beq_iff_eq]
      omega)
    go_enter Tryd.func18, Tryd.ntmps18
    go_wp2_with (go_at_call 46; refine (c_readJournal l hl _ hg).mono ?_; rintro e w1 ⟨A, c, rfl, _, _, hx⟩; have hf := jour_long A (recS l).length c (textL (recS l) 1).length (sumEs (recS l) 1) w1)
    go_ret
    exact Ret.bool HR.out hx
set_option maxHeartbeats 1000000 in
set_option maxRecDepth 8000 in
theorem c_specRecoverEvents (l : List UInt8) (hl : l.length ≤ 1048576) (w : World) :
    Calls Tryd.prog 26 #[.string (mkB l)] w (RetRec l w) := by
  have hsz : (mkB l).size = l.length := rfl
  by_cases h : 20000 < l.length
  · have HR := hide (show recR l = ([], 0, 3) by unfold recR; rw [if_pos h])
    go_enter Tryd.func26, Tryd.ntmps26
    go_wp2_with fail
    exact bodyPost_ret (v := .tuple #[.slice none 0 0, .int .i64 0, .int .i64 3]) (by simp [results, Tryd.results26, go_sem]) rfl ⟨none, 0, by rw [HR.out]; rfl, by rw [HR.out]; exact OwnA.none_, (by rw [HR.out]; exact fun b hb => by cases hb), Ext.refl _⟩
  · have HR := hide (show recR l = (recS l, (l.length : Int) - longL l, 0) by unfold recR; rw [if_neg h])
    have hle := recS_le l
    have HLL := hide (show longL l = (textL (recS l) 1).length from rfl)
    generalize (textL (recS l) 1).length = tl at *
    go_enter Tryd.func26, Tryd.ntmps26
    go_wp2_with fail
    refine (c_l32Recover l hl _).mono ?_
    rintro e w1 ⟨A, c, rfl, hoA, ⟨hb, _⟩, hx⟩
    rw [show (textL (recS l) 1).length = tl from HLL.out]
    go_wp2_with fail
    exact bodyPost_ret (v := .tuple #[.slice A (recS l).length c, .int .i64 ((l.length : Int) - tl), .int .i64 0]) (by simp [results, Tryd.results26, go_sem]) rfl ⟨A, c, by rw [HR.out, HLL.out], by rw [HR.out]; exact hoA, by rw [HR.out]; exact hb, hx⟩
end Go.Proofs.YtglbiddddflmeaaDoor
