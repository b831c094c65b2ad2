/-
  The reference's draws of a node and of a pipe. The helpers of the laws on Node: copying, comparing, measuring, marking.
-/
import Derived.Test.YtegkeeeohileiaaSa07
import Derived.Test.YtegkeeeohileiaaSa12
import Derived.Test.YtegkeeeohileiaaSa13
import Derived.Test.YtegkeeeohileiaaSa02
namespace Go.Proofs.Ytegkeeeohileiaa
open Go.RowKit
open Go.Lib (decDigits)
section
variable {w0 w : World} {a n c : Nat} {A : Option Addr}
/-- some node, its name short -/
def DrawnNode (w0 : World) (a : Nat) (A : Option Addr) (n c : Nat) (w : World) (e : Ending) (w' : World) : Prop :=
  ∃ x : Node, e = .returned (.agg #[.string x.name, .int .i64 x.low, .int .i64 x.high]) ∧ x.name.size ≤ 100 ∧ Src w0 w' a A n c ∧ Only a w w'
set_option maxHeartbeats 1000000 in
theorem c_l02DrawNode (i : Nat) (hi : i ≤ 50) (h : Src w0 w a A n c) :
    Calls Try.prog 70 #[.pointer (some ⟨a, 0, none⟩), .int .i64 i] w (DrawnNode w0 a A n c w) := by
  have hal := h.lt
  have hle := h.le0
  have hR := Row.new w 75 [.string ⟨#[]⟩, .int .i64 0, .int .i64 0]
  go_enter Try.func70, Try.ntmps70
  go_wp2_with fail
  refine (c_next 4000 (h.more (Ext.alloc _ _)) (by omega) (by omega)).mono ?_
  rintro e w1 ⟨x1, rfl, hx1, hx1', hs1, ho1⟩
  have hR1 := hR.only ho1 (by omega)
  have hO1 := (Only.of_ext (Ext.alloc w (.cells #[.string ⟨#[]⟩, .int .i64 0, .int .i64 0] 75)) a).trans ho1
  clear hR
  go_wp2_with fail
  refine (c_l01Dec i (by omega) _).mono ?_
  rintro e w2 ⟨rfl, hx2⟩
  have hl := decDigits_len (i + 1) i (Nat.lt_succ_self _)
  have hsz : ¬ 9223372036854775807 < (ByteArray.mk #[110]).size + (mkB (decDigits i)).size := by rw [mkB_size]; show ¬ _ < 1 + _; omega
  have hsz2 : ((ByteArray.mk #[110]) ++ mkB (decDigits i)).size ≤ 100 := by rw [ByteArray.size_append, mkB_size]; show 1 + _ ≤ 100; omega
  have hs2 := hs1.more hx2
  have hR2 := hR1.ext hx2
  have hO2 := hO1.trans (Only.of_ext hx2 a)
  clear hs1 hR1 hO1
  go_wp2_with fail
  refine (c_next 60000 hs2 (by omega) (by omega)).mono ?_
  rintro e w3 ⟨x3, rfl, hx3, hx3', hs3, ho3⟩
  have hR3 := hR2.only ho3 (by omega)
  have hO3 := hO2.trans ho3
  clear hs2 hR2 hO2
  have q0 := hR3.cell 0
  have q1 := hR3.cell 1
  have q2 := hR3.cell 2
  simp at q0 q1 q2
  have f0 := hR3.frozen 0
  have f1 := hR3.frozen 1
  have f2 := hR3.frozen 2
  have hl3 := hR3.lt
  have hf : DrawnNode w0 a A n c w (.returned (.agg #[.string ((ByteArray.mk #[110]) ++ mkB (decDigits i)), .int .i64 x1, .int .i64 (x1 + 2000 + x3)])) (putCells w3 w.heap.size 0 [.string ((ByteArray.mk #[110]) ++ mkB (decDigits i)), .int .i64 x1, .int .i64 (x1 + 2000 + x3)]) :=
    ⟨⟨_, _, _⟩, rfl, hsz2, hs3.put (by have := h.ext.size; omega) (by omega) _ _, hO3.putNew (Nat.le_refl _) _ _⟩
  have HF := hide hf
  clear hf hs3 hO3 hR3
  go_wp2_with fail
  refine bodyPost_ret (v := .agg #[.string ((ByteArray.mk #[110]) ++ mkB (decDigits i)), .int .i64 x1, .int .i64 (x1 + 2000 + x3)]) (by simp [results, Try.results70, go_sem, q0, q1, q2]) rfl ?_
  exact HF.out
/-- some pipe -/
def DrawnPipe (w0 : World) (a : Nat) (A : Option Addr) (n c : Nat) (w : World) (e : Ending) (w' : World) : Prop :=
  ∃ x : Pipe, e = .returned (.agg #[.int .i64 x.src, .int .i64 x.dst, .int .i64 x.k, .int .i64 x.volume, .int .i64 x.limit]) ∧ Src w0 w' a A n c ∧ Only a w w'
set_option maxHeartbeats 1000000 in
theorem c_l02DrawPipe (y z : Int) (h : Src w0 w a A n c) :
    Calls Try.prog 65 #[.pointer (some ⟨a, 0, none⟩), .int .i64 y, .int .i64 z] w (DrawnPipe w0 a A n c w) := by
  have hal := h.lt
  have hle := h.le0
  have hR := Row.new w 78 [.int .i64 0, .int .i64 0, .int .i64 0, .int .i64 0, .int .i64 0]
  go_enter Try.func65, Try.ntmps65
  go_wp2_with fail
  refine (c_next 2 (h.more (Ext.alloc _ _)) (by omega) (by omega)).mono ?_
  rintro e w1 ⟨x1, rfl, hx1, hx1', hs1, ho1⟩
  have hR1 := hR.only ho1 (by omega)
  have hO1 := (Only.of_ext (Ext.alloc w (.cells ([.int .i64 0, .int .i64 0, .int .i64 0, .int .i64 0, .int .i64 0]).toArray 78)) a).trans ho1
  clear hR
  by_cases h0 : x1 = 0
  · subst h0
    go_wp2_with fail
    refine (c_next 9 hs1 (by omega) (by omega)).mono ?_
    rintro e w3 ⟨x3, rfl, hx3, hx3', hs3, ho3⟩
    go_wp2_with fail
    refine (c_next 100 hs3 (by omega) (by omega)).mono ?_
    rintro e w4 ⟨x4, rfl, hx4, hx4', hs4, ho4⟩
    go_wp2_with fail
    refine (c_next 200 hs4 (by omega) (by omega)).mono ?_
    rintro e w5 ⟨x5, rfl, hx5, hx5', hs5, ho5⟩
    have hR5 := ((hR1.only ho3 (by omega)).only ho4 (by omega)).only ho5 (by omega)
    have hO5 := ((hO1.trans ho3).trans ho4).trans ho5
    have q0 := hR5.cell 0
    have q1 := hR5.cell 1
    have q2 := hR5.cell 2
    have q3 := hR5.cell 3
    have q4 := hR5.cell 4
    simp at q0 q1 q2 q3 q4
    have f0 := hR5.frozen 0
    have f1 := hR5.frozen 1
    have f2 := hR5.frozen 2
    have f3 := hR5.frozen 3
    have f4 := hR5.frozen 4
    have hl5 := hR5.lt
    have hf : DrawnPipe w0 a A n c w (.returned (.agg #[.int .i64 z, .int .i64 y, .int .i64 (1 + x3), .int .i64 x4, .int .i64 (1 + x5)])) (putCells w5 w.heap.size 0 [.int .i64 z, .int .i64 y, .int .i64 (1 + x3), .int .i64 x4, .int .i64 (1 + x5)]) := ⟨⟨_, _, _, _, _⟩, rfl, hs5.put (by have := h.ext.size; omega) (by omega) _ _, hO5.putNew (Nat.le_refl _) _ _⟩
    have HF := hide hf
    clear hf hs5 hO5 hR5 hs1 hs3 hs4 hR1 hO1
    go_wp2_with fail
    refine bodyPost_ret (v := .agg #[.int .i64 z, .int .i64 y, .int .i64 (1 + x3), .int .i64 x4, .int .i64 (1 + x5)]) (by simp [results, Try.results65, go_sem, q0, q1, q2, q3, q4]) rfl ?_
    exact HF.out
  · have b0 : (x1 == 0) = false := by rw [beq_eq_false_iff_ne]; exact h0
    go_wp2_with fail
    refine (c_next 9 hs1 (by omega) (by omega)).mono ?_
    rintro e w3 ⟨x3, rfl, hx3, hx3', hs3, ho3⟩
    go_wp2_with fail
    refine (c_next 100 hs3 (by omega) (by omega)).mono ?_
    rintro e w4 ⟨x4, rfl, hx4, hx4', hs4, ho4⟩
    go_wp2_with fail
    refine (c_next 200 hs4 (by omega) (by omega)).mono ?_
    rintro e w5 ⟨x5, rfl, hx5, hx5', hs5, ho5⟩
    have hR5 := ((hR1.only ho3 (by omega)).only ho4 (by omega)).only ho5 (by omega)
    have hO5 := ((hO1.trans ho3).trans ho4).trans ho5
    have q0 := hR5.cell 0
    have q1 := hR5.cell 1
    have q2 := hR5.cell 2
    have q3 := hR5.cell 3
    have q4 := hR5.cell 4
    simp at q0 q1 q2 q3 q4
    have f0 := hR5.frozen 0
    have f1 := hR5.frozen 1
    have f2 := hR5.frozen 2
    have f3 := hR5.frozen 3
    have f4 := hR5.frozen 4
    have hl5 := hR5.lt
    have hf : DrawnPipe w0 a A n c w (.returned (.agg #[.int .i64 y, .int .i64 z, .int .i64 (1 + x3), .int .i64 x4, .int .i64 (1 + x5)])) (putCells w5 w.heap.size 0 [.int .i64 y, .int .i64 z, .int .i64 (1 + x3), .int .i64 x4, .int .i64 (1 + x5)]) := ⟨⟨_, _, _, _, _⟩, rfl, hs5.put (by have := h.ext.size; omega) (by omega) _ _, hO5.putNew (Nat.le_refl _) _ _⟩
    have HF := hide hf
    clear hf hs5 hO5 hR5 hs1 hs3 hs4 hR1 hO1
    go_wp2_with fail
    refine bodyPost_ret (v := .agg #[.int .i64 y, .int .i64 z, .int .i64 (1 + x3), .int .i64 x4, .int .i64 (1 + x5)]) (by simp [results, Try.results65, go_sem, q0, q1, q2, q3, q4]) rfl ?_
    exact HF.out
end
end Go.Proofs.Ytegkeeeohileiaa

namespace Go.Proofs.Ytegkeeeohileiaa
open Go.RowKit

theorem node_info : (Try.prog.info? 75).map (fun i => (i.zero, i.size, i.bytes)) = some (some (.agg #[.string ByteArray.empty, .int .i64 0, .int .i64 0]), 3, 32) := by kernel_rfl










end Go.Proofs.Ytegkeeeohileiaa
