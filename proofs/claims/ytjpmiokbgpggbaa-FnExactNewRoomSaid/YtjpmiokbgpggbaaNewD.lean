

/-
  NewRoom of the program and of the reference.
-/
import Derived.Test.YtjpmiokbgpggbaaNewC
namespace Go.Proofs.Ytjpmiokbgpggbaa
open Go.RowKit
theorem newRR_no {n1 : Int} {ns : List Node} {ps : List Pipe} {xs : List Contract} (h : (netB ns ps && bookB n1 xs) = false) : newRR n1 ns ps xs = (zeroR, 1) := by unfold newRR; rw [h]; rfl
theorem newRR_yes {n1 : Int} {ns : List Node} {ps : List Pipe} {xs : List Contract} (h : (netB ns ps && bookB n1 xs) = true) : newRR n1 ns ps xs = (newR ns ps xs, 0) := by unfold newRR; rw [if_pos h]
set_option maxHeartbeats 2000000 in
theorem c_NewRoom (A1 A2 : Option Addr) (n1 c1 n2 c2 : Nat) (ns : List Node) (ps : List Pipe) (A : Option Addr) (n c : Nat) (xs : List Contract) (w : World) (h1 : SliceOf w 3 Node.cells A1 n1 c1 ns) (h2 : SliceOf w 5 Pipe.cells A2 n2 c2 ps) (hs : SliceOf w 8 Contract.cells A n c xs) (m1 : n1 ≤ 1048576) (m2 : n2 ≤ 1048576) (m3 : n ≤ 1048576) :
    Calls Try.prog 20 #[.agg #[.slice A1 n1 c1, .slice A2 n2 c2], .slice A n c] w (RetRC (newRR n1 ns ps xs) w) := by
  have x0 : Ext w ((w.alloc (.cells #[.slice A1 n1 c1, .slice A2 n2 c2] 36)).alloc (.cells #[.slice none 0 0, .slice none 0 0, .slice none 0 0, .slice none 0 0, .slice none 0 0] 41)) := (Ext.alloc _ _).and_alloc _
  cases hb : (netB ns ps && bookB n1 xs)
  · have HR := hide (newRR_no hb)
    go_enter Try.func20, Try.ntmps20
    go_wp2_with fail
    refine (c_IsBook A1 A2 n1 c1 n2 c2 ns ps A n c xs _ (h1.ext x0) (h2.ext x0) (hs.ext x0)).mono ?_
    rw [hb]
    rintro e w1 ⟨rfl, hx1⟩
    have hcl := hx1.cell
    have hfr := hx1.frozen
    have hz1 := hx1.size
    simp at hz1
    have hz2 : w.heap.size + 1 < w1.heap.size := by omega
    go_wp2
    rw [HR.out]
    refine bodyPost_ret (v := .tuple #[.agg #[.slice none 0 0, .slice none 0 0, .slice none 0 0, .slice none 0 0, .slice none 0 0], .int .i64 1]) (by simp [results, Try.results20, go_sem, hcl]) rfl
      ⟨_, _, _, _, _, _, _, _, _, _, _, _, _, _, _, zeroR, rfl, zero_own _ _ _, ⟨rfl, rfl, rfl, rfl, rfl⟩, ?_⟩
    repeat (refine Ext.setCell ?_ (by first | (simp; done) | (simp; omega) | omega) _)
    exact x0.trans hx1
  · have HR := hide (newRR_yes hb)
    go_enter Try.func20, Try.ntmps20
    go_wp2_with fail
    refine (c_IsBook A1 A2 n1 c1 n2 c2 ns ps A n c xs _ (h1.ext x0) (h2.ext x0) (hs.ext x0)).mono ?_
    rw [hb]
    rintro e w1 ⟨rfl, hx1⟩
    have hcl := hx1.cell
    have hz1 := hx1.size
    simp at hz1
    have hz2 : w.heap.size < w1.heap.size := by omega
    go_wp2_with fail
    refine (c_newRoom A1 A2 n1 c1 n2 c2 ns ps A n c xs _ (h1.ext (x0.trans hx1)) (h2.ext (x0.trans hx1)) (hs.ext (x0.trans hx1)) m1 m2 m3).mono ?_
    rintro e w2 ⟨B1, B2, B3, B4, B5, k1, d1, k2, d2, k3, d3, k4, d4, k5, d5, r', rfl, ho, hl, hx2⟩
    clear hcl hz2
    have hx02 := hx1.trans hx2
    have hcl := hx02.cell
    have hfr := hx02.frozen
    have hz3 := hx2.size
    have hz2 : w.heap.size + 1 < w2.heap.size := by omega
    go_wp2
    rw [HR.out]
    refine bodyPost_ret (v := .tuple #[.agg #[.slice B1 k1 d1, .slice B2 k2 d2, .slice B3 k3 d3, .slice B4 k4 d4, .slice B5 k5 d5], .int .i64 0]) (by simp [results, Try.results20, go_sem, hcl]) rfl
      ⟨_, _, _, _, _, _, _, _, _, _, _, _, _, _, _, r', rfl, (ho.set5 (.inl (by omega)) _ _ _ _ _).wider (by omega) (by simp), hl, ?_⟩
    repeat (refine Ext.setCell ?_ (by first | (simp; done) | (simp; omega) | omega) _)
    exact x0.trans hx02
set_option maxHeartbeats 2000000 in
theorem c_specNewRoom (A1 A2 : Option Addr) (n1 c1 n2 c2 : Nat) (ns : List Node) (ps : List Pipe) (A : Option Addr) (n c : Nat) (xs : List Contract) (w : World) (h1 : SliceOf w 3 Node.cells A1 n1 c1 ns) (h2 : SliceOf w 5 Pipe.cells A2 n2 c2 ps) (hs : SliceOf w 8 Contract.cells A n c xs) (m1 : n1 ≤ 1048576) (m2 : n2 ≤ 1048576) (m3 : n ≤ 1048576) (hnm : ∀ x ∈ ns, x.name.size ≤ 1048576) :
    Calls Try.prog 17 #[.agg #[.slice A1 n1 c1, .slice A2 n2 c2], .slice A n c] w (RoomC (newRR n1 ns ps xs) w) := by
  have x0 : Ext w ((w.alloc (.cells #[.slice A1 n1 c1, .slice A2 n2 c2] 36)).alloc (.cells #[.slice none 0 0, .slice none 0 0, .slice none 0 0, .slice none 0 0, .slice none 0 0] 41)) := (Ext.alloc _ _).and_alloc _
  have HNM := hide hnm
  clear hnm
  cases hb : (netB ns ps && bookB n1 xs)
  · have HR := hide (newRR_no hb)
    go_enter Try.func17, Try.ntmps17
    go_wp2_with fail
    refine (c_specIsBook A1 A2 n1 c1 n2 c2 ns ps A n c xs _ (h1.ext x0) (h2.ext x0) (hs.ext x0) HNM.out).mono ?_
    rw [hb]
    rintro e w1 ⟨rfl, hx1⟩
    have hcl := hx1.cell
    have hfr := hx1.frozen
    have hz1 := hx1.size
    simp at hz1
    have hz2 : w.heap.size + 1 < w1.heap.size := by omega
    go_wp2
    rw [HR.out]
    refine bodyPost_ret (v := .tuple #[.agg #[.slice none 0 0, .slice none 0 0, .slice none 0 0, .slice none 0 0, .slice none 0 0], .int .i64 1]) (by simp [results, Try.results17, go_sem, hcl]) rfl
      ⟨_, _, _, _, _, _, _, _, _, _, _, _, _, _, _, zeroR, rfl, (zero_own _ 0 0).at_, ⟨rfl, rfl, rfl, rfl, rfl⟩, ?_⟩
    repeat (refine Ext.setCell ?_ (by first | (simp; done) | (simp; omega) | omega) _)
    exact x0.trans hx1
  · have HR := hide (newRR_yes hb)
    go_enter Try.func17, Try.ntmps17
    go_wp2_with fail
    refine (c_specIsBook A1 A2 n1 c1 n2 c2 ns ps A n c xs _ (h1.ext x0) (h2.ext x0) (hs.ext x0) HNM.out).mono ?_
    rw [hb]
    rintro e w1 ⟨rfl, hx1⟩
    have hcl := hx1.cell
    have hz1 := hx1.size
    simp at hz1
    have hz2 : w.heap.size < w1.heap.size := by omega
    go_wp2_with fail
    refine (c_l33New A1 A2 n1 c1 n2 c2 ns ps A n c xs _ (h1.ext (x0.trans hx1)) (h2.ext (x0.trans hx1)) (hs.ext (x0.trans hx1)) m1 m2 m3).mono ?_
    rintro e w2 ⟨B1, B2, B3, B4, B5, k1, d1, k2, d2, k3, d3, k4, d4, k5, d5, r', rfl, ho, hl, hbk, hx2⟩
    clear hcl hz2
    have hx02 := hx1.trans hx2
    have hcl := hx02.cell
    have hfr := hx02.frozen
    have hz3 := hx2.size
    have hz2 : w.heap.size + 1 < w2.heap.size := by omega
    go_wp2
    rw [HR.out]
    refine bodyPost_ret (v := .tuple #[.agg #[.slice B1 k1 d1, .slice B2 k2 d2, .slice B3 k3 d3, .slice B4 k4 d4, .slice B5 k5 d5], .int .i64 0]) (by simp [results, Try.results17, go_sem, hcl]) rfl
      ⟨_, _, _, _, _, _, _, _, _, _, _, _, _, _, _, r', rfl, ho.set5 (fun b hb => by have := hbk b hb; omega) _ _ _ _ _, hl, ?_⟩
    repeat (refine Ext.setCell ?_ (by first | (simp; done) | (simp; omega) | omega) _)
    exact x0.trans hx02
end Go.Proofs.Ytjpmiokbgpggbaa
