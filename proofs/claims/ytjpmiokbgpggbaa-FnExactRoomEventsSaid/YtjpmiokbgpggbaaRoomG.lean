

/-
  RoomEvents of the program and of the reference.
-/
import Derived.Test.YtjpmiokbgpggbaaRoomF
namespace Go.Proofs.Ytjpmiokbgpggbaa
open Go.RowKit
def evsR (n1 : Int) (r : Room) : List Event × Int := if roomB n1 r = true then evR r else ([], 1)
theorem evR_len (r : Room) : (evR r).1.length ≤ 300 := by
  unfold evR; split
  · simp
  · simp; omega
theorem evsR_len (n1 : Int) (r : Room) : (evsR n1 r).1.length ≤ 300 := by
  unfold evsR; split
  · exact evR_len r
  · simp
theorem RetS.ext {α : Type} {t : TypeId} {f : α → List Value} {R : List α × Int} {w0 w w' : World} {e : Ending} (hx : Ext w0 w) (h : RetS t f R w e w') : RetS t f R w0 e w' := by
  obtain ⟨A, n, c, g, h1, h2, h3, h4, h5, h6⟩ := h
  exact ⟨A, n, c, g, h1, h2, h3, Nat.le_trans hx.size h4, h5, hx.trans h6⟩
set_option maxHeartbeats 1000000 in
theorem c_RoomEvents (A1 A2 A3 A4 A5 : Option Addr) (n1 c1 n2 c2 n3 c3 n4 c4 n5 c5 : Nat) (r : Room) (w : World) (hat : RoomAt w A1 A2 A3 A4 A5 n1 c1 n2 c2 n3 c3 n4 c4 n5 c5 r) :
    Calls Try.prog 30 #[.agg #[.slice A1 n1 c1, .slice A2 n2 c2, .slice A3 n3 c3, .slice A4 n4 c4, .slice A5 n5 c5]] w (RetS 101 Event.cells (evsR n1 r) w) := by
  have hin := RoomIn.new w A1 A2 A3 A4 A5 n1 c1 n2 c2 n3 c3 n4 c4 n5 c5 41
  cases hb : roomB n1 r
  · have HR := hide (show evsR n1 r = ([], 1) by unfold evsR; rw [hb]; rfl)
    go_enter Try.func30, Try.ntmps30
    go_wp2_with fail
    refine (c_IsRoom A1 A2 A3 A4 A5 n1 c1 n2 c2 n3 c3 n4 c4 n5 c5 r _ (hat.ext (Ext.alloc _ _))).mono ?_
    rw [hb]
    rintro e w1 ⟨rfl, hx1⟩
    go_wp2_with fail
    go_ret2
    exact RetS.nil_ HR.out hx1.box
  · have HR := hide (show evsR n1 r = evR r by unfold evsR; rw [hb]; rfl)
    have hf := roomFits hb
    go_enter Try.func30, Try.ntmps30
    go_wp2_with fail
    refine (c_IsRoom A1 A2 A3 A4 A5 n1 c1 n2 c2 n3 c3 n4 c4 n5 c5 r _ (hat.ext (Ext.alloc _ _))).mono ?_
    rw [hb]
    rintro e w1 ⟨rfl, hx1⟩
    obtain ⟨hlt, x0, x1, x2, x3, x4⟩ := hin.ext hx1
    go_wp2_with fail
    refine (c_roomEvents A1 A2 A3 A4 A5 n1 c1 n2 c2 n3 c3 n4 c4 n5 c5 r _ (hat.ext hx1.box) hf).mono ?_
    rintro e w2 ⟨A, n, c, g, rfl, hn, hc, hg, ho, hx2⟩
    go_wp2_with fail
    go_ret2
    rw [HR.out]
    exact RetS.ext hx1.box ⟨A, n, c, g, rfl, hn, hc, hg, ho, hx2⟩
set_option maxHeartbeats 1000000 in
theorem c_specRoomEvents (A1 A2 A3 A4 A5 : Option Addr) (n1 c1 n2 c2 n3 c3 n4 c4 n5 c5 : Nat) (r : Room) (w : World) (hat : RoomAt w A1 A2 A3 A4 A5 n1 c1 n2 c2 n3 c3 n4 c4 n5 c5 r) (hnm : ∀ x ∈ r.ns, x.name.size ≤ 1048576) :
    Calls Try.prog 32 #[.agg #[.slice A1 n1 c1, .slice A2 n2 c2, .slice A3 n3 c3, .slice A4 n4 c4, .slice A5 n5 c5]] w (RetS 101 Event.cells (evsR n1 r) w) := by
  have hin := RoomIn.new w A1 A2 A3 A4 A5 n1 c1 n2 c2 n3 c3 n4 c4 n5 c5 41
  have HNM := hide hnm
  clear hnm
  cases hb : roomB n1 r
  · have HR := hide (show evsR n1 r = ([], 1) by unfold evsR; rw [hb]; rfl)
    go_enter Try.func32, Try.ntmps32
    go_wp2_with fail
    refine (c_specIsRoom A1 A2 A3 A4 A5 n1 c1 n2 c2 n3 c3 n4 c4 n5 c5 r _ (hat.ext (Ext.alloc _ _)) HNM.out).mono ?_
    rw [hb]
    rintro e w1 ⟨rfl, hx1⟩
    go_wp2_with fail
    go_ret2
    exact RetS.nil_ HR.out hx1.box
  · have hf := roomFits hb
    have HR := hide (show evsR n1 r = evR r by unfold evsR; rw [hb]; rfl)
    go_enter Try.func32, Try.ntmps32
    go_wp2_with fail
    refine (c_specIsRoom A1 A2 A3 A4 A5 n1 c1 n2 c2 n3 c3 n4 c4 n5 c5 r _ (hat.ext (Ext.alloc _ _)) HNM.out).mono ?_
    rw [hb]
    rintro e w1 ⟨rfl, hx1⟩
    obtain ⟨hlt, x0, x1, x2, x3, x4⟩ := hin.ext hx1
    go_wp2_with fail
    refine (c_l33Events A1 A2 A3 A4 A5 n1 c1 n2 c2 n3 c3 n4 c4 n5 c5 r _ (hat.ext hx1.box) hf).mono ?_
    rintro e w2 ⟨A, n, c, g, rfl, hn, hc, hg, ho, hx2⟩
    have HL := hide ho.1
    by_cases h300 : 300 < n
    · have hd : (300 : Int) < (n : Int) := by omega
      have HR2 := hide (show evsR n1 r = ([], 3) by rw [HR.out]; unfold evR; rw [← HL.out, if_pos h300])
      go_wp2_with fail
      go_ret2
      exact RetS.nil_ HR2.out (hx1.box.trans hx2)
    · have hd : ¬ (300 : Int) < (n : Int) := by omega
      have HR2 := hide (show evsR n1 r = (roomEv r, 0) by rw [HR.out]; unfold evR; rw [← HL.out, if_neg h300])
      go_wp2_with fail
      go_ret2
      rw [HR2.out]
      exact RetS.ext hx1.box ⟨A, n, c, g, rfl, hn, hc, hg, ho, hx2⟩
end Go.Proofs.Ytjpmiokbgpggbaa
