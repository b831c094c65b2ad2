
/-
  Rooms: validity, of the reference; the current hour, of both.
-/
import Derived.Test.YtjpmiokbgpggbaaRoomA
namespace Go.Proofs.Ytjpmiokbgpggbaa
open Go.RowKit
set_option maxHeartbeats 4000000 in
theorem c_specIsRoom (A1 A2 A3 A4 A5 : Option Addr) (n1 c1 n2 c2 n3 c3 n4 c4 n5 c5 : Nat) (r : Room) (w : World) (hat : RoomAt w A1 A2 A3 A4 A5 n1 c1 n2 c2 n3 c3 n4 c4 n5 c5 r) (hnm : ∀ x ∈ r.ns, x.name.size ≤ 1048576) :
    Calls Try.prog 9 #[.agg #[.slice A1 n1 c1, .slice A2 n2 c2, .slice A3 n3 c3, .slice A4 n4 c4, .slice A5 n5 c5]] w (Ret (.bool (roomB n1 r)) w) := by
  have hL := hat.s5.len
  have hm1 := hat.s1.max
  have hc1 := hat.s1.cap
  have hm5 := hat.s5.max
  have hc5 := hat.s5.cap
  have hin := RoomIn.new w A1 A2 A3 A4 A5 n1 c1 n2 c2 n3 c3 n4 c4 n5 c5 41
  have HNM := hide hnm
  clear hnm
  cases h1 : nomsOk n1 r.ns r.ps r.xs r.L
  · have HR := hide (show roomB n1 r = false by simp [roomB, h1])
    clear hL
    go_enter Try.func9, Try.ntmps9
    go_wp2_with fail
    refine (c_specAreNominations A1 A2 n1 c1 n2 c2 r.ns r.ps A3 n3 c3 r.xs A4 n4 c4 r.L _ (hat.s1.ext (Ext.alloc _ _)) (hat.s2.ext (Ext.alloc _ _)) (hat.s3.ext (Ext.alloc _ _)) (hat.s4.ext (Ext.alloc _ _)) HNM.out).mono ?_
    rw [h1]
    rintro e w1 ⟨rfl, hx1⟩
    go_wp2_with fail
    go_ret
    exact Ret.bool HR.out hx1.box
  cases h2 : inB (n5 : Int) 1 48
  · have HR := hide (show roomB n1 r = false by unfold roomB; rw [← hL, h1, h2]; rfl)
    clear hL
    go_enter Try.func9, Try.ntmps9
    go_wp2_with fail
    refine (c_specAreNominations A1 A2 n1 c1 n2 c2 r.ns r.ps A3 n3 c3 r.xs A4 n4 c4 r.L _ (hat.s1.ext (Ext.alloc _ _)) (hat.s2.ext (Ext.alloc _ _)) (hat.s3.ext (Ext.alloc _ _)) (hat.s4.ext (Ext.alloc _ _)) HNM.out).mono ?_
    rw [h1]
    rintro e w1 ⟨rfl, hx1⟩
    obtain ⟨hlt, x0, x1, x2, x3, x4⟩ := hin.ext hx1
    go_wp2_with (go_at_call 39; refine (c_l01In _ _ _ _).mono ?_; rintro e w' ⟨rfl, rfl⟩)
    go_ret
    exact Ret.bool HR.out hx1.box
  have HR := hide (show roomB n1 r = r.rs.all (fun q => readsB n1 q.xs) by unfold roomB; rw [← hL, h1, h2]; rfl)
  have HLN := hide hL
  clear hL
  go_enter Try.func9, Try.ntmps9
  go_wp2_with fail
  refine (c_specAreNominations A1 A2 n1 c1 n2 c2 r.ns r.ps A3 n3 c3 r.xs A4 n4 c4 r.L _ (hat.s1.ext (Ext.alloc _ _)) (hat.s2.ext (Ext.alloc _ _)) (hat.s3.ext (Ext.alloc _ _)) (hat.s4.ext (Ext.alloc _ _)) HNM.out).mono ?_
  rw [h1]
  rintro e w1 ⟨rfl, hx1⟩
  clear h1
  obtain ⟨hlt, x0, x1, x2, x3, x4⟩ := hin.ext hx1
  go_wp2_with (go_at_call 39; refine (c_l01In _ _ _ _).mono ?_; rintro e w' ⟨rfl, rfl⟩)
  clear hlt x0 x1 x2 x3 x4 h2
  go_loopw [3] (fun i wr => ∃ k : Nat, k ≤ n5 ∧ i = .int .i64 k ∧ Hid (∀ (j : Nat) (p : RS), j < k → r.rs[j]? = some p → readsB n1 p.xs = true) ∧ Ext w1 wr) (fun i _ => n5 - (intOf i).toNat)
  case atStart => exact ⟨0, Nat.zero_le _, rfl, hide (fun j p hj => absurd hj (by omega)), Ext.refl _⟩
  case round =>
    obtain ⟨k, hk, rfl, HK, hx⟩ := hrel
    have hxw := hx1.box.trans hx
    obtain ⟨hlt', x0, x1, x2, x3, x4⟩ := hin.ext (hx1.trans hx)
    by_cases hlt : k < n5
    · obtain ⟨bb, off, p, rfl, hbb, hxk, t⟩ := (hat.s5.ext hxw).get hlt
      have t0 := t 0 _ rfl
      simp only [Nat.add_zero, Nat.mul_one] at t0
      have HX := hide hxk
      have HP := hide (List.mem_of_getElem? hxk)
      clear hxk t
      go_wp2_with fail
      refine wp_region_ph [([0, 1, 2, 3, 4, 5, 6], 7)] [8] (by kernel_rfl) (by kernel_rfl) (by intro c a w d v h; cases d <;> exact h) ?_
      simp only [wpPh, pickL, nthO]
      repeat (go_big_quiet_step (fail))
      refine wpQuiet_nil ?_
      go_wp2_with fail
      refine (c_l28List A1 A2 n1 c1 n2 c2 p.A p.n p.c p.xs _ (by omega) ((hat.s6 p HP.out).ext hxw.drew)).mono ?_
      cases hp : readsB n1 p.xs
      · have HF := hide (show roomB n1 r = false by rw [HR.out, List.all_eq_false]; exact ⟨p, HP.out, by simp [hp]⟩)
        rintro e w2 ⟨rfl, hx2⟩
        go_wp2_with fail
        refine ⟨hx2, ?_⟩
        repeat (go_big_quiet_step (fail))
        refine wpQuiet_nil ?_
        go_wp2_with fail
        go_ret
        exact Ret.bool HF.out (hxw.drew.trans hx2)
      · rintro e w2 ⟨rfl, hx2⟩
        go_wp2_with fail
        refine ⟨hx2, ?_⟩
        repeat (go_big_quiet_step (fail))
        refine wpQuiet_nil ?_
        go_wp2_with fail
        go_roundw
        case rel =>
          refine ⟨k + 1, by omega, by go_num, hide fun j q hj hq => ?_, hx.drew.trans hx2⟩
          by_cases e : j = k
          · subst e; rw [HX.out] at hq; injection hq with hq; subst hq; exact hp
          · exact HK.out j q (by omega) hq
        case measure => simp [intOf]; omega
    · have HF := hide (show roomB n1 r = true by
        rw [HR.out, List.all_eq_true]; intro q hq
        obtain ⟨j, hj, rfl⟩ := List.mem_iff_getElem.1 hq
        exact HK.out j _ (by have := HLN.out; omega) (List.getElem?_eq_getElem hj))
      go_wp2_with fail
      go_ret
      exact Ret.bool HF.out hxw

/-- a number and a code -/
def Ret2 (a b : Int) (w : World) (e : Ending) (w' : World) : Prop := e = .returned (.tuple #[.int .i64 a, .int .i64 b]) ∧ Ext w w'
def hourR (n1 : Int) (r : Room) : Int × Int := if roomB n1 r = true then ((r.rs.length : Int) - 1, 0) else (0, 1)
set_option maxHeartbeats 1000000 in
theorem c_CurrentHour (A1 A2 A3 A4 A5 : Option Addr) (n1 c1 n2 c2 n3 c3 n4 c4 n5 c5 : Nat) (r : Room) (w : World) (hat : RoomAt w A1 A2 A3 A4 A5 n1 c1 n2 c2 n3 c3 n4 c4 n5 c5 r) :
    Calls Try.prog 14 #[.agg #[.slice A1 n1 c1, .slice A2 n2 c2, .slice A3 n3 c3, .slice A4 n4 c4, .slice A5 n5 c5]] w (Ret2 (hourR n1 r).1 (hourR n1 r).2 w) := by
  have hL := hat.s5.len
  have hm5 := hat.s5.max
  have hc5 := hat.s5.cap
  have hin := RoomIn.new w A1 A2 A3 A4 A5 n1 c1 n2 c2 n3 c3 n4 c4 n5 c5 41
  cases hb : roomB n1 r
  · have HR := hide (show hourR n1 r = (0, 1) by unfold hourR; rw [hb]; rfl)
    rw [HR.out]
    clear hL
    go_enter Try.func14, Try.ntmps14
    go_wp2_with fail
    refine (c_IsRoom A1 A2 A3 A4 A5 n1 c1 n2 c2 n3 c3 n4 c4 n5 c5 r _ (hat.ext (Ext.alloc _ _))).mono ?_
    rw [hb]
    rintro e w1 ⟨rfl, hx1⟩
    go_wp2_with fail
    go_ret2
    exact ⟨rfl, hx1.box⟩
  · have HR := hide (show hourR n1 r = ((n5 : Int) - 1, 0) by unfold hourR; rw [hb, hL]; rfl)
    rw [HR.out]
    clear hL
    go_enter Try.func14, Try.ntmps14
    go_wp2_with fail
    refine (c_IsRoom A1 A2 A3 A4 A5 n1 c1 n2 c2 n3 c3 n4 c4 n5 c5 r _ (hat.ext (Ext.alloc _ _))).mono ?_
    rw [hb]
    rintro e w1 ⟨rfl, hx1⟩
    obtain ⟨hlt, x0, x1, x2, x3, x4⟩ := hin.ext hx1
    go_wp2_with fail
    go_ret2
    exact ⟨rfl, hx1.box⟩
set_option maxHeartbeats 1000000 in
theorem c_specCurrentHour (A1 A2 A3 A4 A5 : Option Addr) (n1 c1 n2 c2 n3 c3 n4 c4 n5 c5 : Nat) (r : Room) (w : World) (hat : RoomAt w A1 A2 A3 A4 A5 n1 c1 n2 c2 n3 c3 n4 c4 n5 c5 r)(hnm : ∀ x ∈ r.ns, x.name.size ≤ 1048576) :
    Calls Try.prog 13 #[.agg #[.slice A1 n1 c1, .slice A2 n2 c2, .slice A3 n3 c3, .slice A4 n4 c4, .slice A5 n5 c5]] w (Ret2 (hourR n1 r).1 (hourR n1 r).2 w) := by
  have hL := hat.s5.len
  have hm5 := hat.s5.max
  have hc5 := hat.s5.cap
  have hin := RoomIn.new w A1 A2 A3 A4 A5 n1 c1 n2 c2 n3 c3 n4 c4 n5 c5 41
  cases hb : roomB n1 r
  · have HR := hide (show hourR n1 r = (0, 1) by unfold hourR; rw [hb]; rfl)
    rw [HR.out]
    clear hL
    go_enter Try.func13, Try.ntmps13
    go_wp2_with fail
    refine (c_specIsRoom A1 A2 A3 A4 A5 n1 c1 n2 c2 n3 c3 n4 c4 n5 c5 r _ (hat.ext (Ext.alloc _ _)) hnm).mono ?_
    rw [hb]
    rintro e w1 ⟨rfl, hx1⟩
    go_wp2_with fail
    go_ret2
    exact ⟨rfl, hx1.box⟩
  · have HR := hide (show hourR n1 r = ((n5 : Int) - 1, 0) by unfold hourR; rw [hb, hL]; rfl)
    rw [HR.out]
    clear hL
    go_enter Try.func13, Try.ntmps13
    go_wp2_with fail
    refine (c_specIsRoom A1 A2 A3 A4 A5 n1 c1 n2 c2 n3 c3 n4 c4 n5 c5 r _ (hat.ext (Ext.alloc _ _)) hnm).mono ?_
    rw [hb]
    rintro e w1 ⟨rfl, hx1⟩
    obtain ⟨hlt, x0, x1, x2, x3, x4⟩ := hin.ext hx1
    go_wp2_with fail
    go_ret2
    exact ⟨rfl, hx1.box⟩
end Go.Proofs.Ytjpmiokbgpggbaa
