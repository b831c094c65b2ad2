/-
  The events of a room, of the reference; RoomEvents of both. RoomEvents of the program and of the reference.
-/
import Derived.Test.YtjpmiokbgpggbaaRa37
import Derived.Test.YtjpmiokbgpggbaaRa05
namespace Go.Proofs.Ytjpmiokbgpggbaa
open Go.RowKit
/-- a new list -/
def RetOwn {α : Type} (t : TypeId) (f : α → List Value) (L : List α) (w : World) (e : Ending) (w' : World) : Prop :=
  ∃ A n c g, e = .returned (.slice A n c) ∧ n ≤ c ∧ c ≤ 9223372036854775807 ∧ w.heap.size ≤ g ∧ OwnS w' g t f A n L ∧ Ext w w'
theorem SameC.of_exts {cs : List (Nat × Nat)} {W0 w w' : World} (h : Ext W0 w) (h' : Ext W0 w') (hb : ∀ q ∈ cs, q.1 < W0.heap.size) : SameC cs w w' := fun q hq => (h'.cell q.1 q.2 (hb q hq)).trans (h.cell q.1 q.2 (hb q hq)).symm
theorem s5_lt {α : Type} {w : World} {size : Nat} {f : α → List Value} {b off : Nat} {n c : Nat} {xs : List α} (h : SliceOf w size f (some ⟨b, off, none⟩) n c xs) (hn : 0 < n) : b < w.heap.size := by
  obtain ⟨b', off', hA, hb, _⟩ := h.2.2.2 hn
  simp only [Option.some.injEq, Addr.mk.injEq] at hA
  obtain ⟨rfl, rfl, -⟩ := hA
  exact hb
set_option maxHeartbeats 4000000 in
theorem c_l33Events (A1 A2 A3 A4 A5 : Option Addr) (n1 c1 n2 c2 n3 c3 n4 c4 n5 c5 : Nat) (r : Room) (w : World) (hat : RoomAt w A1 A2 A3 A4 A5 n1 c1 n2 c2 n3 c3 n4 c4 n5 c5 r) (hf : RoomFits r) :
    Calls Try.prog 79 #[.agg #[.slice A1 n1 c1, .slice A2 n2 c2, .slice A3 n3 c3, .slice A4 n4 c4, .slice A5 n5 c5]] w (RetOwn 101 Event.cells (roomEv r) w) := by
  obtain ⟨W0, HW⟩ : ∃ W0, Hid (W0 = w.alloc (.cells #[.slice A1 n1 c1, .slice A2 n2 c2, .slice A3 n3 c3, .slice A4 n4 c4, .slice A5 n5 c5] 41)) := ⟨_, hide rfl⟩
  have hin : RoomIn W0 w.heap.size A1 A2 A3 A4 A5 n1 c1 n2 c2 n3 c3 n4 c4 n5 c5 := by rw [HW.out]; exact RoomIn.new w A1 A2 A3 A4 A5 n1 c1 n2 c2 n3 c3 n4 c4 n5 c5 41
  have hw0 : Ext w W0 := by rw [HW.out]; exact Ext.alloc _ _
  have hm4 := hat.s4.max
  have hc4 := hat.s4.cap
  have hm5 := hat.s5.max
  have hc5 := hat.s5.cap
  have h200 : n4 ≤ 200 := by rw [hat.s4.len]; exact hf.L
  have h48 : n5 ≤ 48 := by rw [hat.s5.len]; exact hf.rs
  have HL5 := hide hat.s5.len
  have HL4 := hide hat.s4.len
  have hsz0 : W0.heap.size = w.heap.size + 1 := by rw [HW.out]; simp
  have HSZ := hide hsz0
  clear hsz0
  go_enter Try.func79, Try.ntmps79
  go_wp2_with fail
  go_loopw [3, 4] (fun v i wr => ∃ (k : Nat) (E : List Event), k ≤ n4 ∧ i = .int .i64 k ∧ E.length ≤ k ∧ Hid (E = (r.L.take k).map nomEv) ∧ OwnL wr (w.heap.size + 1) 101 5 Event.cells v E ∧ Ext W0 wr) (fun _ i _ => n4 - (intOf i).toNat)
  case atStart => exact ⟨0, [], Nat.zero_le _, rfl, by simp, hide rfl, (by have h := OwnL.empty (w.alloc (.cells #[.slice A1 n1 c1, .slice A2 n2 c2, .slice A3 n3 c3, .slice A4 n4 c4, .slice A5 n5 c5] 41)) (w.heap.size + 1) 101 5 Event.cells (by simp); rw [World.size_alloc] at h; exact h), by rw [HW.out]; exact Ext.alloc _ _⟩
  case round =>
    obtain ⟨k, E, hk, rfl, hE, HE, hown, hx⟩ := hrel
    have hxz := hx.size
    rw [HSZ.out] at hxz
    obtain ⟨hlt0, x0, x1, x2, x3, x4⟩ := hin.ext hx
    by_cases hlt : k < n4
    · obtain ⟨b, off, p, rfl, hb, hxk, hc⟩ := (hat.s4.ext (hw0.trans hx)).get hlt
      have HX := hide hxk
      clear hxk
      have hc0 := hc 0 _ rfl
      have hc1 := hc 1 _ rfl
      have hc2 := hc 2 _ rfl
      have hc3 := hc 3 _ rfl
      clear hc
      simp only [Nat.add_zero] at hc0
      go_wp2_with (at_builtin; go_must (refine wpList_append_one rfl _ _ 63 rfl (w.heap.size + 1) 101 _ 5 40 Try.underlying63 event_info rfl (by decide) Event.cells event_len event_one _ _ rfl (hown.ext ((Ext.alloc _ _).and_alloc _)) _ (nomEv p) rfl _ rfl (by first | rfl | simp) (by omega) (by omega) (by first | omega | (simp; omega)) ?_))
      intro v1 w4 hown4 hext4
      have hx4 := hext4 _ (by rw [HSZ.out]; exact Nat.le_refl _) ((hx.and_alloc _).and_alloc _)
      go_wp2_with fail
      go_roundw
      case rel => exact ⟨k + 1, _, by omega, by go_num, by simp; omega, hide (by rw [take_one HX.out, List.map_append, HE.out]; rfl), hown4, hx4⟩
      case measure => simp [intOf]; omega
    · obtain rfl : n4 = k := by omega
      have HE0 := hide (show E = r.L.map nomEv by rw [HE.out, HL4.out, List.take_length])
      clear HE
      go_wp2_with fail
      clear hlt0 x0 x1 x2 x3 x4
      go_loopw [3, 6] (fun v i wr => ∃ (k : Nat) (E : List Event), k ≤ n5 ∧ i = .int .i64 k ∧ E.length ≤ 200 + 49 * k ∧ Hid (E = r.L.map nomEv ++ hoursEv r.rs.length 0 ((r.rs.take k).map RS.xs)) ∧ OwnL wr (w.heap.size + 1) 101 5 Event.cells v E ∧ Ext W0 wr) (fun _ i _ => n5 - (intOf i).toNat)
      case atStart => exact ⟨0, E, Nat.zero_le _, rfl, by omega, hide (by rw [HE0.out]; simp [hoursEv]), hown, hx⟩
      case round =>
        clear hown hx hxz HE0 hE
        obtain ⟨k, E, hk, rfl, hE, HE, hown, hx⟩ := hrel
        have hxz := hx.size
        rw [HSZ.out] at hxz
        obtain ⟨hlt0, x0, x1, x2, x3, x4⟩ := hin.ext hx
        by_cases hlt : k < n5
        · obtain ⟨b, off, q, rfl, hb, hxk, hc⟩ := (hat.s5.ext (hw0.trans hx)).get hlt
          have t0 := hc 0 _ rfl
          simp only [Nat.add_zero, Nat.mul_one] at t0
          obtain ⟨qA, qn, qc, qx⟩ := q
          simp only at t0
          have hq : SliceOf w 2 Reading.cells qA qn qc qx := hat.s6 _ (List.mem_of_getElem? hxk)
          have hq48 : qn ≤ 48 := by rw [hq.len]; exact hf.xs _ (List.mem_of_getElem? hxk)
          have HQL := hide hq.len
          have hqm := hq.max
          have hqc := hq.cap
          have HX := hide hxk
          clear hxk hc
          go_wp2_with fail
          clear hlt0 x0 x1 x2 x3 x4 t0 hb
          go_loopw [3, 7] (fun v i wr => ∃ (j : Nat) (E' : List Event), j ≤ qn ∧ i = .int .i64 j ∧ E'.length ≤ 200 + 49 * k + j ∧ Hid (E' = E ++ (qx.take j).map readEv) ∧ OwnL wr (w.heap.size + 1) 101 5 Event.cells v E' ∧ Ext W0 wr) (fun _ i _ => qn - (intOf i).toNat)
          case atStart => exact ⟨0, E, Nat.zero_le _, rfl, by omega, hide (by simp), hown, hx⟩
          case round =>
            clear hown hx hxz hE
            obtain ⟨j, E', hj, rfl, hE', HE', hown, hx⟩ := hrel
            have hxz := hx.size
            rw [HSZ.out] at hxz
            obtain ⟨hlt0, x0, x1, x2, x3, x4⟩ := hin.ext hx
            have t0 := (SliceOf.at_ (hat.s5.ext (hw0.trans hx)) hlt)
            obtain ⟨q', hq', hc'⟩ := t0
            obtain rfl : (⟨qA, qn, qc, qx⟩ : RS) = q' := by have := HX.out.symm.trans hq'; injection this
            have t0 := hc' 0 _ rfl
            simp only [Nat.add_zero, Nat.mul_one] at t0
            have hb := s5_lt (hat.s5.ext (hw0.trans hx)) (Nat.lt_of_le_of_lt (Nat.zero_le _) hlt)
            clear hq' hc'
            by_cases hjlt : j < qn
            · obtain ⟨b2, off2, x, rfl, hb2, hxj, hc⟩ := (hq.ext (hw0.trans hx)).get hjlt
              have HXJ := hide hxj
              clear hxj
              have hc0 := hc 0 _ rfl
              have hc1 := hc 1 _ rfl
              clear hc
              simp only [Nat.add_zero] at hc0
              have hcs : ∀ q ∈ [(w.heap.size, 4), (b, off + k), (b2, off2 + j * 2), (b2, off2 + j * 2 + 1)], q.1 < W0.heap.size := by
                have e1 := s5_lt hat.s5 (Nat.lt_of_le_of_lt (Nat.zero_le _) hlt)
                have e2 := s5_lt hq (Nat.lt_of_le_of_lt (Nat.zero_le _) hjlt)
                intro q hq
                simp only [List.mem_cons, List.not_mem_nil, or_false] at hq
                rw [HSZ.out]
                rcases hq with rfl | rfl | rfl | rfl <;> simp only <;> omega
              have HCS := hide hcs
              clear hcs
              go_wp2_with fail
              refine wp_region_phC [(w.heap.size, 4), (b, off + k), (b2, off2 + j * 2), (b2, off2 + j * 2 + 1)] [([0, 1, 2, 3, 4, 5, 6, 7, 8, 9, 10, 11, 12, 13, 14, 15, 16, 17, 18, 19], 20), ([], 21)] [22] (by kernel_rfl) (by kernel_rfl) (by intro c a w d v h; cases d <;> exact h) ?_
              simp only [wpPhC, pickL, nthO]
              repeat (go_big_quiet_step (fail))
              refine wpQuiet_nil ?_
              go_wp2_with fail
              refine ⟨SameC.of_exts hx (hx.and_alloc _).drew HCS.out, wpQuiet_nil ?_⟩
              go_wp2_with (at_builtin; go_must (refine wpList_append_one rfl _ _ 63 rfl (w.heap.size + 1) 101 _ 5 40 Try.underlying63 event_info rfl (by decide) Event.cells event_len event_one _ _ rfl (hown.ext (Ext.alloc _ _).drew) wr.drew (readEv x) rfl _ rfl (by first | rfl | simp) (by omega) (by omega) (by first | omega | (simp; omega)) ?_))
              intro v1 w4 hown4 hext4
              have hx4 := hext4 _ (by rw [HSZ.out]; exact Nat.le_refl _) ((hx.and_alloc _).drew)
              go_wp2_with fail
              refine ⟨SameC.of_exts hx hx4 HCS.out, ?_⟩
              repeat (go_big_quiet_step (fail))
              refine wpQuiet_nil ?_
              go_wp2_with fail
              go_roundw
              case rel => exact ⟨j + 1, _, by omega, by go_num, by simp; omega, hide (by rw [take_one HXJ.out, List.map_append, HE'.out]; simp), hown4, hx4⟩
              case measure => simp [intOf]; omega
            · obtain rfl : qn = j := by omega
              have HE2 := hide (show E' = E ++ qx.map readEv by rw [HE'.out, HQL.out, List.take_length])
              clear HE'
              by_cases hlast : k + 1 < n5
              · have hd : ((k : Int) + 1 < (n5 : Int)) := by omega
                go_wp2_with (at_builtin; go_must (refine wpList_append_one rfl _ _ 63 rfl (w.heap.size + 1) 101 _ 5 40 Try.underlying63 event_info rfl (by decide) Event.cells event_len event_one _ _ rfl (hown.ext (Ext.alloc _ _)) _ (closeEv k) rfl _ rfl (by first | rfl | simp) (by omega) (by omega) (by first | omega | (simp; omega)) ?_))
                intro v1 w4 hown4 hext4
                have hx4 := hext4 _ (by rw [HSZ.out]; exact Nat.le_refl _) (hx.and_alloc _)
                go_wp2_with fail
                go_roundw
                case rel => exact ⟨k + 1, _, by omega, by go_num, by simp; omega, hide (by rw [ev_step HX.out, ← List.append_assoc, ← HE.out, HE2.out, hourEv, if_pos (by have := HL5.out; omega)]; simp), hown4, hx4⟩
                case measure => simp [intOf]; omega
              · have hd : ¬ ((k : Int) + 1 < (n5 : Int)) := by omega
                go_wp2_with fail
                go_roundw
                case rel => exact ⟨k + 1, _, by omega, by go_num, by omega, hide (by rw [ev_step HX.out, ← List.append_assoc, ← HE.out, HE2.out, hourEv, if_neg (by have := HL5.out; omega)]; simp), hown, hx⟩
                case measure => simp [intOf]; omega
        · obtain rfl : n5 = k := by omega
          have HE2 := hide (show E = roomEv r by rw [HE.out, HL5.out, List.take_length]; rfl)
          clear HE
          obtain ⟨A', c', g, hv, hg, hnc, hcm, ho⟩ := hown.own event_len (by omega)
          subst hv
          go_wp2_with fail
          go_ret
          exact ⟨A', _, c', g, rfl, hnc, hcm, by omega, by rw [← HE2.out]; exact ho, (hw0.trans hx)⟩

end Go.Proofs.Ytjpmiokbgpggbaa

namespace Go.Proofs.Ytjpmiokbgpggbaa
open Go.RowKit
def evsR (n1 : Int) (r : Room) : List Event × Int := if roomB n1 r = true then evR r else ([], 1)
theorem evR_len (r : Room) : (evR r).1.length ≤ 300 := by
  unfold evR; split
  · simp
  · simp; omega
theorem evsR_len (n1 : Int) (r : Room) : (evsR n1 r).1.length ≤ 300 := by
  unfold evsR; split
  · exact evR_len r
  · simp
theorem RetS.ext {α : Type} {t : TypeId} {f : α → List Value} {R : List α × Int} {w0 w w' : World} {e : Ending} (hx : Ext w0 w) (h : RetS t f R w e w') : RetS t f R w0 e w' := by
  obtain ⟨A, n, c, g, h1, h2, h3, h4, h5, h6⟩ := h
  exact ⟨A, n, c, g, h1, h2, h3, Nat.le_trans hx.size h4, h5, hx.trans h6⟩
set_option maxHeartbeats 1000000 in
theorem c_RoomEvents (A1 A2 A3 A4 A5 : Option Addr) (n1 c1 n2 c2 n3 c3 n4 c4 n5 c5 : Nat) (r : Room) (w : World) (hat : RoomAt w A1 A2 A3 A4 A5 n1 c1 n2 c2 n3 c3 n4 c4 n5 c5 r) :
    Calls Try.prog 30 #[.agg #[.slice A1 n1 c1, .slice A2 n2 c2, .slice A3 n3 c3, .slice A4 n4 c4, .slice A5 n5 c5]] w (RetS 101 Event.cells (evsR n1 r) w) := by
  have hin := RoomIn.new w A1 A2 A3 A4 A5 n1 c1 n2 c2 n3 c3 n4 c4 n5 c5 41
  cases hb : roomB n1 r
  · have HR := hide (show evsR n1 r = ([], 1) by unfold evsR; rw [hb]; rfl)
    go_enter Try.func30, Try.ntmps30
    go_wp2_with fail
    refine (c_IsRoom A1 A2 A3 A4 A5 n1 c1 n2 c2 n3 c3 n4 c4 n5 c5 r _ (hat.ext (Ext.alloc _ _))).mono ?_
    rw [hb]
    rintro e w1 ⟨rfl, hx1⟩
    go_wp2_with fail
    go_ret2
    exact RetS.nil_ HR.out hx1.box
  · have HR := hide (show evsR n1 r = evR r by unfold evsR; rw [hb]; rfl)
    have hf := roomFits hb
    go_enter Try.func30, Try.ntmps30
    go_wp2_with fail
    refine (c_IsRoom A1 A2 A3 A4 A5 n1 c1 n2 c2 n3 c3 n4 c4 n5 c5 r _ (hat.ext (Ext.alloc _ _))).mono ?_
    rw [hb]
    rintro e w1 ⟨rfl, hx1⟩
    obtain ⟨hlt, x0, x1, x2, x3, x4⟩ := hin.ext hx1
    go_wp2_with fail
    refine (c_roomEvents A1 A2 A3 A4 A5 n1 c1 n2 c2 n3 c3 n4 c4 n5 c5 r _ (hat.ext hx1.box) hf).mono ?_
    rintro e w2 ⟨A, n, c, g, rfl, hn, hc, hg, ho, hx2⟩
    go_wp2_with fail
    go_ret2
    rw [HR.out]
    exact RetS.ext hx1.box ⟨A, n, c, g, rfl, hn, hc, hg, ho, hx2⟩
set_option maxHeartbeats 1000000 in
theorem c_specRoomEvents (A1 A2 A3 A4 A5 : Option Addr) (n1 c1 n2 c2 n3 c3 n4 c4 n5 c5 : Nat) (r : Room) (w : World) (hat : RoomAt w A1 A2 A3 A4 A5 n1 c1 n2 c2 n3 c3 n4 c4 n5 c5 r) (hnm : ∀ x ∈ r.ns, x.name.size ≤ 1048576) :
    Calls Try.prog 32 #[.agg #[.slice A1 n1 c1, .slice A2 n2 c2, .slice A3 n3 c3, .slice A4 n4 c4, .slice A5 n5 c5]] w (RetS 101 Event.cells (evsR n1 r) w) := by
  have hin := RoomIn.new w A1 A2 A3 A4 A5 n1 c1 n2 c2 n3 c3 n4 c4 n5 c5 41
  have HNM := hide hnm
  clear hnm
  cases hb : roomB n1 r
  · have HR := hide (show evsR n1 r = ([], 1) by unfold evsR; rw [hb]; rfl)
    go_enter Try.func32, Try.ntmps32
    go_wp2_with fail
    refine (c_specIsRoom A1 A2 A3 A4 A5 n1 c1 n2 c2 n3 c3 n4 c4 n5 c5 r _ (hat.ext (Ext.alloc _ _)) HNM.out).mono ?_
    rw [hb]
    rintro e w1 ⟨rfl, hx1⟩
    go_wp2_with fail
    go_ret2
    exact RetS.nil_ HR.out hx1.box
  · have hf := roomFits hb
    have HR := hide (show evsR n1 r = evR r by unfold evsR; rw [hb]; rfl)
    go_enter Try.func32, Try.ntmps32
    go_wp2_with fail
    refine (c_specIsRoom A1 A2 A3 A4 A5 n1 c1 n2 c2 n3 c3 n4 c4 n5 c5 r _ (hat.ext (Ext.alloc _ _)) HNM.out).mono ?_
    rw [hb]
    rintro e w1 ⟨rfl, hx1⟩
    obtain ⟨hlt, x0, x1, x2, x3, x4⟩ := hin.ext hx1
    go_wp2_with fail
    refine (c_l33Events A1 A2 A3 A4 A5 n1 c1 n2 c2 n3 c3 n4 c4 n5 c5 r _ (hat.ext hx1.box) hf).mono ?_
    rintro e w2 ⟨A, n, c, g, rfl, hn, hc, hg, ho, hx2⟩
    have HL := hide ho.1
    by_cases h300 : 300 < n
    · have hd : (300 : Int) < (n : Int) := by omega
      have HR2 := hide (show evsR n1 r = ([], 3) by rw [HR.out]; unfold evR; rw [← HL.out, if_pos h300])
      go_wp2_with fail
      go_ret2
      exact RetS.nil_ HR2.out (hx1.box.trans hx2)
    · have hd : ¬ (300 : Int) < (n : Int) := by omega
      have HR2 := hide (show evsR n1 r = (roomEv r, 0) by rw [HR.out]; unfold evR; rw [← HL.out, if_neg h300])
      go_wp2_with fail
      go_ret2
      rw [HR2.out]
      exact RetS.ext hx1.box ⟨A, n, c, g, rfl, hn, hc, hg, ho, hx2⟩
end Go.Proofs.Ytjpmiokbgpggbaa
