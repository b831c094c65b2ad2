/-
  The events of a room, of the program and of the reference.
-/
import Derived.Test.YtjpmiokbgpggbaaGreatRb16
import Derived.Test.YtjpmiokbgpggbaaGreatRb28
import Derived.Test.YtjpmiokbgpggbaaGreatRb34
import Derived.Test.YtjpmiokbgpggbaaGreatRb02
namespace Go.Proofs.YtjpmiokbgpggbaaGreat
open Go.RowKit
def nomEv (x : Nomination) : Event := ⟨1, x.contract, x.hour, x.sent, x.amount⟩
def readEv (x : Reading) : Event := ⟨2, x.node, x.amount, 0, 0⟩
def closeEv (k : Nat) : Event := ⟨3, k, 0, 0, 0⟩
def hourEv (m k : Nat) (xs : List Reading) : List Event := xs.map readEv ++ if k + 1 < m then [closeEv k] else []
def hoursEv (m : Nat) : Nat → List (List Reading) → List Event
  | _, [] => []
  | k, xs :: rest => hourEv m k xs ++ hoursEv m (k + 1) rest
theorem hoursEv_snoc (m k : Nat) (l : List (List Reading)) (xs : List Reading) : hoursEv m k (l ++ [xs]) = hoursEv m k l ++ hourEv m (k + l.length) xs := by
  induction l generalizing k with
  | nil => simp [hoursEv]
  | cons y l ih =>
    simp only [List.cons_append, hoursEv, ih, List.length_cons, List.append_assoc]
    rw [show k + 1 + l.length = k + (l.length + 1) by omega]
def roomEv (r : Room) : List Event := r.L.map nomEv ++ hoursEv r.rs.length 0 (r.rs.map RS.xs)
def evR (r : Room) : List Event × Int := if 300 < (roomEv r).length then ([], 3) else (roomEv r, 0)
theorem take_one {α : Type} {l : List α} {k : Nat} {x : α} (h : l[k]? = some x) : l.take (k + 1) = l.take k ++ [x] := by
  rw [List.take_add_one, h]; rfl
theorem ev_step {m : Nat} {rs : List RS} {k : Nat} {q : RS} (h : rs[k]? = some q) : hoursEv m 0 ((rs.take (k + 1)).map RS.xs) = hoursEv m 0 ((rs.take k).map RS.xs) ++ hourEv m k q.xs := by
  rw [take_one h, List.map_append, List.map_singleton, hoursEv_snoc]
  have : ((rs.take k).map RS.xs).length = k := by rw [List.length_map, List.length_take]; have := (List.getElem?_eq_some_iff.1 h).1; omega
  rw [this, Nat.zero_add]
theorem event_one (y : Event) : ∀ u ∈ y.cells, u.oneCell' = true := by intro u hu; simp [Event.cells] at hu; rcases hu with rfl | rfl | rfl | rfl | rfl <;> rfl
/-- what is known of a valid room's sizes -/
structure RoomFits (r : Room) : Prop where
  L : r.L.length ≤ 200
  rs : r.rs.length ≤ 48
  xs : ∀ q ∈ r.rs, q.xs.length ≤ 48
theorem roomFits {n1 : Int} {r : Room} (h : roomB n1 r = true) : RoomFits r := by
  simp only [roomB, Bool.and_eq_true, nomsOk, nomsB, decide_eq_true_eq, inB_true, List.all_eq_true] at h
  obtain ⟨⟨⟨_, h1, _⟩, h2⟩, h3⟩ := h
  refine ⟨h1, by omega, fun q hq => ?_⟩
  have := h3 q hq
  simp only [readsB, Bool.and_eq_true, decide_eq_true_eq] at this
  exact this.1
set_option maxHeartbeats 4000000 in
theorem c_roomEvents (A1 A2 A3 A4 A5 : Option Addr) (n1 c1 n2 c2 n3 c3 n4 c4 n5 c5 : Nat) (r : Room) (w : World) (hat : RoomAt w A1 A2 A3 A4 A5 n1 c1 n2 c2 n3 c3 n4 c4 n5 c5 r) (hf : RoomFits r) :
    Calls Tryz.prog 49 #[.agg #[.slice A1 n1 c1, .slice A2 n2 c2, .slice A3 n3 c3, .slice A4 n4 c4, .slice A5 n5 c5]] w (RetS 34 Event.cells (evR r) w) := by
  obtain ⟨W0, HW⟩ : ∃ W0, Hid (W0 = w.alloc (.cells #[.slice A1 n1 c1, .slice A2 n2 c2, .slice A3 n3 c3, .slice A4 n4 c4, .slice A5 n5 c5] 32)) := ⟨_, hide rfl⟩
  have hin : RoomIn W0 w.heap.size A1 A2 A3 A4 A5 n1 c1 n2 c2 n3 c3 n4 c4 n5 c5 := by rw [HW.out]; exact RoomIn.new w A1 A2 A3 A4 A5 n1 c1 n2 c2 n3 c3 n4 c4 n5 c5 32
  have hw0 : Ext w W0 := by rw [HW.out]; exact Ext.alloc _ _
  have hm4 := hat.s4.max
  have hc4 := hat.s4.cap
  have hm5 := hat.s5.max
  have hc5 := hat.s5.cap
  have h200 : n4 ≤ 200 := by rw [hat.s4.len]; exact hf.L
  have h48 : n5 ≤ 48 := by rw [hat.s5.len]; exact hf.rs
  have HL5 := hide hat.s5.len
  have HL4 := hide hat.s4.len
  have hsz0 : W0.heap.size = w.heap.size + 1 := by rw [HW.out]; simp
  have HSZ := hide hsz0
  clear hsz0
  go_enter Tryz.func49, Tryz.ntmps49
  go_wp2_with fail
  go_loopw [4, 14] (fun v i wr => ∃ (k : Nat) (E : List Event), k ≤ n4 ∧ i = .int .i64 k ∧ E.length ≤ k ∧ Hid (E = (r.L.take k).map nomEv) ∧ OwnL wr (w.heap.size + 1) 34 5 Event.cells v E ∧ Ext W0 wr) (fun _ i _ => n4 - (intOf i).toNat)
  case atStart => exact ⟨0, [], Nat.zero_le _, rfl, by simp, hide rfl, OwnL.nil_ _ _ _ _ _, by rw [HW.out]; exact Ext.refl _⟩
  case round =>
    obtain ⟨k, E, hk, rfl, hE, HE, hown, hx⟩ := hrel
    have hxz := hx.size
    rw [HSZ.out] at hxz
    by_cases hlt : k < n4
    · obtain ⟨b, off, p, rfl, hb, hxk, hc⟩ := (hat.s4.ext (hw0.trans hx)).get hlt
      have HX := hide hxk
      clear hxk
      have hc0 := hc 0 _ rfl
      have hc1 := hc 1 _ rfl
      have hc2 := hc 2 _ rfl
      have hc3 := hc 3 _ rfl
      clear hc
      simp only [Nat.add_zero] at hc0
      go_wp2_with (at_builtin; go_must (refine wpList_append_one rfl _ _ 82 rfl (w.heap.size + 1) 34 _ 5 40 Tryz.underlying82 event_info rfl (by decide) Event.cells event_len event_one _ _ rfl (hown.ext ((Ext.alloc _ _).and_alloc _)) _ (nomEv p) rfl _ rfl (by first | rfl | simp) (by omega) (by omega) (by first | omega | (simp; omega)) ?_))
      intro v1 w4 hown4 hext4
      have hx4 := hext4 _ (by rw [HSZ.out]; exact Nat.le_refl _) ((hx.and_alloc _).and_alloc _)
      go_wp2_with fail
      go_roundw
      case rel => exact ⟨k + 1, _, by omega, by go_num, by simp; omega, hide (by rw [take_one HX.out, List.map_append, HE.out]; rfl), hown4, hx4⟩
      case measure => simp [intOf]; omega
    · obtain rfl : n4 = k := by omega
      have HE0 := hide (show E = r.L.map nomEv by rw [HE.out, HL4.out, List.take_length])
      clear HE
      obtain ⟨hlt0, x0, x1, x2, x3, x4⟩ := hin.ext hx
      go_wp2_with fail
      clear hlt0 x0 x1 x2 x3 x4
      go_loopw [4, 34] (fun v i wr => ∃ (k : Nat) (E : List Event), k ≤ n5 ∧ i = .int .i64 k ∧ E.length ≤ 200 + 49 * k ∧ Hid (E = r.L.map nomEv ++ hoursEv r.rs.length 0 ((r.rs.take k).map RS.xs)) ∧ OwnL wr (w.heap.size + 1) 34 5 Event.cells v E ∧ Ext W0 wr) (fun _ i _ => n5 - (intOf i).toNat)
      case atStart => exact ⟨0, E, Nat.zero_le _, rfl, by omega, hide (by rw [HE0.out]; simp [hoursEv]), hown, hx⟩
      case round =>
        clear hown hx hxz HE0 hE
        obtain ⟨k, E, hk, rfl, hE, HE, hown, hx⟩ := hrel
        have hxz := hx.size
        rw [HSZ.out] at hxz
        obtain ⟨hlt0, x0, x1, x2, x3, x4⟩ := hin.ext hx
        by_cases hlt : k < n5
        · obtain ⟨b, off, q, rfl, hb, hxk, hc⟩ := (hat.s5.ext (hw0.trans hx)).get hlt
          have t0 := hc 0 _ rfl
          simp only [Nat.add_zero, Nat.mul_one] at t0
          obtain ⟨qA, qn, qc, qx⟩ := q
          simp only at t0
          have hq : SliceOf w 2 Reading.cells qA qn qc qx := hat.s6 _ (List.mem_of_getElem? hxk)
          have hq48 : qn ≤ 48 := by rw [hq.len]; exact hf.xs _ (List.mem_of_getElem? hxk)
          have HQL := hide hq.len
          have hqm := hq.max
          have hqc := hq.cap
          have HX := hide hxk
          clear hxk hc
          go_wp2_with fail
          clear hlt0 x0 x1 x2 x3 x4
          go_loopw [4, 41] (fun v i wr => ∃ (j : Nat) (E' : List Event), j ≤ qn ∧ i = .int .i64 j ∧ E'.length ≤ 200 + 49 * k + j ∧ Hid (E' = E ++ (qx.take j).map readEv) ∧ OwnL wr (w.heap.size + 1) 34 5 Event.cells v E' ∧ Ext W0 wr) (fun _ i _ => qn - (intOf i).toNat)
          case atStart => exact ⟨0, E, Nat.zero_le _, rfl, by omega, hide (by simp), hown, hx⟩
          case round =>
            clear hown hx hxz t0 hb hE
            obtain ⟨j, E', hj, rfl, hE', HE', hown, hx⟩ := hrel
            have hxz := hx.size
            rw [HSZ.out] at hxz
            obtain ⟨hlt0, x0, x1, x2, x3, x4⟩ := hin.ext hx
            by_cases hjlt : j < qn
            · clear hlt0 x0 x1 x2 x3 x4
              obtain ⟨b2, off2, x, rfl, hb2, hxj, hc⟩ := (hq.ext (hw0.trans hx)).get hjlt
              have HXJ := hide hxj
              clear hxj
              have hc0 := hc 0 _ rfl
              have hc1 := hc 1 _ rfl
              clear hc
              simp only [Nat.add_zero] at hc0
              go_wp2_with (at_builtin; go_must (refine wpList_append_one rfl _ _ 82 rfl (w.heap.size + 1) 34 _ 5 40 Tryz.underlying82 event_info rfl (by decide) Event.cells event_len event_one _ _ rfl (hown.ext ((Ext.alloc _ _).and_alloc _)) _ (readEv x) rfl _ rfl (by first | rfl | simp) (by omega) (by omega) (by first | omega | (simp; omega)) ?_))
              intro v1 w4 hown4 hext4
              have hx4 := hext4 _ (by rw [HSZ.out]; exact Nat.le_refl _) ((hx.and_alloc _).and_alloc _)
              go_wp2_with fail
              go_roundw
              case rel => exact ⟨j + 1, _, by omega, by go_num, by simp; omega, hide (by rw [take_one HXJ.out, List.map_append, HE'.out]; simp), hown4, hx4⟩
              case measure => simp [intOf]; omega
            · obtain rfl : qn = j := by omega
              have HE2 := hide (show E' = E ++ qx.map readEv by rw [HE'.out, HQL.out, List.take_length])
              clear HE'
              by_cases hlast : k + 1 < n5
              · have hd : ((k : Int) < (n5 : Int) - 1) := by omega
                go_wp2_with (at_builtin; go_must (refine wpList_append_one rfl _ _ 82 rfl (w.heap.size + 1) 34 _ 5 40 Tryz.underlying82 event_info rfl (by decide) Event.cells event_len event_one _ _ rfl (hown.ext (Ext.alloc _ _)) _ (closeEv k) rfl _ rfl (by first | rfl | simp) (by omega) (by omega) (by first | omega | (simp; omega)) ?_))
                intro v1 w4 hown4 hext4
                have hx4 := hext4 _ (by rw [HSZ.out]; exact Nat.le_refl _) (hx.and_alloc _)
                go_wp2_with fail
                go_roundw
                case rel => exact ⟨k + 1, _, by omega, by go_num, by simp; omega, hide (by rw [ev_step HX.out, ← List.append_assoc, ← HE.out, HE2.out, hourEv, if_pos (by have := HL5.out; omega)]; simp), hown4, hx4⟩
                case measure => simp [intOf]; omega
              · have hd : ¬ ((k : Int) < (n5 : Int) - 1) := by omega
                go_wp2_with fail
                go_roundw
                case rel => exact ⟨k + 1, _, by omega, by go_num, by omega, hide (by rw [ev_step HX.out, ← List.append_assoc, ← HE.out, HE2.out, hourEv, if_neg (by have := HL5.out; omega)]; simp), hown, hx⟩
                case measure => simp [intOf]; omega
        · obtain rfl : n5 = k := by omega
          have HE2 := hide (show E = roomEv r by rw [HE.out, HL5.out, List.take_length]; rfl)
          clear HE
          obtain ⟨A', c', g, hv, hg, hnc, hcm, ho⟩ := hown.own event_len (by omega)
          subst hv
          by_cases h300 : 300 < E.length
          · have hd : (300 : Int) < (E.length : Int) := by omega
            have HR := hide (show evR r = ([], 3) by unfold evR; rw [← HE2.out, if_pos h300])
            go_wp2_with fail
            go_ret2
            exact RetS.nil_ HR.out (hw0.trans hx)
          · have hd : ¬ (300 : Int) < (E.length : Int) := by omega
            have HR := hide (show evR r = (E, 0) by unfold evR; rw [← HE2.out, if_neg h300])
            go_wp2_with fail
            go_ret2
            rw [HR.out]
            exact ⟨A', _, c', g, rfl, hnc, hcm, by omega, ho, (hw0.trans hx)⟩
end Go.Proofs.YtjpmiokbgpggbaaGreat
