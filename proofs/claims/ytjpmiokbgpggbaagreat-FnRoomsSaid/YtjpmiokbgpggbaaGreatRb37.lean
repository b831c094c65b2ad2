/-
  l33Own of the reference: a copy of a room.
-/
import Derived.Test.YtjpmiokbgpggbaaGreatRb36
import Derived.Test.YtjpmiokbgpggbaaGreatRb04
import Derived.Test.YtjpmiokbgpggbaaGreatRb17
namespace Go.Proofs.YtjpmiokbgpggbaaGreat
open Go.RowKit
/-- a box of a network, by its block -/
structure NBox (w : World) (b : Nat) (A1 A2 : Option Addr) (n1 c1 n2 c2 : Nat) : Prop where
  lt : b < w.heap.size
  x0 : w.cell? ⟨b, 0, none⟩ = some (.slice A1 n1 c1)
  x1 : w.cell? ⟨b, 1, none⟩ = some (.slice A2 n2 c2)
theorem NBox.ext {w w' : World} {b : Nat} {A1 A2 : Option Addr} {n1 c1 n2 c2 : Nat} (h : NBox w b A1 A2 n1 c1 n2 c2) (hx : Ext w w') : NBox w' b A1 A2 n1 c1 n2 c2 :=
  ⟨Nat.lt_of_lt_of_le h.lt hx.size, (hx.cell _ _ h.lt).trans h.x0, (hx.cell _ _ h.lt).trans h.x1⟩
theorem NBox.new (w : World) (A1 A2 : Option Addr) (n1 c1 n2 c2 : Nat) (t : TypeId) : NBox (w.alloc (.cells #[.slice A1 n1 c1, .slice A2 n2 c2] t)) w.heap.size A1 A2 n1 c1 n2 c2 := by
  have hR := Row.new w t [.slice A1 n1 c1, .slice A2 n2 c2]
  exact ⟨by simp, hR.cell 0, hR.cell 1⟩
/-- a network in blocks of the call's own -/
def NetOwn (lo : Nat) (ns : List Node) (ps : List Pipe) : Value → World → Prop := fun v w => ∃ B1 k1 d1 B2 k2 d2, v = .agg #[.slice B1 k1 d1, .slice B2 k2 d2] ∧ OwnA w 115 Node.cells B1 k1 d1 ns ∧ OwnA w 117 Pipe.cells B2 k2 d2 ps ∧ (∀ q, blkOf B1 k1 = some q → lo ≤ q) ∧ (∀ q, blkOf B2 k2 = some q → lo ≤ q)
theorem stNetOwn (lo : Nat) (ns : List Node) (ps : List Pipe) : stK (NetOwn lo ns ps) := fun _ _ _ ⟨B1, k1, d1, B2, k2, d2, h1, h2, h3, h4⟩ hx => ⟨B1, k1, d1, B2, k2, d2, h1, h2.ext hx, h3.ext hx, h4⟩
theorem NetOwn.le {lo lo' : Nat} {ns : List Node} {ps : List Pipe} {v : Value} {w : World} (h : NetOwn lo ns ps v w) (hl : lo' ≤ lo) : NetOwn lo' ns ps v w := by
  obtain ⟨B1, k1, d1, B2, k2, d2, h1, h2, h3, h4, h5⟩ := h
  exact ⟨B1, k1, d1, B2, k2, d2, h1, h2, h3, fun q hq => Nat.le_trans hl (h4 q hq), fun q hq => Nat.le_trans hl (h5 q hq)⟩
set_option maxHeartbeats 4000000 in
theorem o_l02Own (A1 A2 : Option Addr) (n1 c1 n2 c2 : Nat) (ns : List Node) (ps : List Pipe) (w : World) (h1 : SliceOf w 3 Node.cells A1 n1 c1 ns) (h2 : SliceOf w 5 Pipe.cells A2 n2 c2 ps) (m1 : n1 ≤ 1048576) (m2 : n2 ≤ 1048576) :
    Calls Tryz.prog 88 #[.agg #[.slice A1 n1 c1, .slice A2 n2 c2]] w (fun e w' => ∃ v, e = .returned v ∧ NetOwn w.heap.size ns ps v w' ∧ Ext w w') := by
  have hin := (NBox.new w A1 A2 n1 c1 n2 c2 27).ext (Ext.alloc _ (.cells #[.slice none 0 0, .slice none 0 0] 27))
  have hz0 := Row.new (w.alloc (.cells #[.slice A1 n1 c1, .slice A2 n2 c2] 27)) 27 [.slice none 0 0, .slice none 0 0]
  obtain ⟨W, HW⟩ : ∃ W, Hid (W = (w.alloc (.cells #[.slice A1 n1 c1, .slice A2 n2 c2] 27)).alloc (.cells #[.slice none 0 0, .slice none 0 0] 27)) := ⟨_, hide rfl⟩
  have x0 : Ext w W := by rw [HW.out]; exact (Ext.alloc _ _).and_alloc _
  have hza : W.heap.size ≤ w.heap.size + 2 := by rw [HW.out]; simp
  have hzb : w.heap.size + 2 ≤ W.heap.size := by rw [HW.out]; simp
  replace hin : NBox W w.heap.size A1 A2 n1 c1 n2 c2 := by rw [HW.out]; exact hin
  replace hz0 : Row W (w.heap.size + 1) 27 [.slice none 0 0, .slice none 0 0] := by rw [HW.out]; simpa using hz0
  go_enter Tryz.func88, Tryz.ntmps88
  go_wp2_with fail
  rw [← HW.out]
  refine wp_region_K [KE W.heap.size 115, KC (.pointer (some ⟨w.heap.size, 0, none⟩)), KC (.slice A1 n1 c1), KL W.heap.size 115 3 Node.cells ns, KE W.heap.size 117, KC (.pointer (some ⟨w.heap.size, 1, none⟩)), KC (.slice A2 n2 c2), KL W.heap.size 117 5 Pipe.cells ps, NetOwn W.heap.size ns ps]
    [0, 1, 2, 3, 4, 5, 6, 7, 8] [[], [], [1], [0, 1, 2], [], [], [5], [4, 5, 6], [0, 1, 2, 3, 4, 5, 6, 7], [0, 1, 2, 3, 4, 5, 6, 7, 8]] [] (.one [] 9 (.last [])) (by kernel_rfl) (by kernel_rfl) (by intro c a w d v h; cases d <;> exact h) (by simp) ⟨stKE _ _, stKC _, stKC _, stKL _ _ _ _ _, stKE _ _, stKC _, stKC _, stKL _ _ _ _ _, stNetOwn _ _ _, trivial⟩ ?_ ?_
  · refine ⟨?_, ?_, ?_, ?_, ?_, ?_, ?_, ?_, ?_, trivial⟩
    · intro ts wx hts hX hd
      obtain ⟨t0, ts0, rfl, hts0⟩ := vcons hts
      obtain ⟨t1, ts1, rfl, hts1⟩ := vcons hts0
      obtain ⟨t2, ts2, rfl, hts2⟩ := vcons hts1
      obtain ⟨t3, ts3, rfl, hts3⟩ := vcons hts2
      obtain ⟨t4, ts4, rfl, hts4⟩ := vcons hts3
      obtain ⟨t5, ts5, rfl, hts5⟩ := vcons hts4
      obtain ⟨t6, ts6, rfl, hts6⟩ := vcons hts5
      obtain ⟨t7, ts7, rfl, hts7⟩ := vcons hts6
      obtain ⟨t8, ts8, rfl, hts8⟩ := vcons hts7
      obtain ⟨t9, ts9, rfl, hts9⟩ := vcons hts8
      obtain rfl := vnil hts9
      clear hts hts0 hts1 hts2 hts3 hts4 hts5 hts6 hts7 hts8 hts9
      simp only [putAll, nthO, Act.put, List.setIfInBounds_toArray, List.set_cons_succ, List.set_cons_zero]
      go_wp2_with fail
      exact ⟨Ext.alloc _ _, _, rfl, ⟨_, rfl, Row.new _ _ _, hX.size⟩⟩
    · intro ts wx hts hX hd
      obtain ⟨t0, ts0, rfl, hts0⟩ := vcons hts
      obtain ⟨t1, ts1, rfl, hts1⟩ := vcons hts0
      obtain ⟨t2, ts2, rfl, hts2⟩ := vcons hts1
      obtain ⟨t3, ts3, rfl, hts3⟩ := vcons hts2
      obtain ⟨t4, ts4, rfl, hts4⟩ := vcons hts3
      obtain ⟨t5, ts5, rfl, hts5⟩ := vcons hts4
      obtain ⟨t6, ts6, rfl, hts6⟩ := vcons hts5
      obtain ⟨t7, ts7, rfl, hts7⟩ := vcons hts6
      obtain ⟨t8, ts8, rfl, hts8⟩ := vcons hts7
      obtain ⟨t9, ts9, rfl, hts9⟩ := vcons hts8
      obtain rfl := vnil hts9
      clear hts hts0 hts1 hts2 hts3 hts4 hts5 hts6 hts7 hts8 hts9
      simp only [putAll, nthO, Act.put, List.setIfInBounds_toArray, List.set_cons_succ, List.set_cons_zero]
      go_wp2_with fail
      exact ⟨Ext.refl _, _, rfl, rfl⟩
    · intro ts wx hts hX hd
      obtain ⟨t0, ts0, rfl, hts0⟩ := vcons hts
      obtain ⟨t1, ts1, rfl, hts1⟩ := vcons hts0
      obtain ⟨t2, ts2, rfl, hts2⟩ := vcons hts1
      obtain ⟨t3, ts3, rfl, hts3⟩ := vcons hts2
      obtain ⟨t4, ts4, rfl, hts4⟩ := vcons hts3
      obtain ⟨t5, ts5, rfl, hts5⟩ := vcons hts4
      obtain ⟨t6, ts6, rfl, hts6⟩ := vcons hts5
      obtain ⟨t7, ts7, rfl, hts7⟩ := vcons hts6
      obtain ⟨t8, ts8, rfl, hts8⟩ := vcons hts7
      obtain ⟨t9, ts9, rfl, hts9⟩ := vcons hts8
      obtain rfl := vnil hts9
      clear hts hts0 hts1 hts2 hts3 hts4 hts5 hts6 hts7 hts8 hts9
      simp only [putAll, nthO, Act.put, List.setIfInBounds_toArray, List.set_cons_succ, List.set_cons_zero]
      obtain ⟨rfl, _⟩ := hd
      obtain ⟨hlt, y0, y1⟩ := hin.ext hX
      go_wp2_with fail
      exact ⟨Ext.refl _, _, rfl, rfl⟩
    · intro ts wx hts hX hd
      obtain ⟨t0, ts0, rfl, hts0⟩ := vcons hts
      obtain ⟨t1, ts1, rfl, hts1⟩ := vcons hts0
      obtain ⟨t2, ts2, rfl, hts2⟩ := vcons hts1
      obtain ⟨t3, ts3, rfl, hts3⟩ := vcons hts2
      obtain ⟨t4, ts4, rfl, hts4⟩ := vcons hts3
      obtain ⟨t5, ts5, rfl, hts5⟩ := vcons hts4
      obtain ⟨t6, ts6, rfl, hts6⟩ := vcons hts5
      obtain ⟨t7, ts7, rfl, hts7⟩ := vcons hts6
      obtain ⟨t8, ts8, rfl, hts8⟩ := vcons hts7
      obtain ⟨t9, ts9, rfl, hts9⟩ := vcons hts8
      obtain rfl := vnil hts9
      clear hts hts0 hts1 hts2 hts3 hts4 hts5 hts6 hts7 hts8 hts9
      simp only [putAll, nthO, Act.put, List.setIfInBounds_toArray, List.set_cons_succ, List.set_cons_zero]
      obtain ⟨⟨g, rfl, hr, hg⟩, _, rfl, _⟩ := hd
      have hxs := h1.ext (x0.trans hX)
      have hzx := hX.size
      go_wp2_with (at_builtin; go_must (refine wpList_append_fresh rfl _ _ 24 rfl W.heap.size 115 _ 3 32 Tryz.underlying24 node_info rfl (by decide) Node.cells node_len node_one g rfl hr hg A1 n1 c1 ns rfl hxs (by omega) (by omega) hzx ?_))
      intro v3 w3 oq hx3
      go_wp2_with fail
      exact ⟨hx3, _, rfl, oq⟩
    · intro ts wx hts hX hd
      obtain ⟨t0, ts0, rfl, hts0⟩ := vcons hts
      obtain ⟨t1, ts1, rfl, hts1⟩ := vcons hts0
      obtain ⟨t2, ts2, rfl, hts2⟩ := vcons hts1
      obtain ⟨t3, ts3, rfl, hts3⟩ := vcons hts2
      obtain ⟨t4, ts4, rfl, hts4⟩ := vcons hts3
      obtain ⟨t5, ts5, rfl, hts5⟩ := vcons hts4
      obtain ⟨t6, ts6, rfl, hts6⟩ := vcons hts5
      obtain ⟨t7, ts7, rfl, hts7⟩ := vcons hts6
      obtain ⟨t8, ts8, rfl, hts8⟩ := vcons hts7
      obtain ⟨t9, ts9, rfl, hts9⟩ := vcons hts8
      obtain rfl := vnil hts9
      clear hts hts0 hts1 hts2 hts3 hts4 hts5 hts6 hts7 hts8 hts9
      simp only [putAll, nthO, Act.put, List.setIfInBounds_toArray, List.set_cons_succ, List.set_cons_zero]
      go_wp2_with fail
      exact ⟨Ext.alloc _ _, _, rfl, ⟨_, rfl, Row.new _ _ _, hX.size⟩⟩
    · intro ts wx hts hX hd
      obtain ⟨t0, ts0, rfl, hts0⟩ := vcons hts
      obtain ⟨t1, ts1, rfl, hts1⟩ := vcons hts0
      obtain ⟨t2, ts2, rfl, hts2⟩ := vcons hts1
      obtain ⟨t3, ts3, rfl, hts3⟩ := vcons hts2
      obtain ⟨t4, ts4, rfl, hts4⟩ := vcons hts3
      obtain ⟨t5, ts5, rfl, hts5⟩ := vcons hts4
      obtain ⟨t6, ts6, rfl, hts6⟩ := vcons hts5
      obtain ⟨t7, ts7, rfl, hts7⟩ := vcons hts6
      obtain ⟨t8, ts8, rfl, hts8⟩ := vcons hts7
      obtain ⟨t9, ts9, rfl, hts9⟩ := vcons hts8
      obtain rfl := vnil hts9
      clear hts hts0 hts1 hts2 hts3 hts4 hts5 hts6 hts7 hts8 hts9
      simp only [putAll, nthO, Act.put, List.setIfInBounds_toArray, List.set_cons_succ, List.set_cons_zero]
      go_wp2_with fail
      exact ⟨Ext.refl _, _, rfl, rfl⟩
    · intro ts wx hts hX hd
      obtain ⟨t0, ts0, rfl, hts0⟩ := vcons hts
      obtain ⟨t1, ts1, rfl, hts1⟩ := vcons hts0
      obtain ⟨t2, ts2, rfl, hts2⟩ := vcons hts1
      obtain ⟨t3, ts3, rfl, hts3⟩ := vcons hts2
      obtain ⟨t4, ts4, rfl, hts4⟩ := vcons hts3
      obtain ⟨t5, ts5, rfl, hts5⟩ := vcons hts4
      obtain ⟨t6, ts6, rfl, hts6⟩ := vcons hts5
      obtain ⟨t7, ts7, rfl, hts7⟩ := vcons hts6
      obtain ⟨t8, ts8, rfl, hts8⟩ := vcons hts7
      obtain ⟨t9, ts9, rfl, hts9⟩ := vcons hts8
      obtain rfl := vnil hts9
      clear hts hts0 hts1 hts2 hts3 hts4 hts5 hts6 hts7 hts8 hts9
      simp only [putAll, nthO, Act.put, List.setIfInBounds_toArray, List.set_cons_succ, List.set_cons_zero]
      obtain ⟨rfl, _⟩ := hd
      obtain ⟨hlt, y0, y1⟩ := hin.ext hX
      go_wp2_with fail
      exact ⟨Ext.refl _, _, rfl, rfl⟩
    · intro ts wx hts hX hd
      obtain ⟨t0, ts0, rfl, hts0⟩ := vcons hts
      obtain ⟨t1, ts1, rfl, hts1⟩ := vcons hts0
      obtain ⟨t2, ts2, rfl, hts2⟩ := vcons hts1
      obtain ⟨t3, ts3, rfl, hts3⟩ := vcons hts2
      obtain ⟨t4, ts4, rfl, hts4⟩ := vcons hts3
      obtain ⟨t5, ts5, rfl, hts5⟩ := vcons hts4
      obtain ⟨t6, ts6, rfl, hts6⟩ := vcons hts5
      obtain ⟨t7, ts7, rfl, hts7⟩ := vcons hts6
      obtain ⟨t8, ts8, rfl, hts8⟩ := vcons hts7
      obtain ⟨t9, ts9, rfl, hts9⟩ := vcons hts8
      obtain rfl := vnil hts9
      clear hts hts0 hts1 hts2 hts3 hts4 hts5 hts6 hts7 hts8 hts9
      simp only [putAll, nthO, Act.put, List.setIfInBounds_toArray, List.set_cons_succ, List.set_cons_zero]
      obtain ⟨⟨g, rfl, hr, hg⟩, _, rfl, _⟩ := hd
      have hxs := h2.ext (x0.trans hX)
      have hzx := hX.size
      go_wp2_with (at_builtin; go_must (refine wpList_append_fresh rfl _ _ 25 rfl W.heap.size 117 _ 5 40 Tryz.underlying25 pipe_info rfl (by decide) Pipe.cells pipe_len pipe_one g rfl hr hg A2 n2 c2 ps rfl hxs (by omega) (by omega) hzx ?_))
      intro v3 w3 oq hx3
      go_wp2_with fail
      exact ⟨hx3, _, rfl, oq⟩
    · intro ts wx hts hX hd
      obtain ⟨t0, ts0, rfl, hts0⟩ := vcons hts
      obtain ⟨t1, ts1, rfl, hts1⟩ := vcons hts0
      obtain ⟨t2, ts2, rfl, hts2⟩ := vcons hts1
      obtain ⟨t3, ts3, rfl, hts3⟩ := vcons hts2
      obtain ⟨t4, ts4, rfl, hts4⟩ := vcons hts3
      obtain ⟨t5, ts5, rfl, hts5⟩ := vcons hts4
      obtain ⟨t6, ts6, rfl, hts6⟩ := vcons hts5
      obtain ⟨t7, ts7, rfl, hts7⟩ := vcons hts6
      obtain ⟨t8, ts8, rfl, hts8⟩ := vcons hts7
      obtain ⟨t9, ts9, rfl, hts9⟩ := vcons hts8
      obtain rfl := vnil hts9
      clear hts hts0 hts1 hts2 hts3 hts4 hts5 hts6 hts7 hts8 hts9
      simp only [putAll, nthO, Act.put, List.setIfInBounds_toArray, List.set_cons_succ, List.set_cons_zero]
      obtain ⟨_, _, _, o1, _, _, _, o2, _⟩ := hd
      obtain ⟨B1, d1, rfl, p1, q1⟩ := OwnL.toA o1 node_len (by omega)
      obtain ⟨B2, d2, rfl, p2, q2⟩ := OwnL.toA o2 pipe_len (by omega)
      go_wp2_with fail
      exact ⟨Ext.refl _, _, rfl, ⟨B1, _, d1, B2, _, d2, rfl, p1, p2, q1, q2⟩⟩
  · intro ts wx hts hX hd
    obtain ⟨t0, ts0, rfl, hts0⟩ := vcons hts
    obtain ⟨t1, ts1, rfl, hts1⟩ := vcons hts0
    obtain ⟨t2, ts2, rfl, hts2⟩ := vcons hts1
    obtain ⟨t3, ts3, rfl, hts3⟩ := vcons hts2
    obtain ⟨t4, ts4, rfl, hts4⟩ := vcons hts3
    obtain ⟨t5, ts5, rfl, hts5⟩ := vcons hts4
    obtain ⟨t6, ts6, rfl, hts6⟩ := vcons hts5
    obtain ⟨t7, ts7, rfl, hts7⟩ := vcons hts6
    obtain ⟨t8, ts8, rfl, hts8⟩ := vcons hts7
    obtain ⟨t9, ts9, rfl, hts9⟩ := vcons hts8
    obtain rfl := vnil hts9
    clear hts hts0 hts1 hts2 hts3 hts4 hts5 hts6 hts7 hts8 hts9
    simp only [putAll, Act.put, List.setIfInBounds_toArray, List.set_cons_succ, List.set_cons_zero]
    obtain ⟨-, -, -, -, -, -, -, -, ⟨B1, k1, d1, B2, k2, d2, rfl, o1, o2, l1, l2⟩, -⟩ := hd
    have hzx := hz0.ext hX
    have y0 := hzx.cell 0
    have y1 := hzx.cell 1
    have f0 := hzx.frozen
    have hlt := hzx.lt
    simp only [List.getElem?_cons_zero, List.getElem?_cons_succ] at y0 y1
    simp only [wpPhT, pickL, nthO]
    refine wpQuiet_nil ?_
    go_wp2_with fail
    refine ⟨fun _ h => (by cases h), wpQuiet_nil ?_⟩
    go_wp2
    have hlo : w.heap.size ≤ W.heap.size := x0.size
    refine bodyPost_ret (v := .agg #[.slice B1 k1 d1, .slice B2 k2 d2]) (by simp [results, Tryz.results88, go_sem, y0, y1]) rfl
      ⟨_, rfl, ⟨B1, k1, d1, B2, k2, d2, rfl, (o1.far (o1.row_ne hzx (by decide)) _).far (o1.row_ne hzx (by decide)) _, (o2.far (o2.row_ne hzx (by decide)) _).far (o2.row_ne hzx (by decide)) _, fun b hb => Nat.le_trans hlo (l1 b hb), fun b hb => Nat.le_trans hlo (l2 b hb)⟩, ?_⟩
    repeat (refine Ext.setCell ?_ (by first | (simp; done) | (simp; omega) | omega) _)
    exact x0.trans hX
/-- the parts of a room in blocks of the call's own -/
def RoomParts (lo : Nat) (v5 : Value) (r : Room) : Value → World → Prop := fun v w => ∃ B1 k1 d1 B2 k2 d2 B3 k3 d3 B4 k4 d4, v = .agg #[.slice B1 k1 d1, .slice B2 k2 d2, .slice B3 k3 d3, .slice B4 k4 d4, v5] ∧ OwnA w 115 Node.cells B1 k1 d1 r.ns ∧ OwnA w 117 Pipe.cells B2 k2 d2 r.ps ∧ OwnA w 68 Contract.cells B3 k3 d3 r.xs ∧ OwnA w 70 Nomination.cells B4 k4 d4 r.L ∧
  (∀ q, blkOf B1 k1 = some q → lo ≤ q) ∧ (∀ q, blkOf B2 k2 = some q → lo ≤ q) ∧ (∀ q, blkOf B3 k3 = some q → lo ≤ q) ∧ (∀ q, blkOf B4 k4 = some q → lo ≤ q)
theorem stRoomParts (lo : Nat) (v5 : Value) (r : Room) : stK (RoomParts lo v5 r) := fun _ _ _ ⟨B1, k1, d1, B2, k2, d2, B3, k3, d3, B4, k4, d4, h1, h2, h3, h4, h5, h6⟩ hx => ⟨B1, k1, d1, B2, k2, d2, B3, k3, d3, B4, k4, d4, h1, h2.ext hx, h3.ext hx, h4.ext hx, h5.ext hx, h6⟩
set_option maxHeartbeats 8000000 in
theorem c_l33Own (A1 A2 A3 A4 A5 : Option Addr) (n1 c1 n2 c2 n3 c3 n4 c4 n5 c5 : Nat) (r : Room) (w : World) (hat : RoomAt w A1 A2 A3 A4 A5 n1 c1 n2 c2 n3 c3 n4 c4 n5 c5 r) (hf : RoomFits r) (m1 : n1 ≤ 1048576) (m2 : n2 ≤ 1048576) (m3 : n3 ≤ 1048576) :
    Calls Tryz.prog 76 #[.agg #[.slice A1 n1 c1, .slice A2 n2 c2, .slice A3 n3 c3, .slice A4 n4 c4, .slice A5 n5 c5]] w (RetLR r w) := by
  obtain ⟨W0, HW⟩ : ∃ W0, Hid ((w.alloc (.cells #[.slice A1 n1 c1, .slice A2 n2 c2, .slice A3 n3 c3, .slice A4 n4 c4, .slice A5 n5 c5] 32)).alloc (.cells #[.slice none 0 0, .slice none 0 0, .slice none 0 0, .slice none 0 0, .slice none 0 0] 32) = W0) := ⟨_, hide rfl⟩
  have hin : RoomIn W0 w.heap.size A1 A2 A3 A4 A5 n1 c1 n2 c2 n3 c3 n4 c4 n5 c5 := by rw [← HW.out]; exact (RoomIn.new w A1 A2 A3 A4 A5 n1 c1 n2 c2 n3 c3 n4 c4 n5 c5 32).ext (Ext.alloc _ _)
  have hz0 : Row W0 (w.heap.size + 1) 32 [.slice none 0 0, .slice none 0 0, .slice none 0 0, .slice none 0 0, .slice none 0 0] := by rw [← HW.out]; exact Row.new' (by simp)
  have x0 : Ext w W0 := by rw [← HW.out]; exact (Ext.alloc _ _).and_alloc _
  have hza : W0.heap.size ≤ w.heap.size + 2 := by rw [← HW.out]; simp
  have hzb : w.heap.size + 2 ≤ W0.heap.size := by rw [← HW.out]; simp
  have m4 : n4 ≤ 1048576 := by have := hf.L; rw [hat.s4.len]; omega
  have hm5 := hat.s5.max
  have hcp5 := hat.s5.cap
  have h48 : n5 ≤ 48 := by rw [hat.s5.len]; exact hf.rs
  go_enter Tryz.func76, Tryz.ntmps76
  go_wp2_with fail
  rw [HW.out]
  go_loopw [3, 4] (fun v i wr => ∃ (k : Nat) (rs' : List RS), k ≤ n5 ∧ i = .int .i64 k ∧ rs'.length ≤ k ∧ Ext W0 wr ∧ RDone wr W0.heap.size v rs' (r.rs.take k)) (fun _ i _ => n5 - (intOf i).toNat)
  case atStart => exact ⟨0, [], Nat.zero_le _, rfl, by simp, Ext.alloc _ _, ⟨own_new W0 _ _ _ _ _ (by omega) (by omega), rfl, by simp, by intro i j b _ hi; simp at hi, by intro i j b _ hi; simp at hi⟩⟩
  case round =>
    obtain ⟨k, rs', hk, rfl, hrl, hXr, hD⟩ := hrel
    have hxz := hXr.size
    obtain ⟨hlt, y0, y1, y2, y3, y4⟩ := hin.ext hXr
    obtain ⟨VA, vc, rfl, hv1, hv2⟩ := hD.o5.form
    by_cases hklt : k < n5
    · obtain ⟨b, off, q, rfl, hb, hxk, hc⟩ := (hat.s5.ext (x0.trans hXr)).get hklt
      have t0 := hc 0 _ rfl
      simp only [Nat.add_zero, Nat.mul_one] at t0
      obtain ⟨qA, qn, qc, qx⟩ := q
      simp only at t0
      have hq : SliceOf w 2 Reading.cells qA qn qc qx := hat.s6 _ (List.mem_of_getElem? hxk)
      have hq48 : qn ≤ 48 := by rw [hq.len]; exact hf.xs _ (List.mem_of_getElem? hxk)
      have HX := hide hxk
      clear hxk hc
      go_wp2_with (at_builtin; go_must (refine wpList_append_fresh rfl _ _ 72 rfl wr.heap.size 93 _ 2 16 Tryz.underlying72 reading_info rfl (by decide) Reading.cells reading_len reading_one wr.heap.size rfl (Row.new wr 93 []) (Nat.le_refl _) qA qn qc qx rfl ((hq.ext (x0.trans hXr)).ext (Ext.alloc _ _)) (by omega) (by omega) (by simp) ?_))
      intro v3 w3 oq hx3
      obtain ⟨QA, qcc, rfl, hq1, hq2⟩ := oq.form
      have hxr3 := (Ext.alloc wr _).trans hx3
      have hz33 := hxr3.size
      go_wp2_with (at_builtin; go_must (refine wpList_append_grow rfl _ _ 30 rfl W0.heap.size 72 _ 1 24 Tryz.underlying30 rs_info' rfl (by decide) RS.cells rs_len rs_one (.slice VA rs'.length vc) rs' rfl (hD.o5.ext (hxr3.and_alloc _)) (some ⟨w3.heap.size, 0, none⟩) 1 1 [⟨QA, qx.length, qcc, qx⟩] rfl (rs_one_slice (Row.new w3 72 [.slice QA qx.length qcc])) (by simp; omega) (by omega) (by first | omega | (simp; omega)) ?_))
      intro v5 w5 o5 g5
      obtain ⟨VB, vd, rfl, hv3, hv4⟩ := o5.form
      have ho3 := hD.o5.ext (hxr3.and_alloc (.cells #[.slice QA qx.length qcc] 72))
      have hX5 := (hXr.trans (hxr3.and_alloc (.cells #[.slice QA qx.length qcc] 72))).grown g5 (fun b hb => ho3.block_le hb)
      have hD5 := hD.step (hxr3.and_alloc (.cells #[.slice QA qx.length qcc] 72)) (oq.ext (Ext.alloc _ _)) hxz o5 g5 (take_map HX.out)
      have hlen5 : (rs' ++ [(⟨QA, qx.length, qcc, qx⟩ : RS)]).length = rs'.length + 1 := by simp
      rw [hlen5] at hD5
      go_wp2_with fail
      go_roundw
      case rel => exact ⟨k + 1, rs' ++ [⟨QA, qx.length, qcc, qx⟩], by omega, by go_num, by rw [hlen5]; omega, hX5, by rw [hlen5]; exact hD5⟩
      case measure => simp [intOf]; omega
    · obtain rfl : n5 = k := by omega
      have hmap : rs'.map RS.xs = r.rs.map RS.xs := by have h := hD.map; rwa [List.take_of_length_le (by rw [hat.s5.len]; exact Nat.le_refl _)] at h
      have HMAP := hide hmap
      clear hmap
      go_wp2_with fail
      refine wp_region_K [KC (.pointer (some ⟨w.heap.size, 0, none⟩)), KC (.agg #[.slice A1 n1 c1, .slice A2 n2 c2]), NetOwn wr.heap.size r.ns r.ps, KE wr.heap.size 68, KC (.pointer (some ⟨w.heap.size, 2, none⟩)), KC (.slice A3 n3 c3), KL wr.heap.size 68 8 Contract.cells r.xs, KE wr.heap.size 70, KC (.pointer (some ⟨w.heap.size, 3, none⟩)), KC (.slice A4 n4 c4), KL wr.heap.size 70 4 Nomination.cells r.L, KC (.slice VA rs'.length vc), RoomParts wr.heap.size (.slice VA rs'.length vc) r]
        [0, 1, 2, 3, 4, 5, 6, 7, 8, 9, 10, 11, 12] [[], [0], [0, 1], [], [], [4], [3, 4, 5], [], [], [8], [7, 8, 9], [], [0, 1, 2, 3, 4, 5, 6, 7, 8, 9, 10, 11], [0, 1, 2, 3, 4, 5, 6, 7, 8, 9, 10, 11, 12]] [] (.one [] 13 (.last [])) (by kernel_rfl) (by kernel_rfl) (by intro c a w d v h; cases d <;> exact h) (by simp) ⟨stKC _, stKC _, stNetOwn _ _ _, stKE _ _, stKC _, stKC _, stKL _ _ _ _ _, stKE _ _, stKC _, stKC _, stKL _ _ _ _ _, stKC _, stRoomParts _ _ _, trivial⟩ ?_ ?_
      · refine ⟨?_, ?_, ?_, ?_, ?_, ?_, ?_, ?_, ?_, ?_, ?_, ?_, ?_, trivial⟩
        · intro ts wx hts hX hd
          obtain ⟨t0, ts0, rfl, hts0⟩ := vcons hts
          obtain ⟨t1, ts1, rfl, hts1⟩ := vcons hts0
          obtain ⟨t2, ts2, rfl, hts2⟩ := vcons hts1
          obtain ⟨t3, ts3, rfl, hts3⟩ := vcons hts2
          obtain ⟨t4, ts4, rfl, hts4⟩ := vcons hts3
          obtain ⟨t5, ts5, rfl, hts5⟩ := vcons hts4
          obtain ⟨t6, ts6, rfl, hts6⟩ := vcons hts5
          obtain ⟨t7, ts7, rfl, hts7⟩ := vcons hts6
          obtain ⟨t8, ts8, rfl, hts8⟩ := vcons hts7
          obtain ⟨t9, ts9, rfl, hts9⟩ := vcons hts8
          obtain ⟨t10, ts10, rfl, hts10⟩ := vcons hts9
          obtain ⟨t11, ts11, rfl, hts11⟩ := vcons hts10
          obtain ⟨t12, ts12, rfl, hts12⟩ := vcons hts11
          obtain ⟨t13, ts13, rfl, hts13⟩ := vcons hts12
          obtain rfl := vnil hts13
          clear hts hts0 hts1 hts2 hts3 hts4 hts5 hts6 hts7 hts8 hts9 hts10 hts11 hts12 hts13
          simp only [putAll, nthO, Act.put, List.setIfInBounds_toArray, List.set_cons_succ, List.set_cons_zero]
          go_wp2_with fail
          exact ⟨Ext.refl _, _, rfl, rfl⟩
        · intro ts wx hts hX hd
          obtain ⟨t0, ts0, rfl, hts0⟩ := vcons hts
          obtain ⟨t1, ts1, rfl, hts1⟩ := vcons hts0
          obtain ⟨t2, ts2, rfl, hts2⟩ := vcons hts1
          obtain ⟨t3, ts3, rfl, hts3⟩ := vcons hts2
          obtain ⟨t4, ts4, rfl, hts4⟩ := vcons hts3
          obtain ⟨t5, ts5, rfl, hts5⟩ := vcons hts4
          obtain ⟨t6, ts6, rfl, hts6⟩ := vcons hts5
          obtain ⟨t7, ts7, rfl, hts7⟩ := vcons hts6
          obtain ⟨t8, ts8, rfl, hts8⟩ := vcons hts7
          obtain ⟨t9, ts9, rfl, hts9⟩ := vcons hts8
          obtain ⟨t10, ts10, rfl, hts10⟩ := vcons hts9
          obtain ⟨t11, ts11, rfl, hts11⟩ := vcons hts10
          obtain ⟨t12, ts12, rfl, hts12⟩ := vcons hts11
          obtain ⟨t13, ts13, rfl, hts13⟩ := vcons hts12
          obtain rfl := vnil hts13
          clear hts hts0 hts1 hts2 hts3 hts4 hts5 hts6 hts7 hts8 hts9 hts10 hts11 hts12 hts13
          simp only [putAll, nthO, Act.put, List.setIfInBounds_toArray, List.set_cons_succ, List.set_cons_zero]
          obtain ⟨rfl, _⟩ := hd
          clear hlt y0 y1 y2 y3 y4
          obtain ⟨hlt, y0, y1, y2, y3, y4⟩ := hin.ext (hXr.trans hX)
          go_wp2_with fail
          exact ⟨Ext.refl _, _, rfl, rfl⟩
        · intro ts wx hts hX hd
          obtain ⟨t0, ts0, rfl, hts0⟩ := vcons hts
          obtain ⟨t1, ts1, rfl, hts1⟩ := vcons hts0
          obtain ⟨t2, ts2, rfl, hts2⟩ := vcons hts1
          obtain ⟨t3, ts3, rfl, hts3⟩ := vcons hts2
          obtain ⟨t4, ts4, rfl, hts4⟩ := vcons hts3
          obtain ⟨t5, ts5, rfl, hts5⟩ := vcons hts4
          obtain ⟨t6, ts6, rfl, hts6⟩ := vcons hts5
          obtain ⟨t7, ts7, rfl, hts7⟩ := vcons hts6
          obtain ⟨t8, ts8, rfl, hts8⟩ := vcons hts7
          obtain ⟨t9, ts9, rfl, hts9⟩ := vcons hts8
          obtain ⟨t10, ts10, rfl, hts10⟩ := vcons hts9
          obtain ⟨t11, ts11, rfl, hts11⟩ := vcons hts10
          obtain ⟨t12, ts12, rfl, hts12⟩ := vcons hts11
          obtain ⟨t13, ts13, rfl, hts13⟩ := vcons hts12
          obtain rfl := vnil hts13
          clear hts hts0 hts1 hts2 hts3 hts4 hts5 hts6 hts7 hts8 hts9 hts10 hts11 hts12 hts13
          simp only [putAll, nthO, Act.put, List.setIfInBounds_toArray, List.set_cons_succ, List.set_cons_zero]
          obtain ⟨rfl, rfl, _⟩ := hd
          go_wp2_with fail
          refine (o_l02Own A1 A2 n1 c1 n2 c2 r.ns r.ps _ (hat.s1.ext (x0.trans (hXr.trans hX))) (hat.s2.ext (x0.trans (hXr.trans hX))) m1 m2).mono ?_
          rintro e w1 ⟨vv, rfl, o1, hx1⟩
          go_wp2_with fail
          exact ⟨hx1, _, rfl, o1.le hX.size⟩
        · intro ts wx hts hX hd
          obtain ⟨t0, ts0, rfl, hts0⟩ := vcons hts
          obtain ⟨t1, ts1, rfl, hts1⟩ := vcons hts0
          obtain ⟨t2, ts2, rfl, hts2⟩ := vcons hts1
          obtain ⟨t3, ts3, rfl, hts3⟩ := vcons hts2
          obtain ⟨t4, ts4, rfl, hts4⟩ := vcons hts3
          obtain ⟨t5, ts5, rfl, hts5⟩ := vcons hts4
          obtain ⟨t6, ts6, rfl, hts6⟩ := vcons hts5
          obtain ⟨t7, ts7, rfl, hts7⟩ := vcons hts6
          obtain ⟨t8, ts8, rfl, hts8⟩ := vcons hts7
          obtain ⟨t9, ts9, rfl, hts9⟩ := vcons hts8
          obtain ⟨t10, ts10, rfl, hts10⟩ := vcons hts9
          obtain ⟨t11, ts11, rfl, hts11⟩ := vcons hts10
          obtain ⟨t12, ts12, rfl, hts12⟩ := vcons hts11
          obtain ⟨t13, ts13, rfl, hts13⟩ := vcons hts12
          obtain rfl := vnil hts13
          clear hts hts0 hts1 hts2 hts3 hts4 hts5 hts6 hts7 hts8 hts9 hts10 hts11 hts12 hts13
          simp only [putAll, nthO, Act.put, List.setIfInBounds_toArray, List.set_cons_succ, List.set_cons_zero]
          go_wp2_with fail
          exact ⟨Ext.alloc _ _, _, rfl, ⟨_, rfl, Row.new _ _ _, hX.size⟩⟩
        · intro ts wx hts hX hd
          obtain ⟨t0, ts0, rfl, hts0⟩ := vcons hts
          obtain ⟨t1, ts1, rfl, hts1⟩ := vcons hts0
          obtain ⟨t2, ts2, rfl, hts2⟩ := vcons hts1
          obtain ⟨t3, ts3, rfl, hts3⟩ := vcons hts2
          obtain ⟨t4, ts4, rfl, hts4⟩ := vcons hts3
          obtain ⟨t5, ts5, rfl, hts5⟩ := vcons hts4
          obtain ⟨t6, ts6, rfl, hts6⟩ := vcons hts5
          obtain ⟨t7, ts7, rfl, hts7⟩ := vcons hts6
          obtain ⟨t8, ts8, rfl, hts8⟩ := vcons hts7
          obtain ⟨t9, ts9, rfl, hts9⟩ := vcons hts8
          obtain ⟨t10, ts10, rfl, hts10⟩ := vcons hts9
          obtain ⟨t11, ts11, rfl, hts11⟩ := vcons hts10
          obtain ⟨t12, ts12, rfl, hts12⟩ := vcons hts11
          obtain ⟨t13, ts13, rfl, hts13⟩ := vcons hts12
          obtain rfl := vnil hts13
          clear hts hts0 hts1 hts2 hts3 hts4 hts5 hts6 hts7 hts8 hts9 hts10 hts11 hts12 hts13
          simp only [putAll, nthO, Act.put, List.setIfInBounds_toArray, List.set_cons_succ, List.set_cons_zero]
          go_wp2_with fail
          exact ⟨Ext.refl _, _, rfl, rfl⟩
        · intro ts wx hts hX hd
          obtain ⟨t0, ts0, rfl, hts0⟩ := vcons hts
          obtain ⟨t1, ts1, rfl, hts1⟩ := vcons hts0
          obtain ⟨t2, ts2, rfl, hts2⟩ := vcons hts1
          obtain ⟨t3, ts3, rfl, hts3⟩ := vcons hts2
          obtain ⟨t4, ts4, rfl, hts4⟩ := vcons hts3
          obtain ⟨t5, ts5, rfl, hts5⟩ := vcons hts4
          obtain ⟨t6, ts6, rfl, hts6⟩ := vcons hts5
          obtain ⟨t7, ts7, rfl, hts7⟩ := vcons hts6
          obtain ⟨t8, ts8, rfl, hts8⟩ := vcons hts7
          obtain ⟨t9, ts9, rfl, hts9⟩ := vcons hts8
          obtain ⟨t10, ts10, rfl, hts10⟩ := vcons hts9
          obtain ⟨t11, ts11, rfl, hts11⟩ := vcons hts10
          obtain ⟨t12, ts12, rfl, hts12⟩ := vcons hts11
          obtain ⟨t13, ts13, rfl, hts13⟩ := vcons hts12
          obtain rfl := vnil hts13
          clear hts hts0 hts1 hts2 hts3 hts4 hts5 hts6 hts7 hts8 hts9 hts10 hts11 hts12 hts13
          simp only [putAll, nthO, Act.put, List.setIfInBounds_toArray, List.set_cons_succ, List.set_cons_zero]
          obtain ⟨rfl, _⟩ := hd
          clear hlt y0 y1 y2 y3 y4
          obtain ⟨hlt, y0, y1, y2, y3, y4⟩ := hin.ext (hXr.trans hX)
          go_wp2_with fail
          exact ⟨Ext.refl _, _, rfl, rfl⟩
        · intro ts wx hts hX hd
          obtain ⟨t0, ts0, rfl, hts0⟩ := vcons hts
          obtain ⟨t1, ts1, rfl, hts1⟩ := vcons hts0
          obtain ⟨t2, ts2, rfl, hts2⟩ := vcons hts1
          obtain ⟨t3, ts3, rfl, hts3⟩ := vcons hts2
          obtain ⟨t4, ts4, rfl, hts4⟩ := vcons hts3
          obtain ⟨t5, ts5, rfl, hts5⟩ := vcons hts4
          obtain ⟨t6, ts6, rfl, hts6⟩ := vcons hts5
          obtain ⟨t7, ts7, rfl, hts7⟩ := vcons hts6
          obtain ⟨t8, ts8, rfl, hts8⟩ := vcons hts7
          obtain ⟨t9, ts9, rfl, hts9⟩ := vcons hts8
          obtain ⟨t10, ts10, rfl, hts10⟩ := vcons hts9
          obtain ⟨t11, ts11, rfl, hts11⟩ := vcons hts10
          obtain ⟨t12, ts12, rfl, hts12⟩ := vcons hts11
          obtain ⟨t13, ts13, rfl, hts13⟩ := vcons hts12
          obtain rfl := vnil hts13
          clear hts hts0 hts1 hts2 hts3 hts4 hts5 hts6 hts7 hts8 hts9 hts10 hts11 hts12 hts13
          simp only [putAll, nthO, Act.put, List.setIfInBounds_toArray, List.set_cons_succ, List.set_cons_zero]
          obtain ⟨⟨g, rfl, hr, hg⟩, rfl, rfl, _⟩ := hd
          have hxs := hat.s3.ext (x0.trans (hXr.trans hX))
          have hzx := hX.size
          go_wp2_with (at_builtin; go_must (refine wpList_append_fresh rfl _ _ 28 rfl wr.heap.size 68 _ 8 64 Tryz.underlying28 contract_info rfl (by decide) Contract.cells contract_len contract_one g rfl hr hg A3 n3 c3 r.xs rfl hxs (by omega) (by omega) hzx ?_))
          intro v3 w3 oq hx3
          go_wp2_with fail
          exact ⟨hx3, _, rfl, oq⟩
        · intro ts wx hts hX hd
          obtain ⟨t0, ts0, rfl, hts0⟩ := vcons hts
          obtain ⟨t1, ts1, rfl, hts1⟩ := vcons hts0
          obtain ⟨t2, ts2, rfl, hts2⟩ := vcons hts1
          obtain ⟨t3, ts3, rfl, hts3⟩ := vcons hts2
          obtain ⟨t4, ts4, rfl, hts4⟩ := vcons hts3
          obtain ⟨t5, ts5, rfl, hts5⟩ := vcons hts4
          obtain ⟨t6, ts6, rfl, hts6⟩ := vcons hts5
          obtain ⟨t7, ts7, rfl, hts7⟩ := vcons hts6
          obtain ⟨t8, ts8, rfl, hts8⟩ := vcons hts7
          obtain ⟨t9, ts9, rfl, hts9⟩ := vcons hts8
          obtain ⟨t10, ts10, rfl, hts10⟩ := vcons hts9
          obtain ⟨t11, ts11, rfl, hts11⟩ := vcons hts10
          obtain ⟨t12, ts12, rfl, hts12⟩ := vcons hts11
          obtain ⟨t13, ts13, rfl, hts13⟩ := vcons hts12
          obtain rfl := vnil hts13
          clear hts hts0 hts1 hts2 hts3 hts4 hts5 hts6 hts7 hts8 hts9 hts10 hts11 hts12 hts13
          simp only [putAll, nthO, Act.put, List.setIfInBounds_toArray, List.set_cons_succ, List.set_cons_zero]
          go_wp2_with fail
          exact ⟨Ext.alloc _ _, _, rfl, ⟨_, rfl, Row.new _ _ _, hX.size⟩⟩
        · intro ts wx hts hX hd
          obtain ⟨t0, ts0, rfl, hts0⟩ := vcons hts
          obtain ⟨t1, ts1, rfl, hts1⟩ := vcons hts0
          obtain ⟨t2, ts2, rfl, hts2⟩ := vcons hts1
          obtain ⟨t3, ts3, rfl, hts3⟩ := vcons hts2
          obtain ⟨t4, ts4, rfl, hts4⟩ := vcons hts3
          obtain ⟨t5, ts5, rfl, hts5⟩ := vcons hts4
          obtain ⟨t6, ts6, rfl, hts6⟩ := vcons hts5
          obtain ⟨t7, ts7, rfl, hts7⟩ := vcons hts6
          obtain ⟨t8, ts8, rfl, hts8⟩ := vcons hts7
          obtain ⟨t9, ts9, rfl, hts9⟩ := vcons hts8
          obtain ⟨t10, ts10, rfl, hts10⟩ := vcons hts9
          obtain ⟨t11, ts11, rfl, hts11⟩ := vcons hts10
          obtain ⟨t12, ts12, rfl, hts12⟩ := vcons hts11
          obtain ⟨t13, ts13, rfl, hts13⟩ := vcons hts12
          obtain rfl := vnil hts13
          clear hts hts0 hts1 hts2 hts3 hts4 hts5 hts6 hts7 hts8 hts9 hts10 hts11 hts12 hts13
          simp only [putAll, nthO, Act.put, List.setIfInBounds_toArray, List.set_cons_succ, List.set_cons_zero]
          go_wp2_with fail
          exact ⟨Ext.refl _, _, rfl, rfl⟩
        · intro ts wx hts hX hd
          obtain ⟨t0, ts0, rfl, hts0⟩ := vcons hts
          obtain ⟨t1, ts1, rfl, hts1⟩ := vcons hts0
          obtain ⟨t2, ts2, rfl, hts2⟩ := vcons hts1
          obtain ⟨t3, ts3, rfl, hts3⟩ := vcons hts2
          obtain ⟨t4, ts4, rfl, hts4⟩ := vcons hts3
          obtain ⟨t5, ts5, rfl, hts5⟩ := vcons hts4
          obtain ⟨t6, ts6, rfl, hts6⟩ := vcons hts5
          obtain ⟨t7, ts7, rfl, hts7⟩ := vcons hts6
          obtain ⟨t8, ts8, rfl, hts8⟩ := vcons hts7
          obtain ⟨t9, ts9, rfl, hts9⟩ := vcons hts8
          obtain ⟨t10, ts10, rfl, hts10⟩ := vcons hts9
          obtain ⟨t11, ts11, rfl, hts11⟩ := vcons hts10
          obtain ⟨t12, ts12, rfl, hts12⟩ := vcons hts11
          obtain ⟨t13, ts13, rfl, hts13⟩ := vcons hts12
          obtain rfl := vnil hts13
          clear hts hts0 hts1 hts2 hts3 hts4 hts5 hts6 hts7 hts8 hts9 hts10 hts11 hts12 hts13
          simp only [putAll, nthO, Act.put, List.setIfInBounds_toArray, List.set_cons_succ, List.set_cons_zero]
          obtain ⟨rfl, _⟩ := hd
          clear hlt y0 y1 y2 y3 y4
          obtain ⟨hlt, y0, y1, y2, y3, y4⟩ := hin.ext (hXr.trans hX)
          go_wp2_with fail
          exact ⟨Ext.refl _, _, rfl, rfl⟩
        · intro ts wx hts hX hd
          obtain ⟨t0, ts0, rfl, hts0⟩ := vcons hts
          obtain ⟨t1, ts1, rfl, hts1⟩ := vcons hts0
          obtain ⟨t2, ts2, rfl, hts2⟩ := vcons hts1
          obtain ⟨t3, ts3, rfl, hts3⟩ := vcons hts2
          obtain ⟨t4, ts4, rfl, hts4⟩ := vcons hts3
          obtain ⟨t5, ts5, rfl, hts5⟩ := vcons hts4
          obtain ⟨t6, ts6, rfl, hts6⟩ := vcons hts5
          obtain ⟨t7, ts7, rfl, hts7⟩ := vcons hts6
          obtain ⟨t8, ts8, rfl, hts8⟩ := vcons hts7
          obtain ⟨t9, ts9, rfl, hts9⟩ := vcons hts8
          obtain ⟨t10, ts10, rfl, hts10⟩ := vcons hts9
          obtain ⟨t11, ts11, rfl, hts11⟩ := vcons hts10
          obtain ⟨t12, ts12, rfl, hts12⟩ := vcons hts11
          obtain ⟨t13, ts13, rfl, hts13⟩ := vcons hts12
          obtain rfl := vnil hts13
          clear hts hts0 hts1 hts2 hts3 hts4 hts5 hts6 hts7 hts8 hts9 hts10 hts11 hts12 hts13
          simp only [putAll, nthO, Act.put, List.setIfInBounds_toArray, List.set_cons_succ, List.set_cons_zero]
          obtain ⟨⟨g, rfl, hr, hg⟩, rfl, rfl, _⟩ := hd
          have hxs := hat.s4.ext (x0.trans (hXr.trans hX))
          have hzx := hX.size
          go_wp2_with (at_builtin; go_must (refine wpList_append_fresh rfl _ _ 29 rfl wr.heap.size 70 _ 4 32 Tryz.underlying29 nomination_info rfl (by decide) Nomination.cells nomination_len nomination_one g rfl hr hg A4 n4 c4 r.L rfl hxs (by omega) (by omega) hzx ?_))
          intro v3 w3 oq hx3
          go_wp2_with fail
          exact ⟨hx3, _, rfl, oq⟩
        · intro ts wx hts hX hd
          obtain ⟨t0, ts0, rfl, hts0⟩ := vcons hts
          obtain ⟨t1, ts1, rfl, hts1⟩ := vcons hts0
          obtain ⟨t2, ts2, rfl, hts2⟩ := vcons hts1
          obtain ⟨t3, ts3, rfl, hts3⟩ := vcons hts2
          obtain ⟨t4, ts4, rfl, hts4⟩ := vcons hts3
          obtain ⟨t5, ts5, rfl, hts5⟩ := vcons hts4
          obtain ⟨t6, ts6, rfl, hts6⟩ := vcons hts5
          obtain ⟨t7, ts7, rfl, hts7⟩ := vcons hts6
          obtain ⟨t8, ts8, rfl, hts8⟩ := vcons hts7
          obtain ⟨t9, ts9, rfl, hts9⟩ := vcons hts8
          obtain ⟨t10, ts10, rfl, hts10⟩ := vcons hts9
          obtain ⟨t11, ts11, rfl, hts11⟩ := vcons hts10
          obtain ⟨t12, ts12, rfl, hts12⟩ := vcons hts11
          obtain ⟨t13, ts13, rfl, hts13⟩ := vcons hts12
          obtain rfl := vnil hts13
          clear hts hts0 hts1 hts2 hts3 hts4 hts5 hts6 hts7 hts8 hts9 hts10 hts11 hts12 hts13
          simp only [putAll, nthO, Act.put, List.setIfInBounds_toArray, List.set_cons_succ, List.set_cons_zero]
          go_wp2_with fail
          exact ⟨Ext.refl _, _, rfl, rfl⟩
        · intro ts wx hts hX hd
          obtain ⟨t0, ts0, rfl, hts0⟩ := vcons hts
          obtain ⟨t1, ts1, rfl, hts1⟩ := vcons hts0
          obtain ⟨t2, ts2, rfl, hts2⟩ := vcons hts1
          obtain ⟨t3, ts3, rfl, hts3⟩ := vcons hts2
          obtain ⟨t4, ts4, rfl, hts4⟩ := vcons hts3
          obtain ⟨t5, ts5, rfl, hts5⟩ := vcons hts4
          obtain ⟨t6, ts6, rfl, hts6⟩ := vcons hts5
          obtain ⟨t7, ts7, rfl, hts7⟩ := vcons hts6
          obtain ⟨t8, ts8, rfl, hts8⟩ := vcons hts7
          obtain ⟨t9, ts9, rfl, hts9⟩ := vcons hts8
          obtain ⟨t10, ts10, rfl, hts10⟩ := vcons hts9
          obtain ⟨t11, ts11, rfl, hts11⟩ := vcons hts10
          obtain ⟨t12, ts12, rfl, hts12⟩ := vcons hts11
          obtain ⟨t13, ts13, rfl, hts13⟩ := vcons hts12
          obtain rfl := vnil hts13
          clear hts hts0 hts1 hts2 hts3 hts4 hts5 hts6 hts7 hts8 hts9 hts10 hts11 hts12 hts13
          simp only [putAll, nthO, Act.put, List.setIfInBounds_toArray, List.set_cons_succ, List.set_cons_zero]
          obtain ⟨_, _, ⟨B1, k1, d1, B2, k2, d2, rfl, o1, o2, b1, b2⟩, _, _, _, o3, _, _, _, o4, rfl, _⟩ := hd
          obtain ⟨B3, d3, rfl, p3, q3⟩ := OwnL.toA o3 contract_len (by omega)
          obtain ⟨B4, d4, rfl, p4, q4⟩ := OwnL.toA o4 nomination_len (by omega)
          go_wp2_with fail
          exact ⟨Ext.refl _, _, rfl, ⟨B1, k1, d1, B2, k2, d2, B3, _, d3, B4, _, d4, rfl, o1, o2, p3, p4, b1, b2, q3, q4⟩⟩
      · intro ts wx hts hX hd
        obtain ⟨t0, ts0, rfl, hts0⟩ := vcons hts
        obtain ⟨t1, ts1, rfl, hts1⟩ := vcons hts0
        obtain ⟨t2, ts2, rfl, hts2⟩ := vcons hts1
        obtain ⟨t3, ts3, rfl, hts3⟩ := vcons hts2
        obtain ⟨t4, ts4, rfl, hts4⟩ := vcons hts3
        obtain ⟨t5, ts5, rfl, hts5⟩ := vcons hts4
        obtain ⟨t6, ts6, rfl, hts6⟩ := vcons hts5
        obtain ⟨t7, ts7, rfl, hts7⟩ := vcons hts6
        obtain ⟨t8, ts8, rfl, hts8⟩ := vcons hts7
        obtain ⟨t9, ts9, rfl, hts9⟩ := vcons hts8
        obtain ⟨t10, ts10, rfl, hts10⟩ := vcons hts9
        obtain ⟨t11, ts11, rfl, hts11⟩ := vcons hts10
        obtain ⟨t12, ts12, rfl, hts12⟩ := vcons hts11
        obtain ⟨t13, ts13, rfl, hts13⟩ := vcons hts12
        obtain rfl := vnil hts13
        clear hts hts0 hts1 hts2 hts3 hts4 hts5 hts6 hts7 hts8 hts9 hts10 hts11 hts12 hts13
        simp only [putAll, Act.put, List.setIfInBounds_toArray, List.set_cons_succ, List.set_cons_zero]
        obtain ⟨-, -, -, -, -, -, -, -, -, -, -, -, ⟨B1, k1, d1, B2, k2, d2, B3, k3, d3, B4, k4, d4, rfl, o1, o2, o3, o4, l1, l2, l3, l4⟩, -⟩ := hd
        have hzx := hz0.ext (hXr.trans hX)
        have p0 := hzx.cell 0
        have p1 := hzx.cell 1
        have p2 := hzx.cell 2
        have p3 := hzx.cell 3
        have p4 := hzx.cell 4
        have f0 := hzx.frozen
        have hlt' := hzx.lt
        simp only [List.getElem?_cons_zero, List.getElem?_cons_succ] at p0 p1 p2 p3 p4
        simp only [wpPhT, pickL, nthO]
        refine wpQuiet_nil ?_
        go_wp2_with fail
        refine ⟨fun _ h => (by cases h), wpQuiet_nil ?_⟩
        go_wp2
        have hlo : w.heap.size ≤ W0.heap.size := x0.size
        have hlo' : w.heap.size ≤ wr.heap.size := Nat.le_trans hlo hxz
        have oD := hD.o5.ext hX
        refine bodyPost_ret (v := .agg #[.slice B1 k1 d1, .slice B2 k2 d2, .slice B3 k3 d3, .slice B4 k4 d4, .slice VA rs'.length vc]) (by simp [results, Tryz.results76, go_sem, p0, p1, p2, p3, p4]) rfl
          ⟨B1, B2, B3, B4, VA, k1, d1, k2, d2, k3, d3, k4, d4, rs'.length, vc, ⟨r.ns, r.ps, r.xs, r.L, rs'⟩, rfl, LRoom.of (o1.set5 (o1.row_ne hzx (by decide)) _ _ _ _ _) (o2.set5 (o2.row_ne hzx (by decide)) _ _ _ _ _) (o3.set5 (o3.row_ne hzx (by decide)) _ _ _ _ _) (o4.set5 (o4.row_ne hzx (by decide)) _ _ _ _ _) (fun b hb => Nat.le_trans hlo' (l1 b hb)) (fun b hb => Nat.le_trans hlo' (l2 b hb)) (fun b hb => Nat.le_trans hlo' (l3 b hb)) (fun b hb => Nat.le_trans hlo' (l4 b hb))
            ((oD.base hlo).set5 (fun k hk e => OwnL.blk_ne oD hzx (by decide) k hk (by rw [e])) _ _ _ _ _) (fun q hq => (((hD.o6 q hq).ext hX).base hlo).set5 (fun k hk e => OwnL.blk_ne ((hD.o6 q hq).ext hX) hzx (by decide) k hk (by rw [e])) _ _ _ _ _) hD.sep hD.sep2, ⟨rfl, rfl, rfl, rfl, HMAP.out⟩, ?_⟩
        repeat (refine Ext.setCell ?_ (by first | (simp; done) | (simp; omega) | omega) _)
        exact x0.trans (hXr.trans hX)
end Go.Proofs.YtjpmiokbgpggbaaGreat
