/-
  FnExactApplyEvent: for every input the law returns true and its arguments read as before. No condition.
-/
import Derived.Test.YtjpmiokbgpggbaaGreatQa48
namespace Go.Proofs.YtjpmiokbgpggbaaGreat
open Go.RowKit Go.ChangeShapes Go.WideShapes Go.ChangeAt Go.Deep Go.Joins
theorem five_row {w : World} {g : Nat} {t : TypeId} {u0 u1 u2 u3 u4 v0 v1 v2 v3 v4 : Value} (h : Row w g t [v0, v1, v2, v3, v4]) : Row (((((w.setCell ⟨g, 0, none⟩ u0).setCell ⟨g, 1, none⟩ u1).setCell ⟨g, 2, none⟩ u2).setCell ⟨g, 3, none⟩ u3).setCell ⟨g, 4, none⟩ u4) g t [u0, u1, u2, u3, u4] :=
  ((((h.set_ 0 u0).set_ 1 u1).set_ 2 u2).set_ 3 u3).set_ 4 u4
theorem row_in {w : World} {g : Nat} {t : TypeId} {A1 A2 A3 A4 A5 : Option Addr} {n1 c1 n2 c2 n3 c3 n4 c4 n5 c5 : Nat} (h : Row w g t [.slice A1 n1 c1, .slice A2 n2 c2, .slice A3 n3 c3, .slice A4 n4 c4, .slice A5 n5 c5]) : RoomIn w g A1 A2 A3 A4 A5 n1 c1 n2 c2 n3 c3 n4 c4 n5 c5 := ⟨h.lt, h.cell 0, h.cell 1, h.cell 2, h.cell 3, h.cell 4⟩
set_option maxHeartbeats 8000000 in
theorem law_ApplyEvent (A1 A2 A3 A4 A5 : Option Addr) (n1 c1 n2 c2 n3 c3 n4 c4 n5 c5 : Nat) (r : Room) (x : Event) (w : World) (hat : RoomAt w A1 A2 A3 A4 A5 n1 c1 n2 c2 n3 c3 n4 c4 n5 c5 r) (hnm : Named0 r.ns) :
    Calls Tryz.prog 5 #[.agg #[.slice A1 n1 c1, .slice A2 n2 c2, .slice A3 n3 c3, .slice A4 n4 c4, .slice A5 n5 c5], .agg #[.int .i64 x.kind, .int .i64 x.a, .int .i64 x.b, .int .i64 x.c, .int .i64 x.d]] w (Ret (.bool true) w) := by
  obtain ⟨W0, HW⟩ : ∃ W0, Hid (((w.alloc (.cells #[.slice A1 n1 c1, .slice A2 n2 c2, .slice A3 n3 c3, .slice A4 n4 c4, .slice A5 n5 c5] 51)).alloc (.cells #[.int .i64 x.kind, .int .i64 x.a, .int .i64 x.b, .int .i64 x.c, .int .i64 x.d] 55)) = W0) := ⟨_, hide rfl⟩
  have hin : RoomIn W0 w.heap.size A1 A2 A3 A4 A5 n1 c1 n2 c2 n3 c3 n4 c4 n5 c5 := by rw [← HW.out]; exact (RoomIn.new w A1 A2 A3 A4 A5 n1 c1 n2 c2 n3 c3 n4 c4 n5 c5 51).ext (Ext.alloc _ _)
  have hei : EvIn W0 (w.heap.size + 1) x := by rw [← HW.out]; have h := EvIn.new (w.alloc (.cells #[.slice A1 n1 c1, .slice A2 n2 c2, .slice A3 n3 c3, .slice A4 n4 c4, .slice A5 n5 c5] 51)) x 55; rw [World.size_alloc] at h; exact h
  have x0 : Ext w W0 := by rw [← HW.out]; exact (Ext.alloc _ _).and_alloc _
  have hza : W0.heap.size ≤ w.heap.size + 2 := by rw [← HW.out]; simp
  have hzb : w.heap.size + 2 ≤ W0.heap.size := by rw [← HW.out]; simp
  have HNM := hide hnm
  clear hnm
  obtain ⟨hlt, y0, y1, y2, y3, y4⟩ := id hin
  go_enter Tryz.func5, Tryz.ntmps5
  go_wp2_with fail
  rw [HW.out]
  refine (c_szRoom A1 A2 A3 A4 A5 n1 c1 n2 c2 n3 c3 n4 c4 n5 c5 r _ (hat.ext x0) HNM.out 1048576 (by omega) (by omega)).mono ?_
  rintro e w1 ⟨z, rfl, hx1, rfl | ⟨hz0, hz1, hz⟩⟩
  · go_wp2_with fail
    go_ret
    exact Ret.bool rfl (x0.trans hx1)
  have hz' : ¬ z < 0 := by omega
  have hl := hat.roomLen hz
  have X1 := x0.trans hx1
  obtain ⟨RR, HRR⟩ : ∃ RR, Hid (applyRR r.ns.length r x = RR) := ⟨_, hide rfl⟩
  have hRL := applyRR_len hl x
  rw [HRR.out] at hRL
  have hlo1 := X1.size
  have hlo0 := hx1.size
  clear hlt y0 y1 y2 y3 y4
  go_wp2_with fail
  refine wp_region_KP [KC (.agg #[.slice A1 n1 c1, .slice A2 n2 c2, .slice A3 n3 c3, .slice A4 n4 c4, .slice A5 n5 c5]), KRoom w1.heap.size r, KC (.agg #[.int .i64 x.kind, .int .i64 x.a, .int .i64 x.b, .int .i64 x.c, .int .i64 x.d]), KC (.agg #[.int .i64 x.kind, .int .i64 x.a, .int .i64 x.b, .int .i64 x.c, .int .i64 x.d]), KRC w1.heap.size RR, KRC w1.heap.size RR, KRoom w1.heap.size RR.1, KC (.int .i64 RR.2), KR w1.heap.size 32 [.slice none 0 0, .slice none 0 0, .slice none 0 0, .slice none 0 0, .slice none 0 0]]
    [0, 1, 2, 3, 4, 5, 6, 8] [7] [[], [0], [], [0, 1, 2], [0, 1, 2, 3], [0, 1, 2, 3, 4], [0, 1, 2, 3, 4, 5], [0, 1, 2, 3, 4, 5], [], [0, 1, 2, 3, 4, 5, 6, 8], [0, 1, 2, 3, 4, 5, 6, 7, 8, 9]] [] (.one [] 9 (.last [10])) (by kernel_rfl) (by kernel_rfl) (by intro c a w d v h; cases d <;> exact h) (by simp) ⟨stKC _, stKRoom _ _, stKC _, stKC _, stKRC _ _, stKRC _ _, stKRoom _ _, stKC _, stKR _ _ _, trivial⟩ ?_ ?_ ?_
  · refine ⟨?_, ?_, ?_, ?_, ?_, ?_, ?_, ?_, trivial⟩
    · intro ts wx hts hX hd
      obtain ⟨t0, ts0, rfl, hts0⟩ := vcons hts
      obtain ⟨t1, ts1, rfl, hts1⟩ := vcons hts0
      obtain ⟨t2, ts2, rfl, hts2⟩ := vcons hts1
      obtain ⟨t3, ts3, rfl, hts3⟩ := vcons hts2
      obtain ⟨t4, ts4, rfl, hts4⟩ := vcons hts3
      obtain ⟨t5, ts5, rfl, hts5⟩ := vcons hts4
      obtain ⟨t6, ts6, rfl, hts6⟩ := vcons hts5
      obtain ⟨t7, ts7, rfl, hts7⟩ := vcons hts6
      obtain ⟨t8, ts8, rfl, hts8⟩ := vcons hts7
      obtain ⟨t9, ts9, rfl, hts9⟩ := vcons hts8
      obtain ⟨t10, ts10, rfl, hts10⟩ := vcons hts9
      obtain rfl := vnil hts10
      clear hts hts0 hts1 hts2 hts3 hts4 hts5 hts6 hts7 hts8 hts9 hts10
      simp only [putAll, nthO, Act.put, List.setIfInBounds_toArray, List.set_cons_succ, List.set_cons_zero]
      obtain ⟨hlt, y0, y1, y2, y3, y4⟩ := hin.ext (hx1.trans hX)
      go_wp2_with fail
      exact ⟨Ext.refl _, _, rfl, rfl⟩
    · intro ts wx hts hX hd
      obtain ⟨t0, ts0, rfl, hts0⟩ := vcons hts
      obtain ⟨t1, ts1, rfl, hts1⟩ := vcons hts0
      obtain ⟨t2, ts2, rfl, hts2⟩ := vcons hts1
      obtain ⟨t3, ts3, rfl, hts3⟩ := vcons hts2
      obtain ⟨t4, ts4, rfl, hts4⟩ := vcons hts3
      obtain ⟨t5, ts5, rfl, hts5⟩ := vcons hts4
      obtain ⟨t6, ts6, rfl, hts6⟩ := vcons hts5
      obtain ⟨t7, ts7, rfl, hts7⟩ := vcons hts6
      obtain ⟨t8, ts8, rfl, hts8⟩ := vcons hts7
      obtain ⟨t9, ts9, rfl, hts9⟩ := vcons hts8
      obtain ⟨t10, ts10, rfl, hts10⟩ := vcons hts9
      obtain rfl := vnil hts10
      clear hts hts0 hts1 hts2 hts3 hts4 hts5 hts6 hts7 hts8 hts9 hts10
      simp only [putAll, nthO, Act.put, List.setIfInBounds_toArray, List.set_cons_succ, List.set_cons_zero]
      obtain ⟨rfl, -⟩ := hd
      go_wp2_with fail
      refine (k_toRoom A1 A2 A3 A4 A5 n1 c1 n2 c2 n3 c3 n4 c4 n5 c5 r _ (hat.ext (X1.trans hX)) hz hl).mono ?_
      rintro e w2 ⟨v, rfl, hk, hx2⟩
      go_wp2_with fail
      exact ⟨hx2, _, rfl, hk.le hX.size⟩
    · intro ts wx hts hX hd
      obtain ⟨t0, ts0, rfl, hts0⟩ := vcons hts
      obtain ⟨t1, ts1, rfl, hts1⟩ := vcons hts0
      obtain ⟨t2, ts2, rfl, hts2⟩ := vcons hts1
      obtain ⟨t3, ts3, rfl, hts3⟩ := vcons hts2
      obtain ⟨t4, ts4, rfl, hts4⟩ := vcons hts3
      obtain ⟨t5, ts5, rfl, hts5⟩ := vcons hts4
      obtain ⟨t6, ts6, rfl, hts6⟩ := vcons hts5
      obtain ⟨t7, ts7, rfl, hts7⟩ := vcons hts6
      obtain ⟨t8, ts8, rfl, hts8⟩ := vcons hts7
      obtain ⟨t9, ts9, rfl, hts9⟩ := vcons hts8
      obtain ⟨t10, ts10, rfl, hts10⟩ := vcons hts9
      obtain rfl := vnil hts10
      clear hts hts0 hts1 hts2 hts3 hts4 hts5 hts6 hts7 hts8 hts9 hts10
      simp only [putAll, nthO, Act.put, List.setIfInBounds_toArray, List.set_cons_succ, List.set_cons_zero]
      obtain ⟨hle, z0, z1, z2, z3, z4⟩ := hei.ext (hx1.trans hX)
      go_wp2_with fail
      exact ⟨Ext.refl _, _, rfl, rfl⟩
    · intro ts wx hts hX hd
      obtain ⟨t0, ts0, rfl, hts0⟩ := vcons hts
      obtain ⟨t1, ts1, rfl, hts1⟩ := vcons hts0
      obtain ⟨t2, ts2, rfl, hts2⟩ := vcons hts1
      obtain ⟨t3, ts3, rfl, hts3⟩ := vcons hts2
      obtain ⟨t4, ts4, rfl, hts4⟩ := vcons hts3
      obtain ⟨t5, ts5, rfl, hts5⟩ := vcons hts4
      obtain ⟨t6, ts6, rfl, hts6⟩ := vcons hts5
      obtain ⟨t7, ts7, rfl, hts7⟩ := vcons hts6
      obtain ⟨t8, ts8, rfl, hts8⟩ := vcons hts7
      obtain ⟨t9, ts9, rfl, hts9⟩ := vcons hts8
      obtain ⟨t10, ts10, rfl, hts10⟩ := vcons hts9
      obtain rfl := vnil hts10
      clear hts hts0 hts1 hts2 hts3 hts4 hts5 hts6 hts7 hts8 hts9 hts10
      simp only [putAll, nthO, Act.put, List.setIfInBounds_toArray, List.set_cons_succ, List.set_cons_zero]
      obtain ⟨-, -, rfl, -⟩ := hd
      go_wp2_with fail
      refine (c_toEvent x _).mono ?_
      rintro e w2 ⟨rfl, hx2⟩
      go_wp2_with fail
      exact ⟨hx2, _, rfl, rfl⟩
    · intro ts wx hts hX hd
      obtain ⟨t0, ts0, rfl, hts0⟩ := vcons hts
      obtain ⟨t1, ts1, rfl, hts1⟩ := vcons hts0
      obtain ⟨t2, ts2, rfl, hts2⟩ := vcons hts1
      obtain ⟨t3, ts3, rfl, hts3⟩ := vcons hts2
      obtain ⟨t4, ts4, rfl, hts4⟩ := vcons hts3
      obtain ⟨t5, ts5, rfl, hts5⟩ := vcons hts4
      obtain ⟨t6, ts6, rfl, hts6⟩ := vcons hts5
      obtain ⟨t7, ts7, rfl, hts7⟩ := vcons hts6
      obtain ⟨t8, ts8, rfl, hts8⟩ := vcons hts7
      obtain ⟨t9, ts9, rfl, hts9⟩ := vcons hts8
      obtain ⟨t10, ts10, rfl, hts10⟩ := vcons hts9
      obtain rfl := vnil hts10
      clear hts hts0 hts1 hts2 hts3 hts4 hts5 hts6 hts7 hts8 hts9 hts10
      simp only [putAll, nthO, Act.put, List.setIfInBounds_toArray, List.set_cons_succ, List.set_cons_zero]
      obtain ⟨-, h1, -, rfl, -⟩ := hd
      go_wp2_with fail
      refine (k_specApplyEvent h1 hl x).mono ?_
      rw [HRR.out]
      rintro e w2 ⟨v, rfl, hk, hx2⟩
      go_wp2_with fail
      exact ⟨hx2, _, rfl, hk.le hX.size⟩
    · intro ts wx hts hX hd
      obtain ⟨t0, ts0, rfl, hts0⟩ := vcons hts
      obtain ⟨t1, ts1, rfl, hts1⟩ := vcons hts0
      obtain ⟨t2, ts2, rfl, hts2⟩ := vcons hts1
      obtain ⟨t3, ts3, rfl, hts3⟩ := vcons hts2
      obtain ⟨t4, ts4, rfl, hts4⟩ := vcons hts3
      obtain ⟨t5, ts5, rfl, hts5⟩ := vcons hts4
      obtain ⟨t6, ts6, rfl, hts6⟩ := vcons hts5
      obtain ⟨t7, ts7, rfl, hts7⟩ := vcons hts6
      obtain ⟨t8, ts8, rfl, hts8⟩ := vcons hts7
      obtain ⟨t9, ts9, rfl, hts9⟩ := vcons hts8
      obtain ⟨t10, ts10, rfl, hts10⟩ := vcons hts9
      obtain rfl := vnil hts10
      clear hts hts0 hts1 hts2 hts3 hts4 hts5 hts6 hts7 hts8 hts9 hts10
      simp only [putAll, nthO, Act.put, List.setIfInBounds_toArray, List.set_cons_succ, List.set_cons_zero]
      obtain ⟨-, -, -, -, h1, -⟩ := hd
      go_wp2_with fail
      exact ⟨Ext.refl _, _, rfl, h1⟩
    · intro ts wx hts hX hd
      obtain ⟨t0, ts0, rfl, hts0⟩ := vcons hts
      obtain ⟨t1, ts1, rfl, hts1⟩ := vcons hts0
      obtain ⟨t2, ts2, rfl, hts2⟩ := vcons hts1
      obtain ⟨t3, ts3, rfl, hts3⟩ := vcons hts2
      obtain ⟨t4, ts4, rfl, hts4⟩ := vcons hts3
      obtain ⟨t5, ts5, rfl, hts5⟩ := vcons hts4
      obtain ⟨t6, ts6, rfl, hts6⟩ := vcons hts5
      obtain ⟨t7, ts7, rfl, hts7⟩ := vcons hts6
      obtain ⟨t8, ts8, rfl, hts8⟩ := vcons hts7
      obtain ⟨t9, ts9, rfl, hts9⟩ := vcons hts8
      obtain ⟨t10, ts10, rfl, hts10⟩ := vcons hts9
      obtain rfl := vnil hts10
      clear hts hts0 hts1 hts2 hts3 hts4 hts5 hts6 hts7 hts8 hts9 hts10
      simp only [putAll, nthO, Act.put, List.setIfInBounds_toArray, List.set_cons_succ, List.set_cons_zero]
      obtain ⟨-, -, -, -, -, ⟨a, rfl, h1⟩, -⟩ := hd
      go_wp2_with fail
      exact ⟨Ext.refl _, _, rfl, h1⟩
    · intro ts wx hts hX hd
      obtain ⟨t0, ts0, rfl, hts0⟩ := vcons hts
      obtain ⟨t1, ts1, rfl, hts1⟩ := vcons hts0
      obtain ⟨t2, ts2, rfl, hts2⟩ := vcons hts1
      obtain ⟨t3, ts3, rfl, hts3⟩ := vcons hts2
      obtain ⟨t4, ts4, rfl, hts4⟩ := vcons hts3
      obtain ⟨t5, ts5, rfl, hts5⟩ := vcons hts4
      obtain ⟨t6, ts6, rfl, hts6⟩ := vcons hts5
      obtain ⟨t7, ts7, rfl, hts7⟩ := vcons hts6
      obtain ⟨t8, ts8, rfl, hts8⟩ := vcons hts7
      obtain ⟨t9, ts9, rfl, hts9⟩ := vcons hts8
      obtain ⟨t10, ts10, rfl, hts10⟩ := vcons hts9
      obtain rfl := vnil hts10
      clear hts hts0 hts1 hts2 hts3 hts4 hts5 hts6 hts7 hts8 hts9 hts10
      simp only [putAll, nthO, Act.put, List.setIfInBounds_toArray, List.set_cons_succ, List.set_cons_zero]
      go_wp2_with fail
      exact ⟨Ext.alloc _ _, _, rfl, ⟨_, rfl, Row.new _ _ _, hX.size⟩⟩
  · refine ⟨?_, trivial⟩
    intro ts wx hts hX hd
    obtain ⟨t0, ts0, rfl, hts0⟩ := vcons hts
    obtain ⟨t1, ts1, rfl, hts1⟩ := vcons hts0
    obtain ⟨t2, ts2, rfl, hts2⟩ := vcons hts1
    obtain ⟨t3, ts3, rfl, hts3⟩ := vcons hts2
    obtain ⟨t4, ts4, rfl, hts4⟩ := vcons hts3
    obtain ⟨t5, ts5, rfl, hts5⟩ := vcons hts4
    obtain ⟨t6, ts6, rfl, hts6⟩ := vcons hts5
    obtain ⟨t7, ts7, rfl, hts7⟩ := vcons hts6
    obtain ⟨t8, ts8, rfl, hts8⟩ := vcons hts7
    obtain ⟨t9, ts9, rfl, hts9⟩ := vcons hts8
    obtain ⟨t10, ts10, rfl, hts10⟩ := vcons hts9
    obtain rfl := vnil hts10
    clear hts hts0 hts1 hts2 hts3 hts4 hts5 hts6 hts7 hts8 hts9 hts10
    simp only [putAll, nthO, Act.put, List.setIfInBounds_toArray, List.set_cons_succ, List.set_cons_zero]
    obtain ⟨-, -, -, -, -, ⟨a, rfl, h1⟩, -⟩ := hd
    repeat (go_big_quiet_step (fail))
    exact wpQuiet_nil ⟨_, rfl, rfl⟩
  · intro ts wx hts hX hd
    obtain ⟨t0, ts0, rfl, hts0⟩ := vcons hts
    obtain ⟨t1, ts1, rfl, hts1⟩ := vcons hts0
    obtain ⟨t2, ts2, rfl, hts2⟩ := vcons hts1
    obtain ⟨t3, ts3, rfl, hts3⟩ := vcons hts2
    obtain ⟨t4, ts4, rfl, hts4⟩ := vcons hts3
    obtain ⟨t5, ts5, rfl, hts5⟩ := vcons hts4
    obtain ⟨t6, ts6, rfl, hts6⟩ := vcons hts5
    obtain ⟨t7, ts7, rfl, hts7⟩ := vcons hts6
    obtain ⟨t8, ts8, rfl, hts8⟩ := vcons hts7
    obtain ⟨t9, ts9, rfl, hts9⟩ := vcons hts8
    obtain ⟨t10, ts10, rfl, hts10⟩ := vcons hts9
    obtain rfl := vnil hts10
    clear hts hts0 hts1 hts2 hts3 hts4 hts5 hts6 hts7 hts8 hts9 hts10
    simp only [putAll, Act.put, List.setIfInBounds_toArray, List.set_cons_succ, List.set_cons_zero]
    obtain ⟨-, -, -, -, -, -, h6, ⟨g, rfl, hg, hgl⟩, h7, -⟩ := hd
    obtain ⟨S1, S2, S3, S4, S5, s1, e1, s2, e2, s3, e3, s4, e4, s5, e5, rs, loS, hiS, rfl, hS1, hS2, hoS, hlS⟩ := h6
    obtain rfl := h7
    have p0 := hg.cell 0
    have p1 := hg.cell 1
    have p2 := hg.cell 2
    have p3 := hg.cell 3
    have p4 := hg.cell 4
    have pf := hg.frozen
    have pl := hg.lt
    simp only [List.getElem?_cons_zero, List.getElem?_cons_succ] at p0 p1 p2 p3 p4
    simp only [wpPhT, pickL, nthO]
    refine wpQuiet_nil ?_
    go_wp2_with fail
    refine ⟨fun _ h => (by cases h), ?_⟩
    repeat (go_big_quiet_step (fail))
    refine wpQuiet_nil ?_
    have rS := five_row (u0 := .slice S1 s1 e1) (u1 := .slice S2 s2 e2) (u2 := .slice S3 s3 e3) (u3 := .slice S4 s4 e4) (u4 := .slice S5 s5 e5) hg
    have tS := (Turn.refl (S := fun b => b = g) wx).five (g := g) rfl (.slice S1 s1 e1) (.slice S2 s2 e2) (.slice S3 s3 e3) (.slice S4 s4 e4) (.slice S5 s5 e5)
    have hoS3 := hoS.turnR tS (fun b hb => by subst hb; exact ⟨_, hg⟩)
    have hX3 : Ext w1 (((((wx.setCell ⟨g, 0, none⟩ (.slice S1 s1 e1)).setCell ⟨g, 1, none⟩ (.slice S2 s2 e2)).setCell ⟨g, 2, none⟩ (.slice S3 s3 e3)).setCell ⟨g, 3, none⟩ (.slice S4 s4 e4)).setCell ⟨g, 4, none⟩ (.slice S5 s5 e5)) := hX.turn tS (fun b hb => by omega)
    have hS2 : hiS ≤ ((((((wx.setCell ⟨g, 0, none⟩ (.slice S1 s1 e1)).setCell ⟨g, 1, none⟩ (.slice S2 s2 e2)).setCell ⟨g, 2, none⟩ (.slice S3 s3 e3)).setCell ⟨g, 3, none⟩ (.slice S4 s4 e4)).setCell ⟨g, 4, none⟩ (.slice S5 s5 e5))).heap.size := Nat.le_trans hS2 tS.size
    generalize (((((wx.setCell ⟨g, 0, none⟩ (.slice S1 s1 e1)).setCell ⟨g, 1, none⟩ (.slice S2 s2 e2)).setCell ⟨g, 2, none⟩ (.slice S3 s3 e3)).setCell ⟨g, 3, none⟩ (.slice S4 s4 e4)).setCell ⟨g, 4, none⟩ (.slice S5 s5 e5)) = W3 at *
    clear p0 p1 p2 p3 p4 pf pl tS hoS hg
    have X3 := X1.trans hX3
    obtain ⟨hlt, y0, y1, y2, y3, y4⟩ := hin.ext (hx1.trans hX3)
    go_wp2_with fail
    refine (k_toRoom A1 A2 A3 A4 A5 n1 c1 n2 c2 n3 c3 n4 c4 n5 c5 r _ (hat.ext X3) hz hl).mono ?_
    rintro e w4 ⟨_, rfl, ⟨C1, C2, C3, C4, C5, q1, f1, q2, f2, q3, f3, q4, f4, q5, f5, r4, lo4, hi4, rfl, hC1, hC2, hown4, hl4⟩, hx4⟩
    clear hlt y0 y1 y2 y3 y4
    go_wp2_with fail
    have rX := Row.new w4 32 [.slice C1 q1 f1, .slice C2 q2 f2, .slice C3 q3 f3, .slice C4 q4 f4, .slice C5 q5 f5]
    have hx45 : Ext w4 (w4.alloc (.cells #[.slice C1 q1 f1, .slice C2 q2 f2, .slice C3 q3 f3, .slice C4 q4 f4, .slice C5 q5 f5] 32)) := Ext.alloc _ _
    have hz5 : (w4.alloc (.cells #[.slice C1 q1 f1, .slice C2 q2 f2, .slice C3 q3 f3, .slice C4 q4 f4, .slice C5 q5 f5] 32)).heap.size ≤ w4.heap.size + 1 := by simp
    generalize w4.alloc (.cells #[.slice C1 q1 f1, .slice C2 q2 f2, .slice C3 q3 f3, .slice C4 q4 f4, .slice C5 q5 f5] 32) = W5 at *
    have hown5 := hown4.ext hx45
    have hx35 := hx4.trans hx45
    have X5 := X3.trans hx35
    have hlo5 := X5.size
    have hlo4 := hx4.size
    have hlo3 := X3.size
    have hlt4 := rX.lt
    refine wp_region_KP [KC (.agg #[.slice C1 q1 f1, .slice C2 q2 f2, .slice C3 q3 f3, .slice C4 q4 f4, .slice C5 q5 f5]), KC (.agg #[.int .i64 x.kind, .int .i64 x.a, .int .i64 x.b, .int .i64 x.c, .int .i64 x.d]), KC (.agg #[.int .i64 x.kind, .int .i64 x.a, .int .i64 x.b, .int .i64 x.c, .int .i64 x.d]), KRC W5.heap.size RR, KRC W5.heap.size RR, KRoom W5.heap.size RR.1, KC (.int .i64 RR.2), KR W5.heap.size 32 [.slice none 0 0, .slice none 0 0, .slice none 0 0, .slice none 0 0, .slice none 0 0]]
      [0, 1, 2, 3, 4, 5, 7] [6] [[], [], [1], [0, 1, 2], [0, 1, 2, 3], [0, 1, 2, 3, 4], [0, 1, 2, 3, 4], [], [0, 1, 2, 3, 4, 5, 7], [0, 1, 2, 3, 4, 5, 6, 7, 8]] [] (.one [] 8 (.last [9])) (by kernel_rfl) (by kernel_rfl) (by intro c a w d v h; cases d <;> exact h) (by simp) ⟨stKC _, stKC _, stKC _, stKRC _ _, stKRC _ _, stKRoom _ _, stKC _, stKR _ _ _, trivial⟩ ?_ ?_ ?_
    · refine ⟨?_, ?_, ?_, ?_, ?_, ?_, ?_, trivial⟩
      · intro ts wx hts hX hd
        obtain ⟨t0, ts0, rfl, hts0⟩ := vcons hts
        obtain ⟨t1, ts1, rfl, hts1⟩ := vcons hts0
        obtain ⟨t2, ts2, rfl, hts2⟩ := vcons hts1
        obtain ⟨t3, ts3, rfl, hts3⟩ := vcons hts2
        obtain ⟨t4, ts4, rfl, hts4⟩ := vcons hts3
        obtain ⟨t5, ts5, rfl, hts5⟩ := vcons hts4
        obtain ⟨t6, ts6, rfl, hts6⟩ := vcons hts5
        obtain ⟨t7, ts7, rfl, hts7⟩ := vcons hts6
        obtain ⟨t8, ts8, rfl, hts8⟩ := vcons hts7
        obtain ⟨t9, ts9, rfl, hts9⟩ := vcons hts8
        obtain rfl := vnil hts9
        clear hts hts0 hts1 hts2 hts3 hts4 hts5 hts6 hts7 hts8 hts9
        simp only [putAll, nthO, Act.put, List.setIfInBounds_toArray, List.set_cons_succ, List.set_cons_zero]
        obtain ⟨hlt, y0, y1, y2, y3, y4⟩ := (row_in rX).ext hX
        go_wp2_with fail
        exact ⟨Ext.refl _, _, rfl, rfl⟩
      · intro ts wx hts hX hd
        obtain ⟨t0, ts0, rfl, hts0⟩ := vcons hts
        obtain ⟨t1, ts1, rfl, hts1⟩ := vcons hts0
        obtain ⟨t2, ts2, rfl, hts2⟩ := vcons hts1
        obtain ⟨t3, ts3, rfl, hts3⟩ := vcons hts2
        obtain ⟨t4, ts4, rfl, hts4⟩ := vcons hts3
        obtain ⟨t5, ts5, rfl, hts5⟩ := vcons hts4
        obtain ⟨t6, ts6, rfl, hts6⟩ := vcons hts5
        obtain ⟨t7, ts7, rfl, hts7⟩ := vcons hts6
        obtain ⟨t8, ts8, rfl, hts8⟩ := vcons hts7
        obtain ⟨t9, ts9, rfl, hts9⟩ := vcons hts8
        obtain rfl := vnil hts9
        clear hts hts0 hts1 hts2 hts3 hts4 hts5 hts6 hts7 hts8 hts9
        simp only [putAll, nthO, Act.put, List.setIfInBounds_toArray, List.set_cons_succ, List.set_cons_zero]
        obtain ⟨hle, z0, z1, z2, z3, z4⟩ := hei.ext (hx1.trans (hX3.trans (hx35.trans hX)))
        go_wp2_with fail
        exact ⟨Ext.refl _, _, rfl, rfl⟩
      · intro ts wx hts hX hd
        obtain ⟨t0, ts0, rfl, hts0⟩ := vcons hts
        obtain ⟨t1, ts1, rfl, hts1⟩ := vcons hts0
        obtain ⟨t2, ts2, rfl, hts2⟩ := vcons hts1
        obtain ⟨t3, ts3, rfl, hts3⟩ := vcons hts2
        obtain ⟨t4, ts4, rfl, hts4⟩ := vcons hts3
        obtain ⟨t5, ts5, rfl, hts5⟩ := vcons hts4
        obtain ⟨t6, ts6, rfl, hts6⟩ := vcons hts5
        obtain ⟨t7, ts7, rfl, hts7⟩ := vcons hts6
        obtain ⟨t8, ts8, rfl, hts8⟩ := vcons hts7
        obtain ⟨t9, ts9, rfl, hts9⟩ := vcons hts8
        obtain rfl := vnil hts9
        clear hts hts0 hts1 hts2 hts3 hts4 hts5 hts6 hts7 hts8 hts9
        simp only [putAll, nthO, Act.put, List.setIfInBounds_toArray, List.set_cons_succ, List.set_cons_zero]
        obtain ⟨rfl, -⟩ := hd
        go_wp2_with fail
        refine (c_toEvent x _).mono ?_
        rintro e w2 ⟨rfl, hx2⟩
        go_wp2_with fail
        exact ⟨hx2, _, rfl, rfl⟩
      · intro ts wx hts hX hd
        obtain ⟨t0, ts0, rfl, hts0⟩ := vcons hts
        obtain ⟨t1, ts1, rfl, hts1⟩ := vcons hts0
        obtain ⟨t2, ts2, rfl, hts2⟩ := vcons hts1
        obtain ⟨t3, ts3, rfl, hts3⟩ := vcons hts2
        obtain ⟨t4, ts4, rfl, hts4⟩ := vcons hts3
        obtain ⟨t5, ts5, rfl, hts5⟩ := vcons hts4
        obtain ⟨t6, ts6, rfl, hts6⟩ := vcons hts5
        obtain ⟨t7, ts7, rfl, hts7⟩ := vcons hts6
        obtain ⟨t8, ts8, rfl, hts8⟩ := vcons hts7
        obtain ⟨t9, ts9, rfl, hts9⟩ := vcons hts8
        obtain rfl := vnil hts9
        clear hts hts0 hts1 hts2 hts3 hts4 hts5 hts6 hts7 hts8 hts9
        simp only [putAll, nthO, Act.put, List.setIfInBounds_toArray, List.set_cons_succ, List.set_cons_zero]
        obtain ⟨rfl, -, rfl, -⟩ := hd
        have h1 : KRoom 0 r (.agg #[.slice C1 q1 f1, .slice C2 q2 f2, .slice C3 q3 f3, .slice C4 q4 f4, .slice C5 q5 f5]) wx := ⟨C1, C2, C3, C4, C5, q1, f1, q2, f2, q3, f3, q4, f4, q5, f5, r4, lo4, hi4, rfl, by omega, by have := hX.size; omega, hown5.ext hX, hl4⟩
        go_wp2_with fail
        refine (k_ApplyEvent h1 x).mono ?_
        rw [HRR.out]
        rintro e w2 ⟨v, rfl, hk, hx2⟩
        go_wp2_with fail
        exact ⟨hx2, _, rfl, hk.le hX.size⟩
      · intro ts wx hts hX hd
        obtain ⟨t0, ts0, rfl, hts0⟩ := vcons hts
        obtain ⟨t1, ts1, rfl, hts1⟩ := vcons hts0
        obtain ⟨t2, ts2, rfl, hts2⟩ := vcons hts1
        obtain ⟨t3, ts3, rfl, hts3⟩ := vcons hts2
        obtain ⟨t4, ts4, rfl, hts4⟩ := vcons hts3
        obtain ⟨t5, ts5, rfl, hts5⟩ := vcons hts4
        obtain ⟨t6, ts6, rfl, hts6⟩ := vcons hts5
        obtain ⟨t7, ts7, rfl, hts7⟩ := vcons hts6
        obtain ⟨t8, ts8, rfl, hts8⟩ := vcons hts7
        obtain ⟨t9, ts9, rfl, hts9⟩ := vcons hts8
        obtain rfl := vnil hts9
        clear hts hts0 hts1 hts2 hts3 hts4 hts5 hts6 hts7 hts8 hts9
        simp only [putAll, nthO, Act.put, List.setIfInBounds_toArray, List.set_cons_succ, List.set_cons_zero]
        obtain ⟨-, -, -, h1, -⟩ := hd
        go_wp2_with fail
        exact ⟨Ext.refl _, _, rfl, h1⟩
      · intro ts wx hts hX hd
        obtain ⟨t0, ts0, rfl, hts0⟩ := vcons hts
        obtain ⟨t1, ts1, rfl, hts1⟩ := vcons hts0
        obtain ⟨t2, ts2, rfl, hts2⟩ := vcons hts1
        obtain ⟨t3, ts3, rfl, hts3⟩ := vcons hts2
        obtain ⟨t4, ts4, rfl, hts4⟩ := vcons hts3
        obtain ⟨t5, ts5, rfl, hts5⟩ := vcons hts4
        obtain ⟨t6, ts6, rfl, hts6⟩ := vcons hts5
        obtain ⟨t7, ts7, rfl, hts7⟩ := vcons hts6
        obtain ⟨t8, ts8, rfl, hts8⟩ := vcons hts7
        obtain ⟨t9, ts9, rfl, hts9⟩ := vcons hts8
        obtain rfl := vnil hts9
        clear hts hts0 hts1 hts2 hts3 hts4 hts5 hts6 hts7 hts8 hts9
        simp only [putAll, nthO, Act.put, List.setIfInBounds_toArray, List.set_cons_succ, List.set_cons_zero]
        obtain ⟨-, -, -, -, ⟨a, rfl, h1⟩, -⟩ := hd
        go_wp2_with fail
        exact ⟨Ext.refl _, _, rfl, h1⟩
      · intro ts wx hts hX hd
        obtain ⟨t0, ts0, rfl, hts0⟩ := vcons hts
        obtain ⟨t1, ts1, rfl, hts1⟩ := vcons hts0
        obtain ⟨t2, ts2, rfl, hts2⟩ := vcons hts1
        obtain ⟨t3, ts3, rfl, hts3⟩ := vcons hts2
        obtain ⟨t4, ts4, rfl, hts4⟩ := vcons hts3
        obtain ⟨t5, ts5, rfl, hts5⟩ := vcons hts4
        obtain ⟨t6, ts6, rfl, hts6⟩ := vcons hts5
        obtain ⟨t7, ts7, rfl, hts7⟩ := vcons hts6
        obtain ⟨t8, ts8, rfl, hts8⟩ := vcons hts7
        obtain ⟨t9, ts9, rfl, hts9⟩ := vcons hts8
        obtain rfl := vnil hts9
        clear hts hts0 hts1 hts2 hts3 hts4 hts5 hts6 hts7 hts8 hts9
        simp only [putAll, nthO, Act.put, List.setIfInBounds_toArray, List.set_cons_succ, List.set_cons_zero]
        go_wp2_with fail
        exact ⟨Ext.alloc _ _, _, rfl, ⟨_, rfl, Row.new _ _ _, hX.size⟩⟩
    · refine ⟨?_, trivial⟩
      intro ts wx hts hX hd
      obtain ⟨t0, ts0, rfl, hts0⟩ := vcons hts
      obtain ⟨t1, ts1, rfl, hts1⟩ := vcons hts0
      obtain ⟨t2, ts2, rfl, hts2⟩ := vcons hts1
      obtain ⟨t3, ts3, rfl, hts3⟩ := vcons hts2
      obtain ⟨t4, ts4, rfl, hts4⟩ := vcons hts3
      obtain ⟨t5, ts5, rfl, hts5⟩ := vcons hts4
      obtain ⟨t6, ts6, rfl, hts6⟩ := vcons hts5
      obtain ⟨t7, ts7, rfl, hts7⟩ := vcons hts6
      obtain ⟨t8, ts8, rfl, hts8⟩ := vcons hts7
      obtain ⟨t9, ts9, rfl, hts9⟩ := vcons hts8
      obtain rfl := vnil hts9
      clear hts hts0 hts1 hts2 hts3 hts4 hts5 hts6 hts7 hts8 hts9
      simp only [putAll, nthO, Act.put, List.setIfInBounds_toArray, List.set_cons_succ, List.set_cons_zero]
      obtain ⟨-, -, -, -, ⟨a, rfl, h1⟩, -⟩ := hd
      repeat (go_big_quiet_step (fail))
      exact wpQuiet_nil ⟨_, rfl, rfl⟩
    intro ts wx hts hX hd
    obtain ⟨t0, ts0, rfl, hts0⟩ := vcons hts
    obtain ⟨t1, ts1, rfl, hts1⟩ := vcons hts0
    obtain ⟨t2, ts2, rfl, hts2⟩ := vcons hts1
    obtain ⟨t3, ts3, rfl, hts3⟩ := vcons hts2
    obtain ⟨t4, ts4, rfl, hts4⟩ := vcons hts3
    obtain ⟨t5, ts5, rfl, hts5⟩ := vcons hts4
    obtain ⟨t6, ts6, rfl, hts6⟩ := vcons hts5
    obtain ⟨t7, ts7, rfl, hts7⟩ := vcons hts6
    obtain ⟨t8, ts8, rfl, hts8⟩ := vcons hts7
    obtain ⟨t9, ts9, rfl, hts9⟩ := vcons hts8
    obtain rfl := vnil hts9
    clear hts hts0 hts1 hts2 hts3 hts4 hts5 hts6 hts7 hts8 hts9
    simp only [putAll, Act.put, List.setIfInBounds_toArray, List.set_cons_succ, List.set_cons_zero]
    obtain ⟨-, -, -, -, -, h6, ⟨gI, rfl, hgI, hgIl⟩, h7, -⟩ := hd
    obtain ⟨I1, I2, I3, I4, I5, i1, k1, i2, k2, i3, k3, i4, k4, i5, k5, ri, loI, hiI, rfl, hI1, hI2, hoI, hlI⟩ := h6
    obtain rfl := h7
    have p0 := hgI.cell 0
    have p1 := hgI.cell 1
    have p2 := hgI.cell 2
    have p3 := hgI.cell 3
    have p4 := hgI.cell 4
    have pf := hgI.frozen
    have pl := hgI.lt
    simp only [List.getElem?_cons_zero, List.getElem?_cons_succ] at p0 p1 p2 p3 p4
    simp only [wpPhT, pickL, nthO]
    refine wpQuiet_nil ?_
    go_wp2_with fail
    refine ⟨fun _ h => (by cases h), ?_⟩
    repeat (go_big_quiet_step (fail))
    refine wpQuiet_nil ?_
    have rI := five_row (u0 := .slice I1 i1 k1) (u1 := .slice I2 i2 k2) (u2 := .slice I3 i3 k3) (u3 := .slice I4 i4 k4) (u4 := .slice I5 i5 k5) hgI
    have tI := (Turn.refl (S := fun b => b = gI) wx).five (g := gI) rfl (.slice I1 i1 k1) (.slice I2 i2 k2) (.slice I3 i3 k3) (.slice I4 i4 k4) (.slice I5 i5 k5)
    have hoI6 := hoI.turnR tI (fun b hb => by subst hb; exact ⟨_, hgI⟩)
    have hX6 : Ext W5 (((((wx.setCell ⟨gI, 0, none⟩ (.slice I1 i1 k1)).setCell ⟨gI, 1, none⟩ (.slice I2 i2 k2)).setCell ⟨gI, 2, none⟩ (.slice I3 i3 k3)).setCell ⟨gI, 3, none⟩ (.slice I4 i4 k4)).setCell ⟨gI, 4, none⟩ (.slice I5 i5 k5)) := hX.turn tI (fun b hb => by omega)
    have hI2 : hiI ≤ ((((((wx.setCell ⟨gI, 0, none⟩ (.slice I1 i1 k1)).setCell ⟨gI, 1, none⟩ (.slice I2 i2 k2)).setCell ⟨gI, 2, none⟩ (.slice I3 i3 k3)).setCell ⟨gI, 3, none⟩ (.slice I4 i4 k4)).setCell ⟨gI, 4, none⟩ (.slice I5 i5 k5))).heap.size := Nat.le_trans hI2 tI.size
    generalize (((((wx.setCell ⟨gI, 0, none⟩ (.slice I1 i1 k1)).setCell ⟨gI, 1, none⟩ (.slice I2 i2 k2)).setCell ⟨gI, 2, none⟩ (.slice I3 i3 k3)).setCell ⟨gI, 3, none⟩ (.slice I4 i4 k4)).setCell ⟨gI, 4, none⟩ (.slice I5 i5 k5)) = W6 at *
    clear p0 p1 p2 p3 p4 pf pl tI hoI hgI hX
    have X6 := X5.trans hX6
    have hx36 := hx35.trans hX6
    obtain ⟨ha, a0, a1, a2, a3, a4⟩ := row_in rI
    obtain ⟨hb, b0, b1, b2, b3, b4⟩ := (row_in rS).ext hx36
    go_wp2_with fail
    refine (c_eqRoom I1 I2 I3 I4 I5 i1 k1 i2 k2 i3 k3 i4 k4 i5 k5 S1 S2 S3 S4 S5 s1 e1 s2 e2 s3 e3 s4 e4 s5 e5 ri rs _ hoI6.at_ (hoS3.ext hx36).at_ (hlI.trans hlS.symm)).mono ?_
    rintro e w7 ⟨rfl, hx7⟩
    have X7 := X6.trans hx7
    have hx57 := hX6.trans hx7
    clear ha a0 a1 a2 a3 a4 hb b0 b1 b2 b3 b4
    obtain ⟨ha, a0, a1, a2, a3, a4⟩ := (row_in rX).ext hx57
    obtain ⟨hb, b0, b1, b2, b3, b4⟩ := hin.ext (hx1.trans (hX3.trans (hx35.trans hx57)))
    go_wp2_with fail
    refine wp_region_ph [([0, 1], 2), ([], 3)] [4] (by kernel_rfl) (by kernel_rfl) (by intro c a w d v h; cases d <;> exact h) ?_
    simp only [wpPh, pickL, nthO]
    repeat (go_big_quiet_step (fail))
    refine wpQuiet_nil ?_
    go_wp2_with fail
    refine (k_toRoom A1 A2 A3 A4 A5 n1 c1 n2 c2 n3 c3 n4 c4 n5 c5 r _ (hat.ext X7.drew) hz hl).mono ?_
    rintro e w8 ⟨_, rfl, ⟨D1, D2, D3, D4, D5, t1, u1, t2, u2, t3, u3, t4, u4, t5, u5, r6, lo8, hi8, rfl, _, _, hown8, hl8⟩, hx8⟩
    go_wp2_with fail
    refine ⟨hx8, wpQuiet_nil ?_⟩
    go_wp2_with fail
    refine (c_eqRoom C1 C2 C3 C4 C5 q1 f1 q2 f2 q3 f3 q4 f4 q5 f5 D1 D2 D3 D4 D5 t1 u1 t2 u2 t3 u3 t4 u4 t5 u5 r4 r6 _ (hown5.ext (hx57.drew.trans hx8)).at_ hown8.at_ (hl4.trans hl8.symm)).mono ?_
    rintro e w9 ⟨rfl, hx9⟩
    have hx79 : Ext w7 w9 := (Ext.refl _).drew.trans (hx8.trans hx9)
    have hx59 := hx57.trans hx79
    have X9 := X7.trans hx79
    clear ha a0 a1 a2 a3 a4 hb b0 b1 b2 b3 b4
    obtain ⟨ha, a0, a1, a2, a3, a4⟩ := (row_in rX).ext hx59
    go_wp2_with fail
    refine ⟨hx9, ?_⟩
    repeat (go_big_quiet_step (fail))
    refine wpQuiet_nil ?_
    go_wp2_with fail
    have hsm4 := own_sm hown5 hl4 hl
    refine (b_markRoom _ _ C1 C2 C3 C4 C5 q1 f1 q2 f2 q3 f3 q4 f4 q5 f5 r4 1 _ (hown5.ext hx59) hsm4 (by omega) (by omega)).mono ?_
    rintro e w10 ⟨rfl, _, tr10⟩
    have in10 := fun b hb => hown5.mk_in (b := b) hb
    clear ha a0 a1 a2 a3 a4
    have X10 := X9.turn tr10 (fun b hb => by have := in10 b hb; omega)
    have hoS10 := (hoS3.ext (hx35.trans hx59)).turn tr10 (fun b hb => by have := in10 b hb; omega)
    have hoI10 := (hoI6.ext (hx7.trans hx79)).turn tr10 (fun b hb => by have := in10 b hb; omega)
    have rS10 := (rS.ext (hx35.trans hx59)).turn tr10 (fun hb => by have := in10 _ hb; have := rS.lt; omega)
    have rI10 := (rI.ext (hx7.trans hx79)).turn tr10 (fun hb => by have := in10 _ hb; omega)
    have hin10 := hin.ext (hx1.trans (hX3.trans (hx35.trans hx59)))
    have hm0 : decide (markN 1 q1 q2 q3 q4 r4.rs < 0) = false := by rw [decide_eq_false_iff_not]; unfold markN; omega
    obtain ⟨ha, a0, a1, a2, a3, a4⟩ := row_in rI10
    obtain ⟨hb, b0, b1, b2, b3, b4⟩ := row_in rS10
    generalize markN 1 q1 q2 q3 q4 r4.rs = mk at *
    go_wp2_with fail
    refine (c_eqRoom I1 I2 I3 I4 I5 i1 k1 i2 k2 i3 k3 i4 k4 i5 k5 S1 S2 S3 S4 S5 s1 e1 s2 e2 s3 e3 s4 e4 s5 e5 ri rs _ hoI10.at_ hoS10.at_ (hlI.trans hlS.symm)).mono ?_
    rintro e w11 ⟨rfl, hx11⟩
    have X11 := X10.trans hx11
    clear ha a0 a1 a2 a3 a4 hb b0 b1 b2 b3 b4 hm0
    obtain ⟨ha, a0, a1, a2, a3, a4⟩ := (row_in rI10).ext hx11
    go_wp2_with fail
    have hsmI := own_sm hoI10 hlI hRL
    refine (b_markRoom _ _ I1 I2 I3 I4 I5 i1 k1 i2 k2 i3 k3 i4 k4 i5 k5 ri 1 _ (hoI10.ext hx11) hsmI (by omega) (by omega)).mono ?_
    rintro e w12 ⟨rfl, hmk, tr12⟩
    have in12 := fun b hb => hoI10.mk_in (b := b) hb
    clear ha a0 a1 a2 a3 a4
    have X12 := X11.turn tr12 (fun b hb => by have := in12 b hb; omega)
    have hoS12 := (hoS10.ext hx11).turn tr12 (fun b hb => by have := in12 b hb; omega)
    have rS12 := (rS10.ext hx11).turn tr12 (fun hb => by have := in12 _ hb; have := rS.lt; omega)
    have rI12 := (rI10.ext hx11).turn tr12 ((hoI10.ext hx11).mk_ne (rI10.ext hx11))
    have hm1 : ¬ markN 1 i1 i2 i3 i4 ri.rs < 0 := by unfold markN; omega
    obtain ⟨ha, a0, a1, a2, a3, a4⟩ := row_in rI12
    go_wp2_with fail
    refine (c_heldRoom I1 I2 I3 I4 I5 i1 k1 i2 k2 i3 k3 i4 k4 i5 k5 ri.rs 1 _ hmk hsmI (by omega) (by omega)).mono ?_
    rintro e w13 ⟨rfl, hx13⟩
    have X13 := X12.trans hx13
    have hlo13 := X13.size
    have hlo03 := (hx1.trans hX3).size
    have hlo35 := hx35.size
    have t113 : Turn (fun b => W0.heap.size ≤ b) W0 w13 := by
      refine (Turn.of_ext (hx1.trans (hX3.trans (hx35.trans (hX6.trans (hx7.trans hx79)))))).trans ((tr10.mono (fun b hb => by have := in10 b hb; omega)).trans ((Turn.of_ext hx11).trans ((tr12.mono (fun b hb => by have := in12 b hb; omega)).trans (Turn.of_ext hx13))))
    have hx113 : Ext W0 w13 := (Ext.refl W0).turn t113 (fun b hb => hb)
    clear ha a0 a1 a2 a3 a4
    generalize hMK : markN 1 i1 i2 i3 i4 ri.rs = mI at *
    have HMK := hide hMK
    clear hMK
    go_wp2_with fail
    refine wp_region_KP [KC (.agg #[.slice A1 n1 c1, .slice A2 n2 c2, .slice A3 n3 c3, .slice A4 n4 c4, .slice A5 n5 c5]), KRoom w13.heap.size r, KC (.agg #[.int .i64 x.kind, .int .i64 x.a, .int .i64 x.b, .int .i64 x.c, .int .i64 x.d]), KC (.agg #[.int .i64 x.kind, .int .i64 x.a, .int .i64 x.b, .int .i64 x.c, .int .i64 x.d]), KRC w13.heap.size RR, KRC w13.heap.size RR, KRoom w13.heap.size RR.1, KC (.int .i64 RR.2), KR w13.heap.size 32 [.slice none 0 0, .slice none 0 0, .slice none 0 0, .slice none 0 0, .slice none 0 0]]
      [0, 1, 2, 3, 4, 5, 6, 8] [7] [[], [0], [], [0, 1, 2], [0, 1, 2, 3], [0, 1, 2, 3, 4], [0, 1, 2, 3, 4, 5], [0, 1, 2, 3, 4, 5], [], [0, 1, 2, 3, 4, 5, 6, 8], [0, 1, 2, 3, 4, 5, 6, 7, 8, 9]] [] (.one [] 9 (.last [10])) (by kernel_rfl) (by kernel_rfl) (by intro c a w d v h; cases d <;> exact h) (by simp) ⟨stKC _, stKRoom _ _, stKC _, stKC _, stKRC _ _, stKRC _ _, stKRoom _ _, stKC _, stKR _ _ _, trivial⟩ ?_ ?_ ?_
    · refine ⟨?_, ?_, ?_, ?_, ?_, ?_, ?_, ?_, trivial⟩
      · intro ts wx hts hX hd
        obtain ⟨t0, ts0, rfl, hts0⟩ := vcons hts
        obtain ⟨t1, ts1, rfl, hts1⟩ := vcons hts0
        obtain ⟨t2, ts2, rfl, hts2⟩ := vcons hts1
        obtain ⟨t3, ts3, rfl, hts3⟩ := vcons hts2
        obtain ⟨t4, ts4, rfl, hts4⟩ := vcons hts3
        obtain ⟨t5, ts5, rfl, hts5⟩ := vcons hts4
        obtain ⟨t6, ts6, rfl, hts6⟩ := vcons hts5
        obtain ⟨t7, ts7, rfl, hts7⟩ := vcons hts6
        obtain ⟨t8, ts8, rfl, hts8⟩ := vcons hts7
        obtain ⟨t9, ts9, rfl, hts9⟩ := vcons hts8
        obtain ⟨t10, ts10, rfl, hts10⟩ := vcons hts9
        obtain rfl := vnil hts10
        clear hts hts0 hts1 hts2 hts3 hts4 hts5 hts6 hts7 hts8 hts9 hts10
        simp only [putAll, nthO, Act.put, List.setIfInBounds_toArray, List.set_cons_succ, List.set_cons_zero]
        obtain ⟨hlt, y0, y1, y2, y3, y4⟩ := (hin.ext hx113).ext hX
        go_wp2_with fail
        exact ⟨Ext.refl _, _, rfl, rfl⟩
      · intro ts wx hts hX hd
        obtain ⟨t0, ts0, rfl, hts0⟩ := vcons hts
        obtain ⟨t1, ts1, rfl, hts1⟩ := vcons hts0
        obtain ⟨t2, ts2, rfl, hts2⟩ := vcons hts1
        obtain ⟨t3, ts3, rfl, hts3⟩ := vcons hts2
        obtain ⟨t4, ts4, rfl, hts4⟩ := vcons hts3
        obtain ⟨t5, ts5, rfl, hts5⟩ := vcons hts4
        obtain ⟨t6, ts6, rfl, hts6⟩ := vcons hts5
        obtain ⟨t7, ts7, rfl, hts7⟩ := vcons hts6
        obtain ⟨t8, ts8, rfl, hts8⟩ := vcons hts7
        obtain ⟨t9, ts9, rfl, hts9⟩ := vcons hts8
        obtain ⟨t10, ts10, rfl, hts10⟩ := vcons hts9
        obtain rfl := vnil hts10
        clear hts hts0 hts1 hts2 hts3 hts4 hts5 hts6 hts7 hts8 hts9 hts10
        simp only [putAll, nthO, Act.put, List.setIfInBounds_toArray, List.set_cons_succ, List.set_cons_zero]
        obtain ⟨rfl, -⟩ := hd
        go_wp2_with fail
        refine (k_toRoom A1 A2 A3 A4 A5 n1 c1 n2 c2 n3 c3 n4 c4 n5 c5 r _ (hat.ext (X13.trans hX)) hz hl).mono ?_
        rintro e w2 ⟨v, rfl, hk, hx2⟩
        go_wp2_with fail
        exact ⟨hx2, _, rfl, hk.le hX.size⟩
      · intro ts wx hts hX hd
        obtain ⟨t0, ts0, rfl, hts0⟩ := vcons hts
        obtain ⟨t1, ts1, rfl, hts1⟩ := vcons hts0
        obtain ⟨t2, ts2, rfl, hts2⟩ := vcons hts1
        obtain ⟨t3, ts3, rfl, hts3⟩ := vcons hts2
        obtain ⟨t4, ts4, rfl, hts4⟩ := vcons hts3
        obtain ⟨t5, ts5, rfl, hts5⟩ := vcons hts4
        obtain ⟨t6, ts6, rfl, hts6⟩ := vcons hts5
        obtain ⟨t7, ts7, rfl, hts7⟩ := vcons hts6
        obtain ⟨t8, ts8, rfl, hts8⟩ := vcons hts7
        obtain ⟨t9, ts9, rfl, hts9⟩ := vcons hts8
        obtain ⟨t10, ts10, rfl, hts10⟩ := vcons hts9
        obtain rfl := vnil hts10
        clear hts hts0 hts1 hts2 hts3 hts4 hts5 hts6 hts7 hts8 hts9 hts10
        simp only [putAll, nthO, Act.put, List.setIfInBounds_toArray, List.set_cons_succ, List.set_cons_zero]
        obtain ⟨hle, z0, z1, z2, z3, z4⟩ := (hei.ext hx113).ext hX
        go_wp2_with fail
        exact ⟨Ext.refl _, _, rfl, rfl⟩
      · intro ts wx hts hX hd
        obtain ⟨t0, ts0, rfl, hts0⟩ := vcons hts
        obtain ⟨t1, ts1, rfl, hts1⟩ := vcons hts0
        obtain ⟨t2, ts2, rfl, hts2⟩ := vcons hts1
        obtain ⟨t3, ts3, rfl, hts3⟩ := vcons hts2
        obtain ⟨t4, ts4, rfl, hts4⟩ := vcons hts3
        obtain ⟨t5, ts5, rfl, hts5⟩ := vcons hts4
        obtain ⟨t6, ts6, rfl, hts6⟩ := vcons hts5
        obtain ⟨t7, ts7, rfl, hts7⟩ := vcons hts6
        obtain ⟨t8, ts8, rfl, hts8⟩ := vcons hts7
        obtain ⟨t9, ts9, rfl, hts9⟩ := vcons hts8
        obtain ⟨t10, ts10, rfl, hts10⟩ := vcons hts9
        obtain rfl := vnil hts10
        clear hts hts0 hts1 hts2 hts3 hts4 hts5 hts6 hts7 hts8 hts9 hts10
        simp only [putAll, nthO, Act.put, List.setIfInBounds_toArray, List.set_cons_succ, List.set_cons_zero]
        obtain ⟨-, -, rfl, -⟩ := hd
        go_wp2_with fail
        refine (c_toEvent x _).mono ?_
        rintro e w2 ⟨rfl, hx2⟩
        go_wp2_with fail
        exact ⟨hx2, _, rfl, rfl⟩
      · intro ts wx hts hX hd
        obtain ⟨t0, ts0, rfl, hts0⟩ := vcons hts
        obtain ⟨t1, ts1, rfl, hts1⟩ := vcons hts0
        obtain ⟨t2, ts2, rfl, hts2⟩ := vcons hts1
        obtain ⟨t3, ts3, rfl, hts3⟩ := vcons hts2
        obtain ⟨t4, ts4, rfl, hts4⟩ := vcons hts3
        obtain ⟨t5, ts5, rfl, hts5⟩ := vcons hts4
        obtain ⟨t6, ts6, rfl, hts6⟩ := vcons hts5
        obtain ⟨t7, ts7, rfl, hts7⟩ := vcons hts6
        obtain ⟨t8, ts8, rfl, hts8⟩ := vcons hts7
        obtain ⟨t9, ts9, rfl, hts9⟩ := vcons hts8
        obtain ⟨t10, ts10, rfl, hts10⟩ := vcons hts9
        obtain rfl := vnil hts10
        clear hts hts0 hts1 hts2 hts3 hts4 hts5 hts6 hts7 hts8 hts9 hts10
        simp only [putAll, nthO, Act.put, List.setIfInBounds_toArray, List.set_cons_succ, List.set_cons_zero]
        obtain ⟨-, h1, -, rfl, -⟩ := hd
        go_wp2_with fail
        refine (k_ApplyEvent h1 x).mono ?_
        rw [HRR.out]
        rintro e w2 ⟨v, rfl, hk, hx2⟩
        go_wp2_with fail
        exact ⟨hx2, _, rfl, hk.le hX.size⟩
      · intro ts wx hts hX hd
        obtain ⟨t0, ts0, rfl, hts0⟩ := vcons hts
        obtain ⟨t1, ts1, rfl, hts1⟩ := vcons hts0
        obtain ⟨t2, ts2, rfl, hts2⟩ := vcons hts1
        obtain ⟨t3, ts3, rfl, hts3⟩ := vcons hts2
        obtain ⟨t4, ts4, rfl, hts4⟩ := vcons hts3
        obtain ⟨t5, ts5, rfl, hts5⟩ := vcons hts4
        obtain ⟨t6, ts6, rfl, hts6⟩ := vcons hts5
        obtain ⟨t7, ts7, rfl, hts7⟩ := vcons hts6
        obtain ⟨t8, ts8, rfl, hts8⟩ := vcons hts7
        obtain ⟨t9, ts9, rfl, hts9⟩ := vcons hts8
        obtain ⟨t10, ts10, rfl, hts10⟩ := vcons hts9
        obtain rfl := vnil hts10
        clear hts hts0 hts1 hts2 hts3 hts4 hts5 hts6 hts7 hts8 hts9 hts10
        simp only [putAll, nthO, Act.put, List.setIfInBounds_toArray, List.set_cons_succ, List.set_cons_zero]
        obtain ⟨-, -, -, -, h1, -⟩ := hd
        go_wp2_with fail
        exact ⟨Ext.refl _, _, rfl, h1⟩
      · intro ts wx hts hX hd
        obtain ⟨t0, ts0, rfl, hts0⟩ := vcons hts
        obtain ⟨t1, ts1, rfl, hts1⟩ := vcons hts0
        obtain ⟨t2, ts2, rfl, hts2⟩ := vcons hts1
        obtain ⟨t3, ts3, rfl, hts3⟩ := vcons hts2
        obtain ⟨t4, ts4, rfl, hts4⟩ := vcons hts3
        obtain ⟨t5, ts5, rfl, hts5⟩ := vcons hts4
        obtain ⟨t6, ts6, rfl, hts6⟩ := vcons hts5
        obtain ⟨t7, ts7, rfl, hts7⟩ := vcons hts6
        obtain ⟨t8, ts8, rfl, hts8⟩ := vcons hts7
        obtain ⟨t9, ts9, rfl, hts9⟩ := vcons hts8
        obtain ⟨t10, ts10, rfl, hts10⟩ := vcons hts9
        obtain rfl := vnil hts10
        clear hts hts0 hts1 hts2 hts3 hts4 hts5 hts6 hts7 hts8 hts9 hts10
        simp only [putAll, nthO, Act.put, List.setIfInBounds_toArray, List.set_cons_succ, List.set_cons_zero]
        obtain ⟨-, -, -, -, -, ⟨a, rfl, h1⟩, -⟩ := hd
        go_wp2_with fail
        exact ⟨Ext.refl _, _, rfl, h1⟩
      · intro ts wx hts hX hd
        obtain ⟨t0, ts0, rfl, hts0⟩ := vcons hts
        obtain ⟨t1, ts1, rfl, hts1⟩ := vcons hts0
        obtain ⟨t2, ts2, rfl, hts2⟩ := vcons hts1
        obtain ⟨t3, ts3, rfl, hts3⟩ := vcons hts2
        obtain ⟨t4, ts4, rfl, hts4⟩ := vcons hts3
        obtain ⟨t5, ts5, rfl, hts5⟩ := vcons hts4
        obtain ⟨t6, ts6, rfl, hts6⟩ := vcons hts5
        obtain ⟨t7, ts7, rfl, hts7⟩ := vcons hts6
        obtain ⟨t8, ts8, rfl, hts8⟩ := vcons hts7
        obtain ⟨t9, ts9, rfl, hts9⟩ := vcons hts8
        obtain ⟨t10, ts10, rfl, hts10⟩ := vcons hts9
        obtain rfl := vnil hts10
        clear hts hts0 hts1 hts2 hts3 hts4 hts5 hts6 hts7 hts8 hts9 hts10
        simp only [putAll, nthO, Act.put, List.setIfInBounds_toArray, List.set_cons_succ, List.set_cons_zero]
        go_wp2_with fail
        exact ⟨Ext.alloc _ _, _, rfl, ⟨_, rfl, Row.new _ _ _, hX.size⟩⟩
    · refine ⟨?_, trivial⟩
      intro ts wx hts hX hd
      obtain ⟨t0, ts0, rfl, hts0⟩ := vcons hts
      obtain ⟨t1, ts1, rfl, hts1⟩ := vcons hts0
      obtain ⟨t2, ts2, rfl, hts2⟩ := vcons hts1
      obtain ⟨t3, ts3, rfl, hts3⟩ := vcons hts2
      obtain ⟨t4, ts4, rfl, hts4⟩ := vcons hts3
      obtain ⟨t5, ts5, rfl, hts5⟩ := vcons hts4
      obtain ⟨t6, ts6, rfl, hts6⟩ := vcons hts5
      obtain ⟨t7, ts7, rfl, hts7⟩ := vcons hts6
      obtain ⟨t8, ts8, rfl, hts8⟩ := vcons hts7
      obtain ⟨t9, ts9, rfl, hts9⟩ := vcons hts8
      obtain ⟨t10, ts10, rfl, hts10⟩ := vcons hts9
      obtain rfl := vnil hts10
      clear hts hts0 hts1 hts2 hts3 hts4 hts5 hts6 hts7 hts8 hts9 hts10
      simp only [putAll, nthO, Act.put, List.setIfInBounds_toArray, List.set_cons_succ, List.set_cons_zero]
      obtain ⟨-, -, -, -, -, ⟨a, rfl, h1⟩, -⟩ := hd
      repeat (go_big_quiet_step (fail))
      exact wpQuiet_nil ⟨_, rfl, rfl⟩
    intro ts wx hts hX hd
    obtain ⟨t0, ts0, rfl, hts0⟩ := vcons hts
    obtain ⟨t1, ts1, rfl, hts1⟩ := vcons hts0
    obtain ⟨t2, ts2, rfl, hts2⟩ := vcons hts1
    obtain ⟨t3, ts3, rfl, hts3⟩ := vcons hts2
    obtain ⟨t4, ts4, rfl, hts4⟩ := vcons hts3
    obtain ⟨t5, ts5, rfl, hts5⟩ := vcons hts4
    obtain ⟨t6, ts6, rfl, hts6⟩ := vcons hts5
    obtain ⟨t7, ts7, rfl, hts7⟩ := vcons hts6
    obtain ⟨t8, ts8, rfl, hts8⟩ := vcons hts7
    obtain ⟨t9, ts9, rfl, hts9⟩ := vcons hts8
    obtain ⟨t10, ts10, rfl, hts10⟩ := vcons hts9
    obtain rfl := vnil hts10
    clear hts hts0 hts1 hts2 hts3 hts4 hts5 hts6 hts7 hts8 hts9 hts10
    simp only [putAll, Act.put, List.setIfInBounds_toArray, List.set_cons_succ, List.set_cons_zero]
    obtain ⟨-, -, -, -, -, -, h6, ⟨gJ, rfl, hgJ, hgJl⟩, h7, -⟩ := hd
    obtain ⟨J1, J2, J3, J4, J5, j1, l1, j2, l2, j3, l3, j4, l4, j5, l5, rj, loJ, hiJ, rfl, hJ1, hJ2, hoJ, hlJ⟩ := h6
    obtain rfl := h7
    have p0 := hgJ.cell 0
    have p1 := hgJ.cell 1
    have p2 := hgJ.cell 2
    have p3 := hgJ.cell 3
    have p4 := hgJ.cell 4
    have pf := hgJ.frozen
    have pl := hgJ.lt
    simp only [List.getElem?_cons_zero, List.getElem?_cons_succ] at p0 p1 p2 p3 p4
    simp only [wpPhT, pickL, nthO]
    refine wpQuiet_nil ?_
    go_wp2_with fail
    refine ⟨fun _ h => (by cases h), ?_⟩
    repeat (go_big_quiet_step (fail))
    refine wpQuiet_nil ?_
    have rJ := five_row (u0 := .slice J1 j1 l1) (u1 := .slice J2 j2 l2) (u2 := .slice J3 j3 l3) (u3 := .slice J4 j4 l4) (u4 := .slice J5 j5 l5) hgJ
    have tJ := (Turn.refl (S := fun b => b = gJ) wx).five (g := gJ) rfl (.slice J1 j1 l1) (.slice J2 j2 l2) (.slice J3 j3 l3) (.slice J4 j4 l4) (.slice J5 j5 l5)
    have hoJ6 := hoJ.turnR tJ (fun b hb => by subst hb; exact ⟨_, hgJ⟩)
    have hX14 : Ext w13 (((((wx.setCell ⟨gJ, 0, none⟩ (.slice J1 j1 l1)).setCell ⟨gJ, 1, none⟩ (.slice J2 j2 l2)).setCell ⟨gJ, 2, none⟩ (.slice J3 j3 l3)).setCell ⟨gJ, 3, none⟩ (.slice J4 j4 l4)).setCell ⟨gJ, 4, none⟩ (.slice J5 j5 l5)) := hX.turn tJ (fun b hb => by omega)
    generalize (((((wx.setCell ⟨gJ, 0, none⟩ (.slice J1 j1 l1)).setCell ⟨gJ, 1, none⟩ (.slice J2 j2 l2)).setCell ⟨gJ, 2, none⟩ (.slice J3 j3 l3)).setCell ⟨gJ, 3, none⟩ (.slice J4 j4 l4)).setCell ⟨gJ, 4, none⟩ (.slice J5 j5 l5)) = W14 at *
    clear p0 p1 p2 p3 p4 pf pl tJ hoJ hgJ hX
    obtain ⟨ha, a0, a1, a2, a3, a4⟩ := row_in rJ
    obtain ⟨hb, b0, b1, b2, b3, b4⟩ := (row_in rS12).ext (hx13.trans hX14)
    go_wp2_with fail
    refine (c_eqRoom J1 J2 J3 J4 J5 j1 l1 j2 l2 j3 l3 j4 l4 j5 l5 S1 S2 S3 S4 S5 s1 e1 s2 e2 s3 e3 s4 e4 s5 e5 rj rs _ hoJ6.at_ (hoS12.ext (hx13.trans hX14)).at_ (hlJ.trans hlS.symm)).mono ?_
    rintro e w15 ⟨rfl, hx15⟩
    clear ha a0 a1 a2 a3 a4 hb b0 b1 b2 b3 b4
    have hx1215 := hx13.trans (hX14.trans hx15)
    obtain ⟨ha, a0, a1, a2, a3, a4⟩ := (row_in rI12).ext hx1215
    go_wp2_with fail
    refine (c_heldRoom I1 I2 I3 I4 I5 i1 k1 i2 k2 i3 k3 i4 k4 i5 k5 ri.rs 1 _ (hmk.ext hx1215) hsmI (by omega) (by omega)).mono ?_
    rw [HMK.out]
    rintro e w16 ⟨rfl, hx16⟩
    go_wp2_with fail
    go_ret
    exact Ret.bool rfl (X12.trans (hx1215.trans hx16))
set_option maxRecDepth 100000 in
theorem lifted_ApplyEvent (os : Os) (started : os.Started) (H : Type) (enc : TypeId × Value → H) :
    ReturnsInHanded {} Tryz.checked os 5 .any (Rows.fnExactApplyEventSpec.pre6 enc Tryz.prog Tryz.f5 Rows.fnExactApplyEventRow.domain false) (Rows.fnExactApplyEventSpec.post enc Tryz.prog Tryz.f5 false true false false) := by
  refine returnsInHanded_of_change (C := Tryz.checked) own started (by kernel_rfl) Tryz.func5
    (ChangeSpec.witness6 (enc := enc) (C := Tryz.checked) false ⟨#[], #[.agg #[.slice none 0 0, .slice none 0 0, .slice none 0 0, .slice none 0 0, .slice none 0 0], .agg #[.int .i64 0, .int .i64 0, .int .i64 0, .int .i64 0, .int .i64 0]], []⟩ 8 (by kernel_rfl) (by kernel_rfl) (by kernel_rfl) (by kernel_rfl)) ?_
  intro W base args ds gs before hval0 hW _ _
  have hval : ∀ (j : Nat) t v, Tryz.f5.params[j]? = some t → args[j]? = some v → Value.okWide Tryz.prog W .any base t v := hval0
  have hW' := hW
  obtain ⟨p, q, hA0, hV, rfl, hfz, hnd⟩ := hW
  have hA : DataW.TrodAll enc Tryz.prog W 0 (fun _ => true) true Tryz.f5.params.toList args.toList ds p := hA0
  rw [Tryz.params5] at hA hval
  obtain ⟨v0, vs0, d0, ds0, p0, q0, hargs, rfl, rfl, h0, r0⟩ := trodAll_cons hA
  obtain ⟨v1, vs1, d1, ds1, p1, q1, rfl, rfl, rfl, h1, r1⟩ := trodAll_cons r0
  obtain ⟨rfl, rfl, rfl⟩ := trodAll_nil r1
  obtain rfl : args = #[v0, v1] := by cases args; simp_all
  obtain ⟨rfl, rfl⟩ := trodVars_none hV
  have k0 := h0
  have k1 := h1
  have lt0 : ∀ x ∈ p0, x.block < W.heap.size := by obtain ⟨m, hm⟩ := k0; exact DataW.trod_lt m _ _ _ hm
  have lt1 : ∀ x ∈ p1, x.block < W.heap.size := by obtain ⟨m, hm⟩ := k1; exact DataW.trod_lt m _ _ _ hm
  obtain ⟨A1, A2, A3, A4, A5, n1, c1, n2, c2, n3, c3, n4, c4, n5, c5, r, rfl, hat, hnm⟩ := open_room (hval 0 51 v0 rfl rfl) h0
  obtain ⟨x0, x1, x2, x3, x4, y0, y1, y2, y3, y4, m, e1, _, _, g0, g1, g2, g3, g4⟩ := open_agg5 Tryz.underlying55 (by kernel_rfl) (by kernel_rfl) (hval 1 55 v1 rfl rfl) h1
  obtain ⟨z0, e0', _, _⟩ := DataW.trod_int Tryz.underlying2 g0
  obtain ⟨z1, e1', _, _⟩ := DataW.trod_int Tryz.underlying2 g1
  obtain ⟨z2, e2', _, _⟩ := DataW.trod_int Tryz.underlying2 g2
  obtain ⟨z3, e3', _, _⟩ := DataW.trod_int Tryz.underlying2 g3
  obtain ⟨z4, e4', _, _⟩ := DataW.trod_int Tryz.underlying2 g4
  simp at e0' e1' e2' e3' e4'
  subst e0' e1' e2' e3' e4'
  rw [e1]
  clear hA0 hval0
  refine (law_ApplyEvent A1 A2 A3 A4 A5 n1 c1 n2 c2 n3 c3 n4 c4 n5 c5 r ⟨z0, z1, z2, z3, z4⟩ W hat hnm).mono fun e W' ⟨he, bel⟩ => ?_
  subst he
  rw [e1] at hW'
  exact ⟨_, rfl, _, _, _, [], _, [], hW', trodAll_mk1 (shut_bool Tryz.underlying4 _), (trodAll_cons_mk (Below.trod laidOut (by kernel_rfl) (of_decide_eq_true (by kernel_rfl)) k0 bel lt0) (trodAll_cons_mk (Below.trod laidOut (by kernel_rfl) (of_decide_eq_true (by kernel_rfl)) (e1 ▸ k1) bel lt1) trodAll_mk0)), rfl, bel.frame _, fun h => by cases h⟩

theorem holds_ApplyEvent : Rows.FnExactApplyEventSaid :=
  OpenClaim.holds_of_wide 5 Tryz.f5 rfl rfl rfl rfl rfl rfl rfl ⟨rfl, rfl, rfl, rfl, rfl⟩ rfl rfl rfl rfl rfl (by kernel_rfl) Tryz.func5 (by kernel_rfl)
    (of_decide_eq_true (by kernel_rfl)) (by unfold Func.isWrapper; first | (rw [if_pos (by decide +kernel)]; kernel_rfl) | (rw [if_neg (by decide +kernel)]; exact ⟨rfl, rfl⟩))
    (fun os started H enc _ => lifted_ApplyEvent os started H enc)
#print axioms holds_ApplyEvent
end Go.Proofs.YtjpmiokbgpggbaaGreat
