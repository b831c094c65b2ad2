/-
  FnAllocated: for every code the law returns true and the code reads as before.
-/
import Derived.Test.YtegkeeeohileiaaSa45
import Derived.Test.YtegkeeeohileiaaSa48
import Derived.Test.YtegkeeeohileiaaSa49
import Derived.Test.YtegkeeeohileiaaSa50
namespace Go.Proofs.Ytegkeeeohileiaa
open Go.RowKit Go.ChangeShapes Go.WideShapes Go.ChangeAt Go.Deep Go.Joins
theorem c_lawSum (A : Option Addr) (n c : Nat) (zs : List Int) (w : World) (hs : SliceOf w 1 intC A n c zs) (hz : allB zs (-1000000000) 1000000000 = true) (hn : n ≤ 1048576) :
    Calls Try.prog 15 #[.slice A n c] w fun e w' => e = .returned (.int .i64 (sumI zs)) ∧ w = w' := by
  have HZ := hide (allB_mem hz)
  clear hz
  go_enter Try.func15, Try.ntmps15
  go_wp2_with fail
  go_loop [3, 4] (fun q i => ∃ (k : Nat) (S : Int), k ≤ n ∧ q = .int .i64 S ∧ i = .int .i64 k ∧ -(1000000000 * (k : Int)) ≤ S ∧ S ≤ 1000000000 * (k : Int) ∧ Hid (S = sumI (zs.take k))) (fun _ i => n - (intOf i).toNat)
  case atStart => exact ⟨0, 0, Nat.zero_le _, rfl, rfl, by omega, by omega, hide (by simp [sumI])⟩
  case round =>
    obtain ⟨k, S, hk, rfl, rfl, hS0, hS1, HS⟩ := hrel
    by_cases hlt : k < n
    · obtain ⟨b, off, x, rfl, hb, hxk, hc0⟩ := hs.get1 hlt
      obtain ⟨x0, x1⟩ := HZ.out x (List.mem_of_getElem? hxk)
      have HX := hide (show S + x = sumI (zs.take (k + 1)) by rw [takeI_snoc hxk, sumI_snoc, HS.out])
      clear hxk HS
      go_wp2_with fail
      go_round
      case rel => exact ⟨k + 1, _, by omega, rfl, by go_num, by omega, by omega, HX⟩
      case measure => simp [intOf]; omega
    · go_wp2_with fail
      go_ret
      have := HS.out
      rw [List.take_of_length_le (by have := hs.len; omega)] at this
      exact ⟨by rw [← this]; rfl, rfl⟩
/-- a network, orders and readings, as slices -/
def DrawnAll (w : World) (e : Ending) (w' : World) : Prop :=
  ∃ (A1 A2 A3 A4 : Option Addr) (c1 c2 c3 n4 c4 : Nat) (ns : List Node) (ps : List Pipe) (xs : List Order) (rs : List Reading), e = .returned (.tuple #[.agg #[.slice A1 ns.length c1, .slice A2 ps.length c2], .slice A3 xs.length c3, .slice A4 n4 c4]) ∧ SliceOf w' 3 Node.cells A1 ns.length c1 ns ∧ SliceOf w' 5 Pipe.cells A2 ps.length c2 ps ∧ SliceOf w' 4 Order.cells A3 xs.length c3 xs ∧ SliceOf w' 2 Reading.cells A4 n4 c4 rs ∧ Short ns ∧ n4 ≤ 50 ∧ ns.length ≤ 7 ∧ xs.length ≤ 41 ∧ Ext w w'
set_option maxHeartbeats 1000000 in
theorem c_DrawAllocate (A : Option Addr) (n c : Nat) (bs : List Int) (w : World) (hbs : SliceOf w 1 byteC A n c bs) (hbd : ∀ z ∈ bs, 0 ≤ z ∧ z ≤ 255) (hn : n ≤ 1048576) :
    Calls Try.prog 5 #[.slice A n c] w (DrawnAll w) := by
  have HD := hide hbd
  clear hbd
  have hR := Row.new w 27 [.slice none 0 0, .slice none 0 0]
  have hx0 := Ext.alloc w (.cells #[.slice none 0 0, .slice none 0 0] 27)
  go_enter Try.func5, Try.ntmps5
  go_wp2_with fail
  refine (c_l01From A n c bs _ (hbs.ext hx0) HD.out).mono ?_
  rintro e w1 ⟨a, rfl, ha, ha1, hs1, hx1⟩
  have hX1 := hx0.trans hx1
  have hR1 := hR.ext hx1
  have hS : Src w w1 a A n c := ⟨⟨bs, hbs, HD.out⟩, hn, Nat.le_trans hx0.size ha, hX1, hs1⟩
  have hz : w.heap.size < a := by simp at ha; omega
  clear hR hbs hs1
  go_wp2_with fail
  refine (c_l28Draw hS).mono ?_
  rintro e w2 ⟨v1, v2, v3, A4, n4, c4, ns, ps, xs, rs, rfl, hs2, ho2, o1, o2, o3, s4, b1, b2, b3, b4, hnm, hbk⟩
  have hR2 := hR1.only ho2 (by omega)
  have q0 := (hR2).cell 0
  have q1 := (hR2).cell 1
  simp at q0 q1
  have qf := (hR2).frozen
  have ql := (hR2).lt
  have hX2 := hs2.ext
  have hlw : w.heap.size < w1.heap.size := hR1.lt
  obtain ⟨A1, c1, rfl, s1⟩ := o1.sl node_len (by omega)
  obtain ⟨A2, c2, rfl, s2⟩ := o2.sl pipe_len (by omega)
  obtain ⟨A3, c3, rfl, s3⟩ := o3.sl order_len (by omega)
  have g1 := o1.blkG
  have g2 := o2.blkG
  have g3 := o3.blkG
  have HS4 := hide s4
  have HBK := hide hbk
  clear hbk
  clear o1 o2 o3
  go_wp2_with fail
  refine bodyPost_ret (v := .tuple #[.agg #[.slice A1 ns.length c1, .slice A2 ps.length c2], .slice A3 xs.length c3, .slice A4 n4 c4]) (by simp [results, Try.results5, go_sem, q0, q1]) rfl ?_
  refine ⟨A1, A2, A3, A4, c1, c2, c3, n4, c4, ns, ps, xs, rs, rfl, ?_, ?_, ?_, ?_, hnm, b4, b1, b3, ?_⟩
  · exact (s1.farG (p := ⟨w.heap.size, 0, none⟩) (fun b hb => by have := g1 b hb; show w.heap.size < b; omega) _).farG (p := ⟨w.heap.size, 1, none⟩) (fun b hb => by have := g1 b hb; show w.heap.size < b; omega) _
  · exact (s2.farG (p := ⟨w.heap.size, 0, none⟩) (fun b hb => by have := g2 b hb; show w.heap.size < b; omega) _).farG (p := ⟨w.heap.size, 1, none⟩) (fun b hb => by have := g2 b hb; show w.heap.size < b; omega) _
  · exact (s3.farG (p := ⟨w.heap.size, 0, none⟩) (fun b hb => by have := g3 b hb; show w.heap.size < b; omega) _).farG (p := ⟨w.heap.size, 1, none⟩) (fun b hb => by have := g3 b hb; show w.heap.size < b; omega) _
  · exact (HS4.out.farG (p := ⟨w.heap.size, 0, none⟩) (fun b hb => by have := HBK.out b hb; show w.heap.size < b; omega) _).farG (p := ⟨w.heap.size, 1, none⟩) (fun b hb => by have := HBK.out b hb; show w.heap.size < b; omega) _
  · exact (hX2.setCell (p := ⟨w.heap.size, 0, none⟩) (Nat.le_refl _) _).setCell (p := ⟨w.heap.size, 1, none⟩) (Nat.le_refl _) _

theorem AlQ.uniq {n1 : Int} {ns : List Node} {ps : List Pipe} {os : List Order} {rs : List Reading} {l l' : List Int} {z z' : Int} (h : AlQ n1 ns ps os rs l z) (h' : AlQ n1 ns ps os rs l' z') : l = l' ∧ z = z' := by
  obtain ⟨rfl, a, b⟩ := h
  obtain ⟨rfl, a', b'⟩ := h'
  refine ⟨?_, rfl⟩
  by_cases hz : allC n1 ns ps os rs = 0
  · exact (b hz).1.uniq (b' hz).1
  · rw [a hz, a' hz]
theorem UnQ.uniq {n1 : Int} {ns : List Node} {ps : List Pipe} {os : List Order} {rs : List Reading} {l l' : List Int} {z z' : Int} (h : UnQ n1 ns ps os rs l z) (h' : UnQ n1 ns ps os rs l' z') : l = l' ∧ z = z' := by
  obtain ⟨rfl, a, b⟩ := h
  obtain ⟨rfl, a', b'⟩ := h'
  refine ⟨?_, rfl⟩
  by_cases hz : allC n1 ns ps os rs = 0
  · rw [b hz, b' hz]
  · rw [a hz, a' hz]
theorem restAt_take {rs : List Reading} {u : List Int} {k j : Nat} {x : Reading} (hu : u[k]? = some (j : Int)) (hx : rs[j]? = some x) : restAt rs (u.take (k + 1)) = restAt rs (u.take k) + x.amount := by
  unfold restAt
  rw [List.map_take, List.map_take]
  exact sumZ_take (by simp [hu, hx])
theorem sumZ_bd {M : Int} {l : List Int} (h : Bd M l) : -(M * (l.length : Int)) ≤ sumZ l ∧ sumZ l ≤ M * (l.length : Int) := by
  induction l with
  | nil => simp [sumZ]
  | cons x l ih =>
    have h1 := h x (by simp)
    have h2 := ih (fun y hy => h y (by simp [hy]))
    simp only [sumZ, List.length_cons, Int.natCast_add, Int.mul_add, Int.natCast_one, Int.mul_one]
    omega
theorem allC_less {n1 : Int} {ns : List Node} {ps : List Pipe} {os : List Order} {rs : List Reading} (h : allC n1 ns ps os rs = 0) : allC n1 ns ps [] rs = 0 := by
  obtain ⟨a, _, c⟩ := allC_ok h
  rw [allC_none, if_pos a, if_pos c]
theorem Bd.allB {l : List Int} (h : Bd 10000000 l) : allB l (-1000000000) 1000000000 = true := List.all_eq_true.2 (fun z hz => inB_true.2 (by have := h z hz; omega))
set_option maxHeartbeats 2000000 in
theorem law_Allocated (A : Option Addr) (n c : Nat) (bs : List Int) (w : World) (hbs : SliceOf w 1 byteC A n c bs) (hbd : ∀ z ∈ bs, 0 ≤ z ∧ z ≤ 255) :
    Calls Try.prog 3 #[.slice A n c] w (Ret (.bool true) w) := by
  have HD := hide hbd
  clear hbd
  by_cases hbig : (4096 : Int) < n
  · have hb : decide ((4096 : Int) < n) = true := by simpa using hbig
    go_enter Try.func3, Try.ntmps3
    go_wp2_with fail
    refine (c_big A n c _).mono ?_
    rw [hb]
    rintro e w' ⟨rfl, rfl⟩
    go_wp2_with fail
    go_ret
    exact Ret.bool rfl (Ext.refl _)
  have hb : decide ((4096 : Int) < n) = false := by simpa using hbig
  go_enter Try.func3, Try.ntmps3
  go_wp2_with fail
  refine (c_big A n c _).mono ?_
  rw [hb]
  rintro e w' ⟨rfl, rfl⟩
  clear hb
  go_wp2_with fail
  go_wp2_with fail
  refine (c_DrawAllocate A n c bs _ hbs HD.out (by omega)).mono ?_
  rintro e w1 ⟨A1, A2, A3, A4, c1, c2, c3, n4, c4, ns, ps, xs, rs, rfl, s1, s2, s3, s4, hnm, b4, b1, b3, hx1⟩
  have HNM := hide (show ∀ x ∈ ns, x.name.size ≤ 1048576 from fun x hx => Nat.le_trans (hnm x hx) (by omega))
  obtain ⟨W1, HW1⟩ : ∃ W1, Hid (w1.alloc (.cells #[.slice A1 ns.length c1, .slice A2 ps.length c2] 27) = W1) := ⟨_, hide rfl⟩
  have hx1' : Ext w1 W1 := by rw [← HW1.out]; exact Ext.alloc _ _
  have hN : Row W1 w1.heap.size 27 [.slice A1 ns.length c1, .slice A2 ps.length c2] := by rw [← HW1.out]; exact Row.new w1 _ _
  have hX1 := hx1.trans hx1'
  have S1 := hide (s1.ext hx1')
  have S2 := hide (s2.ext hx1')
  have S3 := hide (s3.ext hx1')
  have S4 := hide (s4.ext hx1')
  clear hnm s1 s2 s3 s4 hx1 hx1'
  have m0 := hN.cell 0
  have m1 := hN.cell 1
  simp at m0 m1
  have ml := hN.lt
  go_wp2_with fail
  rw [HW1.out]
  refine (c_Allocate A1 A2 ns.length c1 ps.length c2 ns ps A3 xs.length c3 xs A4 n4 c4 rs _ S1.out S2.out S3.out S4.out).mono ?_
  rintro e w2 ⟨v5, g, z, rfl, o5, hx2, HQ5⟩
  clear m0 m1 ml
  have hNx := hN.ext (hx2)
  have m0 := hNx.cell 0
  have m1 := hNx.cell 1
  simp at m0 m1
  have ml := hNx.lt
  clear hNx
  go_wp2_with fail
  refine (c_specAllocate A1 A2 ns.length c1 ps.length c2 ns ps A3 xs.length c3 xs A4 n4 c4 rs _ (S1.out.ext hx2) (S2.out.ext hx2) (S3.out.ext hx2) (S4.out.ext hx2) HNM.out).mono ?_
  rintro e w3 ⟨v6, g', z', rfl, o6, hx3, HQ6⟩
  obtain ⟨rfl, rfl⟩ := HQ5.out.uniq HQ6.out
  have hX3 := hx2.trans hx3
  clear m0 m1 ml
  have hNx := hN.ext (hX3)
  have m0 := hNx.cell 0
  have m1 := hNx.cell 1
  simp at m0 m1
  have ml := hNx.lt
  clear hNx
  go_wp2_with fail
  refine (c_Unalloc A1 A2 ns.length c1 ps.length c2 ns ps A3 xs.length c3 xs A4 n4 c4 rs _ (S1.out.ext hX3) (S2.out.ext hX3) (S3.out.ext hX3) (S4.out.ext hX3)).mono ?_
  rintro e w4 ⟨v7, u, y, rfl, o7, hx4, HQ7⟩
  have hX4 := hX3.trans hx4
  clear m0 m1 ml
  have hNx := hN.ext (hX4)
  have m0 := hNx.cell 0
  have m1 := hNx.cell 1
  simp at m0 m1
  have ml := hNx.lt
  clear hNx
  go_wp2_with fail
  refine (c_specUnalloc A1 A2 ns.length c1 ps.length c2 ns ps A3 xs.length c3 xs A4 n4 c4 rs _ (S1.out.ext hX4) (S2.out.ext hX4) (S3.out.ext hX4) (S4.out.ext hX4) HNM.out).mono ?_
  rintro e w5 ⟨v8, u', y', rfl, o8, hx5, HQ8⟩
  obtain ⟨rfl, rfl⟩ := HQ7.out.uniq HQ8.out
  obtain ⟨A5, c5, rfl, s5⟩ := (o5.ext (hx3.trans (hx4.trans hx5))).sl intC_len (by omega)
  obtain ⟨A6, c6, rfl, s6⟩ := (o6.ext (hx4.trans hx5)).sl intC_len (by omega)
  obtain ⟨A7, c7, rfl, s7⟩ := (o7.ext hx5).sl intC_len (by omega)
  obtain ⟨A8, c8, rfl, s8⟩ := o8.sl intC_len (by omega)
  have hX5 := hX4.trans hx5
  clear o5 o6 o7 o8 HQ6 HQ8
  obtain ⟨RB, HRB⟩ : ∃ RB, Hid ((allC ns.length ns ps [] rs == 0) = RB) := ⟨_, hide rfl⟩
  have m0' := m0
  have m1' := m1
  clear m0 m1
  have hN5 := hN.ext hX5
  have m0 := hN5.cell 0
  have m1 := hN5.cell 1
  simp at m0 m1
  have ml := hN5.lt
  clear hN5
  have T6 := hide s5
  have T8 := hide s8
  go_wp2_with fail
  refine wp_region_ph [([0, 1, 2, 3, 4, 5], 6), ([7, 8, 9, 10, 11, 12, 13, 14, 15, 16], 17), ([18, 19, 20, 21, 22, 24, 25], 23), ([], 26)] [27, 28] (by kernel_rfl) (by kernel_rfl) (by intro c a w d v h; cases d <;> exact h) ?_
  simp only [wpPh, pickL, nthO]
  repeat (go_big_quiet_step (fail))
  refine wpQuiet_nil ?_
  go_wp2_with fail
  refine (c_likeInts _ _ _ _ _ _ g _ (s5.ext (Ext.refl _).drew) (s6.ext (Ext.refl _).drew)).mono ?_
  rintro e w6 ⟨rfl, hx6⟩
  go_wp2_with fail
  refine ⟨hx6, ?_⟩
  repeat (go_big_quiet_step (fail))
  refine wpQuiet_nil ?_
  clear m0 m1 ml
  have hNx := hN.ext (hX5.drew.trans hx6)
  have m0 := hNx.cell 0
  have m1 := hNx.cell 1
  simp at m0 m1
  have ml := hNx.lt
  clear hNx
  have hXd := (Ext.refl w5).drew.trans hx6
  go_wp2_with fail
  refine (c_likeInts _ _ _ _ _ _ u _ (s7.ext hXd) (s8.ext hXd)).mono ?_
  rintro e w7 ⟨rfl, hx7⟩
  have hX7 := hXd.trans hx7
  have hX57 := hX5.trans hX7
  clear m0 m1 ml
  have hNx := hN.ext (hX57)
  have m0 := hNx.cell 0
  have m1 := hNx.cell 1
  simp at m0 m1
  have ml := hNx.lt
  clear hNx
  go_wp2_with fail
  refine ⟨hx7, ?_⟩
  repeat (go_big_quiet_step (fail))
  refine wpQuiet_nil ?_
  go_wp2_with fail
  refine (c_impAreReadings A1 A2 ns.length c1 ps.length c2 ns ps A4 n4 c4 rs _ (S1.out.ext hX57) (S2.out.ext hX57) (S4.out.ext hX57)).mono ?_
  rw [HRB.out]
  rintro e w8 ⟨rfl, hx8⟩
  go_wp2_with fail
  refine ⟨hx8, ?_⟩
  repeat (go_big_quiet_step (fail))
  refine wpQuiet_nil ?_
  have hX58 := hX57.trans hx8
  clear m0 m1 ml
  have hNx := hN.ext (hX58)
  have m0 := hNx.cell 0
  have m1 := hNx.cell 1
  simp at m0 m1
  have ml := hNx.lt
  clear hNx
  go_wp2_with fail
  refine (c_specAreReadings A1 A2 ns.length c1 ps.length c2 ns ps A4 n4 c4 rs _ (S1.out.ext hX58) (S2.out.ext hX58) (S4.out.ext hX58) HNM.out).mono ?_
  rw [HRB.out]
  rintro e w9 ⟨rfl, hx9⟩
  go_wp2_with fail
  refine ⟨hx9, ?_⟩
  repeat (go_big_quiet_step (fail))
  refine wpQuiet_nil ?_
  have hX89 := hX7.trans (hx8.trans hx9)
  have hX59 := hX5.trans hX89
  have hrr : (RB == RB) = true := by cases RB <;> rfl
  have hrn : (RB != RB) = false := by cases RB <;> rfl
  have T6' := hide (T6.out.ext hX89)
  have T8' := hide (T8.out.ext hX89)
  clear s5 s6 s7 s8 T6 T8 hX57 hX58 hX7 hX89 hx6 hx7 hx8 hXd hx9 hX5 hX3 hX4 hx2 hx3 hx4 hx5
  clear m0 m1 ml
  have hNx := hN.ext (hX59)
  have m0 := hNx.cell 0
  have m1 := hNx.cell 1
  simp at m0 m1
  have ml := hNx.lt
  clear hNx
  by_cases hz0 : z = 0
  · subst hz0
    obtain ⟨hC, _, hA⟩ := HQ5.out
    obtain ⟨hAl, hBd, hgl⟩ := hA rfl
    obtain ⟨hy, _, hU⟩ := HQ7.out
    have hy0 : y = 0 := by rw [hy, ← hC]
    subst hy0
    have hU' := hU rfl
    have HWH := hide (alloc_whole hAl)
    have hr48 := reads_len (allC_ok hC.symm).2.2
    have HRM := hide (show Rdg rs from reads_mem (allC_ok hC.symm).2.2)
    have HUM := hide (show ∀ z ∈ u, ∃ j : Nat, z = j ∧ j < rs.length from fun z hz => by
      rw [hU'] at hz
      obtain ⟨j, h1, _, h2⟩ := unal_mem xs 0 rs z hz
      exact ⟨j, h1, by omega⟩)
    have hul : u.length ≤ 48 := by rw [hU']; have := unal_len xs 0 rs; omega
    have HUU := hide hU'
    have HGL := hide hgl
    have hs4 := S4.out.ext hX59
    have hn4 : n4 = rs.length := hs4.len
    have HN4 := hide hn4
    have hu8 := T8'.out
    have HBG := hide hBd
    have HCC := hide hC
    have HAL := hide hAl
    clear hC hA hAl hBd hgl hU hU' hy hn4 HQ5 HQ7 hrr hrn
    go_wp2_with fail
    go_loop [14, 15] (fun q i => ∃ (k : Nat) (S : Int), k ≤ u.length ∧ q = .int .i64 S ∧ i = .int .i64 k ∧ -(30000 * (k : Int)) ≤ S ∧ S ≤ 30000 * (k : Int) ∧ Hid (S = restAt rs (u.take k))) (fun _ i => u.length - (intOf i).toNat)
    case atStart => exact ⟨0, 0, Nat.zero_le _, rfl, rfl, by omega, by omega, hide rfl⟩
    case round =>
      obtain ⟨k, S, hk, rfl, rfl, hS0, hS1, HS⟩ := hrel
      by_cases hlt : k < u.length
      · obtain ⟨b, off, x, rfl, hb, hxk, hc⟩ := hu8.get hlt
        have hc0 := hc 0 _ rfl
        simp only [Nat.add_zero, Nat.mul_one] at hc0
        obtain ⟨j, rfl, hj⟩ := HUM.out x (List.mem_of_getElem? hxk)
        obtain ⟨rb, ro, r, rfl, hrb, hrk, hrc⟩ := hs4.get (k := j) (by have := HN4.out; omega)
        have r1 := hrc 1 _ rfl
        have HX := hide (show S + r.amount = restAt rs (u.take (k + 1)) by rw [restAt_take hxk hrk, HS.out])
        have hrb1 := (HRM.out r (List.mem_of_getElem? hrk)).1
        have hjn : j < n4 := by have := HN4.out; omega
        clear hc hrc hxk hrk HS
        go_wp2_with fail
        go_round
        case rel => exact ⟨k + 1, S + r.amount, by omega, by go_num, by go_num, by omega, by omega, HX⟩
        case measure => simp [intOf]; omega
      · obtain rfl : u.length = k := by omega
        have HSF := hide (show sumZ g + S = amts rs by rw [HS.out, List.take_length, HUU.out]; exact HWH.out)
        clear HS hlt hk hu8
        go_wp2_with fail
        refine (c_Measured A1 A2 ns.length c1 ps.length c2 ns ps A4 n4 c4 rs _ (S1.out.ext hX59) (S2.out.ext hX59) (S4.out.ext hX59) (allC_less HCC.out.symm)).mono ?_
        rintro e w10 ⟨rfl, hx10⟩
        have hX10 := hX59.trans hx10
        clear m0 m1 ml
        have hNx := hN.ext (hX10)
        have m0 := hNx.cell 0
        have m1 := hNx.cell 1
        simp at m0 m1
        have ml := hNx.lt
        clear hNx
        go_wp2_with fail
        refine (c_ShipperBalance A1 A2 ns.length c1 ps.length c2 ns ps A3 xs.length c3 xs A4 n4 c4 rs _ (S1.out.ext hX10) (S2.out.ext hX10) (S3.out.ext hX10) (S4.out.ext hX10) HCC.out.symm).mono ?_
        rintro e w11 ⟨v11, bl, y11, rfl, o11, hx11, HB⟩
        obtain ⟨hy11, hbl16, hblb, hbs⟩ := HB.out
        subst hy11
        obtain ⟨A11, c11, rfl, s11⟩ := o11.sl intC_len (by omega)
        have hgs := T6'.out.ext (hx10.trans hx11)
        have hgb := HBG.out.allB
        have hgm : g.length ≤ 41 := by have := HGL.out; omega
        obtain ⟨G, hG⟩ : ∃ G, sumZ g = G := ⟨_, rfl⟩
        obtain ⟨M, hM⟩ : ∃ M, amts rs = M := ⟨_, rfl⟩
        have HGM : G + S = M := by rw [← hG, ← hM]; exact HSF.out
        have hGB : sumZ bl = G := by rw [← hG]; exact hbs _ HAL.out
        have hGd := sumZ_bd HBG.out
        rw [hG] at hGd
        have hXL := hX10.trans hx11
        rw [hM]
        have HG := hide hG
        have HM := hide hM
        have HGB := hide hGB
        have HBL := hide hbl16
        have hblm : bl.length ≤ 16 := by omega
        have hGd1 : -410000000 ≤ G ∧ G ≤ 410000000 := by omega
        clear m0 m1 ml hbs o11 hG hM hGB hbl16 hGd
        go_wp2_with fail
        refine (c_lawSum A5 g.length c5 g _ hgs hgb (by omega)).mono ?_
        rw [sumI_eq, HG.out]
        rintro e w12 ⟨rfl, rfl⟩
        have e1 : IntKind.i64.wrap (G + S) = M := by rw [HGM]; exact IntWalk.i64_in _ (by omega)
        go_wp2_with fail
        refine (c_lawSum A11 bl.length c11 bl _ s11 hblb.allB (by omega)).mono ?_
        rw [sumI_eq, HGB.out]
        rintro e w12 ⟨rfl, rfl⟩
        go_wp2_with fail
        refine (c_lawSum A5 g.length c5 g _ hgs hgb (by omega)).mono ?_
        rw [sumI_eq, HG.out]
        rintro e w12 ⟨rfl, rfl⟩
        go_wp2_with fail
        go_ret
        exact Ret.bool rfl (hX1.trans hXL)
  · have hzb : (z == 0) = false := by rw [beq_eq_false_iff_ne]; exact hz0
    go_wp2_with fail
    go_ret
    exact Ret.bool rfl (hX1.trans hX59)
set_option maxRecDepth 100000 in
theorem lifted_Allocated (os : Os) (started : os.Started) (H : Type) (enc : TypeId × Value → H) :
    ReturnsInHanded {} Try.checked os 3 .any (Rows.fnAllocatedSpec.pre6 enc Try.prog Try.f3 Rows.fnAllocatedRow.domain false) (Rows.fnAllocatedSpec.post enc Try.prog Try.f3 false true false false) := by
  refine returnsInHanded_of_change (C := Try.checked) own started (by kernel_rfl) Try.func3
    (ChangeSpec.witness6 (enc := enc) (C := Try.checked) false ⟨#[], #[.slice none 0 0], []⟩ 8 (by kernel_rfl) (by kernel_rfl) (by kernel_rfl) (by kernel_rfl)) ?_
  intro W base args ds gs before hval0 hW _ _
  have hval : ∀ (j : Nat) t v, Try.f3.params[j]? = some t → args[j]? = some v → Value.okWide Try.prog W .any base t v := hval0
  have hW' := hW
  obtain ⟨p, q, hA0, hV, rfl, hfz, hnd⟩ := hW
  have hA : DataW.TrodAll enc Try.prog W 0 (fun _ => true) true Try.f3.params.toList args.toList ds p := hA0
  rw [Try.params3] at hA hval
  obtain ⟨v0, vs0, d0, ds0, p0, q0, hargs, rfl, rfl, h0, r0⟩ := trodAll_cons hA
  obtain ⟨rfl, rfl, rfl⟩ := trodAll_nil r0
  obtain rfl : args = #[v0] := by cases args; simp_all
  obtain ⟨rfl, rfl⟩ := trodVars_none hV
  have k0 := h0
  have lt0 : ∀ x ∈ p0, x.block < W.heap.size := by obtain ⟨m, hm⟩ := k0; exact DataW.trod_lt m _ _ _ hm
  obtain ⟨A, n, c, bs, e0, hs, hbd⟩ := open_bytes (hval 0 22 v0 rfl rfl) h0
  rw [e0]
  clear hA0 hval0
  refine (law_Allocated A n c bs W hs hbd).mono fun e W' ⟨he, bel⟩ => ?_
  subst he
  rw [e0] at hW'
  exact ⟨_, rfl, _, _, _, [], _, [], hW', trodAll_mk1 (shut_bool Try.underlying4 _), (trodAll_cons_mk (Below.trod laidOut (by kernel_rfl) (of_decide_eq_true (by kernel_rfl)) (e0 ▸ k0) bel lt0) trodAll_mk0), rfl, bel.frame _, fun h => by cases h⟩

theorem holds_Allocated : Rows.FnAllocatedSaid :=
  OpenClaim.holds_of_wide 3 Try.f3 rfl rfl rfl rfl rfl rfl rfl ⟨rfl, rfl, rfl, rfl, rfl⟩ rfl rfl rfl rfl rfl (by kernel_rfl) Try.func3 (by kernel_rfl)
    (of_decide_eq_true (by kernel_rfl)) (by unfold Func.isWrapper; first | (rw [if_pos (by decide +kernel)]; kernel_rfl) | (rw [if_neg (by decide +kernel)]; exact ⟨rfl, rfl⟩))
    (fun os started H enc _ => lifted_Allocated os started H enc)
#print axioms holds_Allocated
end Go.Proofs.Ytegkeeeohileiaa
