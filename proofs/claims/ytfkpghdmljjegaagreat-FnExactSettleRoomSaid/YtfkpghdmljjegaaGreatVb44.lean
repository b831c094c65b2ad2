/-
  FnExactSettleRoom: for every input the law returns true and its arguments read as before. No condition.
-/
import Derived.Test.YtfkpghdmljjegaaGreatVb43
namespace Go.Proofs.YtfkpghdmljjegaaGreat
open Go.RowKit Go.ChangeShapes Go.WideShapes Go.ChangeAt Go.Deep Go.Joins
theorem srV_like {n1 : Nat} {r r' : Room} {band percent price : Int} {ts : List Tier} (h : r'.Like r) : srV n1 r' band percent price ts = srV n1 r band percent price ts := by
  have hn := congrArg List.length h.2.2.2.2
  simp at hn
  unfold srV
  rw [roomB_like h, h.1, h.2.1, h.2.2.1, h.2.2.2.1, hn]
  rw [hsV_like (rs' := r'.rs.take (r.rs.length - 1)) (rs := r.rs.take (r.rs.length - 1)) (by rw [List.map_take, List.map_take, h.2.2.2.2])]
set_option maxRecDepth 20000 in
set_option maxHeartbeats 16000000 in
theorem law_SettleRoom (A1 A2 A3 A4 A5 : Option Addr) (n1 c1 n2 c2 n3 c3 n4 c4 n5 c5 : Nat) (r : Room) (band percent price : Int) (K : Option Addr) (kn kc : Nat) (ts : List Tier) (w : World) (hat : RoomAt w A1 A2 A3 A4 A5 n1 c1 n2 c2 n3 c3 n4 c4 n5 c5 r) (hK : SliceOf w 2 Tier.cells K kn kc ts) (hnm : Named0 r.ns) :
    Calls Tryz.prog 11 #[.agg #[.slice A1 n1 c1, .slice A2 n2 c2, .slice A3 n3 c3, .slice A4 n4 c4, .slice A5 n5 c5], .agg #[.int .i64 band, .int .i64 percent, .int .i64 price, .slice K kn kc]] w (Ret (.bool true) w) := by
  obtain ⟨W0, HW0⟩ : ∃ W0, Hid ((w.alloc (.cells #[.slice A1 n1 c1, .slice A2 n2 c2, .slice A3 n3 c3, .slice A4 n4 c4, .slice A5 n5 c5] 109)).alloc (.cells #[.int .i64 band, .int .i64 percent, .int .i64 price, .slice K kn kc] 91) = W0) := ⟨_, hide rfl⟩
  have hin : RoomIn W0 w.heap.size A1 A2 A3 A4 A5 n1 c1 n2 c2 n3 c3 n4 c4 n5 c5 := by rw [← HW0.out]; exact (RoomIn.new w A1 A2 A3 A4 A5 n1 c1 n2 c2 n3 c3 n4 c4 n5 c5 109).ext (Ext.alloc _ _)
  have hT : Row W0 (w.heap.size + 1) 91 [.int .i64 band, .int .i64 percent, .int .i64 price, .slice K kn kc] := by rw [← HW0.out]; exact Row.newG (W := w.alloc (.cells #[.slice A1 n1 c1, .slice A2 n2 c2, .slice A3 n3 c3, .slice A4 n4 c4, .slice A5 n5 c5] 109)) _ [.int .i64 band, .int .i64 percent, .int .i64 price, .slice K kn kc] (by simp)
  have hx0 : Ext w W0 := by rw [← HW0.out]; exact (Ext.alloc _ _).and_alloc _
  have HNM := hide hnm
  have hcapK := hK.cap
  have hmaxK := hK.max
  clear hnm
  obtain ⟨hlt, x0, x1, x2, x3, x4⟩ := hin.ext ((Ext.refl W0))
  go_enter Tryz.func11, Tryz.ntmps11
  go_wp2_with fail
  rw [HW0.out]
  refine (c_szRoom A1 A2 A3 A4 A5 n1 c1 n2 c2 n3 c3 n4 c4 n5 c5 r _ (hat.ext hx0) HNM.out 1048576 (by omega) (by omega)).mono ?_
  rintro e w1 ⟨z, rfl, hx1, rfl | ⟨hz0, hz1, hz⟩⟩
  · go_wp2_with fail
    go_ret
    exact Ret.bool rfl (hx0.trans hx1)
  have hz' : ¬ z < 0 := by omega
  have hl := hat.roomLen hz
  have HNS := hide hl.2.1
  clear hlt x0 x1 x2 x3 x4
  have hTr := hT.ext (hx1)
  have y0 := hTr.cell 0
  have y1 := hTr.cell 1
  have y2 := hTr.cell 2
  have y3 := hTr.cell 3
  simp at y0 y1 y2 y3
  have hyl := hTr.lt
  go_wp2_with fail
  refine (c_szTerms band percent price z K kn kc _ hcapK hmaxK (by omega) (by omega)).mono ?_
  by_cases hzk : z < (kn : Int)
  · rw [if_pos hzk]
    rintro e w2 ⟨rfl, hx2⟩
    go_wp2_with fail
    go_ret
    exact Ret.bool rfl ((hx0.trans hx1).trans hx2)
  rw [if_neg hzk]
  rintro e w2 ⟨rfl, hx2⟩
  have m6 : kn ≤ 1048576 := by omega
  have hz5 : ¬ z - (kn : Int) < 0 := by omega
  clear hTr y0 y1 y2 y3 hyl
  have HL6 := hide hK.len
  have l6 : ts.length ≤ 1048576 := by rw [← HL6.out]; exact m6
  obtain ⟨RR, HRR⟩ : ∃ RR, Hid (srV r.ns.length r band percent price ts = RR) := ⟨_, hide rfl⟩
  have hsm : RR.1.length ≤ 300 := by rw [← HRR.out]; exact srV_len
  have hx02 := hx1.trans hx2
  have X2 := hx0.trans hx02
  clear hz0 hz1 hz' hzk hx1 hx2
  obtain ⟨hlt, x0, x1, x2, x3, x4⟩ := hin.ext (hx02)
  have hTr := hT.ext (hx02)
  have y0 := hTr.cell 0
  have y1 := hTr.cell 1
  have y2 := hTr.cell 2
  have y3 := hTr.cell 3
  simp at y0 y1 y2 y3
  have hyl := hTr.lt
  go_wp2_with fail
  refine wp_region_ph [([0, 2], 1), ([], 3), ([], 4)] [5, 6, 7, 8, 9] (by kernel_rfl) (by kernel_rfl) (by intro c a w d v h; cases d <;> exact h) ?_
  simp only [wpPh, pickL, nthO]
  repeat (go_big_quiet_step (fail))
  refine wpQuiet_nil ?_
  have Xd := X2.drew
  go_wp2_with fail
  refine (c_toRoom A1 A2 A3 A4 A5 n1 c1 n2 c2 n3 c3 n4 c4 n5 c5 r _ (hat.ext Xd) hz).mono ?_
  intro e w2a hcp
  obtain ⟨B1, B2, B3, B4, B5, m1, d1, m2, d2, m3, d3, m4, d4, m5, d5, r2, rfl, hat2, hl2, hx2a⟩ := hcp.of hl
  have HE2 : Hid (srV m1 r2 band percent price ts = RR) := hide (by rw [hat2.s1.len, hl2.1, srV_like hl2]; exact HRR.out)
  have HN2 := hide (show ∀ x ∈ r2.ns, x.name.size ≤ 1048576 by rw [hl2.1]; exact HNS.out)
  clear hcp hl2
  clear hlt x0 x1 x2 x3 x4
  clear hTr y0 y1 y2 y3 hyl
  have hD2 : Ext w2 w2a := (Ext.refl w2).drew.trans hx2a
  go_wp2_with fail
  refine ⟨hx2a, wpQuiet_nil ?_⟩
  go_wp2_with fail
  refine (c_toTerms band percent price K kn kc ts _ (hK.ext (X2.trans hD2)) m6).mono ?_
  rintro e w2b ⟨g, rfl, hg, rT, hx2b⟩
  go_wp2_with fail
  refine ⟨hx2b, wpQuiet_nil ?_⟩
  go_wp2_with fail
  refine (c_specSettleRoom B1 B2 B3 B4 B5 m1 d1 m2 d2 m3 d3 m4 d4 m5 d5 r2 band percent price _ _ _ ts _ (hat2.ext hx2b) (rT.slice (fun _ => rfl) rfl (by omega)) HN2.out).mono ?_
  rw [HE2.out]
  rintro e w3 ⟨vS, sl, sz, rfl, hS0, hx3, HPS⟩
  obtain ⟨rfl, rfl⟩ : sl = RR.1 ∧ sz = RR.2 := by have := HPS.out; exact ⟨congrArg Prod.fst this, congrArg Prod.snd this⟩
  obtain ⟨SP, sc, rfl, hsp⟩ := hS0.sl post_len (by omega)
  have HSB := hide (show ∀ b, blkOf SP RR.1.length = some b → b < w3.heap.size from fun b hb => hsp.blk hb)
  have hX3 : Ext w2 w3 := hD2.trans (hx2b.trans hx3)
  clear hS0 hat2 rT hg
  go_wp2_with fail
  refine ⟨hx3, ?_⟩
  repeat (go_big_quiet_step (fail))
  refine wpQuiet_nil ?_
  clear hx2a hx2b hx3 hD2 Xd HN2 HE2
  have hx03 := hx02.trans hX3
  have X3 := hx0.trans hx03
  obtain ⟨hlt, x0, x1, x2, x3, x4⟩ := hin.ext (hx03)
  go_wp2_with fail
  refine (c_toRoom A1 A2 A3 A4 A5 n1 c1 n2 c2 n3 c3 n4 c4 n5 c5 r _ (hat.ext X3) hz).mono ?_
  intro e w4 hcp
  obtain ⟨C1, C2, C3, C4, C5, q1, f1, q2, f2, q3, f3, q4, f4, q5, f5, r4, rfl, hown4, hl4, hsm4, hx4⟩ := hcp.new hl
  have hat4 := hown4.at_
  have HE4 : Hid (srV q1 r4 band percent price ts = RR) := hide (by rw [hat4.s1.len, hl4.1, srV_like hl4]; exact HRR.out)
  have HL4 := hide hl4
  clear hcp hl4
  clear hlt x0 x1 x2 x3 x4
  obtain ⟨w5, HW5⟩ : ∃ w5, Hid (w4.alloc (.cells #[.slice C1 q1 f1, .slice C2 q2 f2, .slice C3 q3 f3, .slice C4 q4 f4, .slice C5 q5 f5] 82) = w5) := ⟨_, hide rfl⟩
  have bin : RoomIn w5 w4.heap.size C1 C2 C3 C4 C5 q1 f1 q2 f2 q3 f3 q4 f4 q5 f5 := by rw [← HW5.out]; exact RoomIn.new w4 C1 C2 C3 C4 C5 q1 f1 q2 f2 q3 f3 q4 f4 q5 f5 82
  have hx5 : Ext w4 w5 := by rw [← HW5.out]; exact Ext.alloc _ _
  have hz5' : w4.heap.size + 1 = w5.heap.size := by rw [← HW5.out]; simp
  have hx35 := hx4.trans hx5
  have X5 := X3.trans hx35
  have hTr := hT.ext (hx03.trans hx4)
  have y0 := hTr.cell 0
  have y1 := hTr.cell 1
  have y2 := hTr.cell 2
  have y3 := hTr.cell 3
  simp at y0 y1 y2 y3
  have hyl := hTr.lt
  go_wp2_with fail
  rw [HW5.out]
  refine (c_toTerms band percent price K kn kc ts _ (hK.ext X5) m6).mono ?_
  rintro e w6 ⟨p6, rfl, hp6, u6, hx6⟩
  clear hTr y0 y1 y2 y3 hyl
  obtain ⟨w7, HW7⟩ : ∃ w7, Hid (w6.alloc (.cells #[.int .i64 band, .int .i64 percent, .int .i64 price, .slice (some ⟨p6, 0, none⟩) ts.length ts.length] 73) = w7) := ⟨_, hide rfl⟩
  have bT : Row w7 w6.heap.size 73 [.int .i64 band, .int .i64 percent, .int .i64 price, .slice (some ⟨p6, 0, none⟩) ts.length ts.length] := by rw [← HW7.out]; exact Row.new w6 _ _
  have hx7 : Ext w6 w7 := by rw [← HW7.out]; exact Ext.alloc _ _
  have hz7 : w6.heap.size + 1 = w7.heap.size := by rw [← HW7.out]; simp
  have sz4 := hx4.size
  have sz6 := hx6.size
  have lp6 := u6.lt
  have HPP := hide (show w4.heap.size < p6 ∧ p6 < w6.heap.size ∧ w3.heap.size ≤ w4.heap.size ∧ w4.heap.size < w5.heap.size ∧ w5.heap.size ≤ w6.heap.size ∧ w6.heap.size < w7.heap.size from by omega)
  have hx57 := hx6.trans hx7
  have U6 := u6.ext hx7
  have hx37 := hx35.trans hx57
  have hown := (hown4.ext hx5).ext hx57
  have hat7 := hown.at_
  obtain ⟨ha, a0, a1, a2, a3, a4⟩ := bin.ext (hx6)
  have bin := bin.ext hx57
  have hx07 := hx03.trans hx37
  have X7 := hx0.trans hx07
  clear u6 lp6 sz4 sz6 hp6 hx4 hx5 hx6 hx7 hx35 hx57 hz5' X5 hown4 hat4
  go_wp2_with fail
  rw [HW7.out]
  refine (c_SettleRoom C1 C2 C3 C4 C5 q1 f1 q2 f2 q3 f3 q4 f4 q5 f5 r4 band percent price _ _ _ ts _ hat7 (U6.slice (fun _ => rfl) rfl (by omega))).mono ?_
  rw [HE4.out]
  rintro e w8 ⟨vG, gl, zG, rfl, hG0, hx8, HP⟩
  obtain ⟨rfl, rfl⟩ : gl = RR.1 ∧ zG = RR.2 := by have := HP.out; exact ⟨congrArg Prod.fst this, congrArg Prod.snd this⟩
  clear ha a0 a1 a2 a3 a4
  obtain ⟨GA, gc, rfl, -⟩ := hG0.sl post_len (by omega)
  have HGB := hide (show ∀ b, blkOf GA RR.1.length = some b → w7.heap.size ≤ b ∧ b < w8.heap.size from fun b hb => ⟨hG0.block_le (own_blk hb), (hG0.ltG (own_blk hb)).2⟩)
  have hG := hG0.toAS post_len (by omega)
  clear hG0
  have hsp := hsp.ext (hx37.trans hx8)
  go_wp2_with fail
  refine (c_eqPostingS _ _ _ _ _ _ RR.1 _ (hG.slice post_len) hsp).mono ?_
  rintro e w9 ⟨rfl, hx9⟩
  have hx79 := hx8.trans hx9
  have X9 := X7.trans hx79
  obtain ⟨ha, a0, a1, a2, a3, a4⟩ := bin.ext (hx79)
  obtain ⟨hlt, x0, x1, x2, x3, x4⟩ := hin.ext (hx07.trans hx79)
  go_wp2_with fail
  refine wp_region_ph [([0, 1], 2), ([], 3)] [4] (by kernel_rfl) (by kernel_rfl) (by intro c a w d v h; cases d <;> exact h) ?_
  simp only [wpPh, pickL, nthO]
  repeat (go_big_quiet_step (fail))
  refine wpQuiet_nil ?_
  go_wp2_with fail
  refine (c_toRoom A1 A2 A3 A4 A5 n1 c1 n2 c2 n3 c3 n4 c4 n5 c5 r _ (hat.ext X9.drew) hz).mono ?_
  intro e w10 hcp
  obtain ⟨D1, D2, D3, D4, D5, t1, u1, t2, u2, t3, u3, t4, u4, t5, u5, r6, rfl, hat6, hl6, hx10⟩ := hcp.of hl
  have HL6' := hide hl6
  clear hl6 hcp
  have x710 : Ext w7 w10 := hx79.drew.trans hx10
  go_wp2_with fail
  refine ⟨hx10, wpQuiet_nil ?_⟩
  go_wp2_with fail
  refine (c_eqRoom C1 C2 C3 C4 C5 q1 f1 q2 f2 q3 f3 q4 f4 q5 f5 D1 D2 D3 D4 D5 t1 u1 t2 u2 t3 u3 t4 u4 t5 u5 r4 r6 _ (hat7.ext x710) hat6 (HL4.out.trans HL6'.out.symm)).mono ?_
  rintro e w11 ⟨rfl, hx11⟩
  clear ha a0 a1 a2 a3 a4
  clear hlt x0 x1 x2 x3 x4
  have E11 := x710.trans hx11
  have x911 : Ext w9 w11 := (Ext.refl w9).drew.trans (hx10.trans hx11)
  go_wp2_with fail
  refine ⟨hx11, ?_⟩
  repeat (go_big_quiet_step (fail))
  refine wpQuiet_nil ?_
  clear hat6 HL6' hx10 x710 hx11
  have hTr := hT.ext (hx07.trans E11)
  have y0 := hTr.cell 0
  have y1 := hTr.cell 1
  have y2 := hTr.cell 2
  have y3 := hTr.cell 3
  simp at y0 y1 y2 y3
  have hyl := hTr.lt
  have bTr := bT.ext (E11)
  have j0 := bTr.cell 0
  have j1 := bTr.cell 1
  have j2 := bTr.cell 2
  have j3 := bTr.cell 3
  simp at j0 j1 j2 j3
  have jl := bTr.lt
  go_wp2_with fail
  refine wp_region_ph [([0, 1], 2), ([], 3)] [4] (by kernel_rfl) (by kernel_rfl) (by intro c a w d v h; cases d <;> exact h) ?_
  simp only [wpPh, pickL, nthO]
  repeat (go_big_quiet_step (fail))
  refine wpQuiet_nil ?_
  go_wp2_with fail
  refine (c_toTerms band percent price K kn kc ts _ (hK.ext (X7.trans E11).drew) m6).mono ?_
  rintro e w12 ⟨_, rfl, _, t6, hx12⟩
  have E12 := E11.drew.trans hx12
  go_wp2_with fail
  refine ⟨hx12, wpQuiet_nil ?_⟩
  go_wp2_with fail
  refine (c_eqTerms band percent price _ _ _ _ _ _ ts _ ((U6.ext E12).slice (fun _ => rfl) rfl (by omega)) (t6.slice (fun _ => rfl) rfl (by omega))).mono ?_
  rintro e w13 ⟨rfl, hx13⟩
  have E13 := E12.trans hx13
  have x913 : Ext w9 w13 := x911.trans ((Ext.refl w11).drew.trans (hx12.trans hx13))
  clear hTr y0 y1 y2 y3 hyl
  clear bTr j0 j1 j2 j3 jl
  clear t6
  go_wp2_with fail
  refine ⟨hx13, ?_⟩
  repeat (go_big_quiet_step (fail))
  refine wpQuiet_nil ?_
  clear hx12 hx13 E11 E12 x911
  obtain ⟨ha, a0, a1, a2, a3, a4⟩ := bin.ext (E13)
  go_wp2_with fail
  refine (c_markRoom _ _ C1 C2 C3 C4 C5 q1 f1 q2 f2 q3 f3 q4 f4 q5 f5 r4 1 _ (hown.ext E13) hsm4 (by omega) (by omega)).mono ?_
  rintro e w14 ⟨rfl, _, t14⟩
  clear ha a0 a1 a2 a3 a4
  have hm1 : 1 ≤ markN 1 q1 q2 q3 q4 r4.rs ∧ markN 1 q1 q2 q3 q4 r4.rs ≤ 1000000000 := by
    obtain ⟨e1, e2, e3, e4, e5⟩ := hsm4
    unfold markN; omega
  obtain ⟨mr, HMR⟩ : ∃ mr, Hid (markN 1 q1 q2 q3 q4 r4.rs = mr) := ⟨_, hide rfl⟩
  rw [HMR.out] at hm1 ⊢
  have V6 := ((U6.ext E13).toA rfl (Nat.le_refl _) (by omega)).turn t14 (fun b hb hS => by have := blk_is hb; have := HPP.out; omega)
  have bT := (bT.ext E13).turn t14 (fun hb => by have := HPP.out; omega)
  have bTr := bT.ext ((Ext.refl w14))
  have j0 := bTr.cell 0
  have j1 := bTr.cell 1
  have j2 := bTr.cell 2
  have j3 := bTr.cell 3
  simp at j0 j1 j2 j3
  have jl := bTr.lt
  go_wp2_with fail
  refine (c_markTerms band percent price _ _ _ ts _ _ V6 (by omega) (by omega) (by omega)).mono ?_
  rintro e w15 ⟨rfl, _, tr15⟩
  clear bTr j0 j1 j2 j3 jl
  have t15 : Turn (fun b => b = p6) w14 w15 := tr15.mono (fun b hb => blk_is hb)
  have TP : Turn (fun b => (w3.heap.size ≤ b ∧ b < w4.heap.size) ∨ b = p6) w13 w15 := (t14.mono (fun b hb => .inl hb)).trans (t15.mono (fun b hb => .inr hb))
  clear V6 t14 t15 tr15 bT bin U6 hown hat7
  have hk0 : decide (mr + 2 * (ts.length : Int) < 0) = false := by rw [decide_eq_false_iff_not]; omega
  have F15 : Ext w3 w15 := (hx37.trans E13).turn TP (fun b hb => by have := HPP.out; omega)
  have hG := ((hG.ext hx9).ext x913).turn TP (fun b hb hS => by have := HGB.out b hb; have := HPP.out; omega)
  have hsp := ((hsp.ext hx9).ext x913).turn TP (fun b hb hS => by have := HSB.out b hb; have := HPP.out; omega)
  clear TP E13 x913
  go_wp2_with fail
  refine (c_eqPostingS _ _ _ _ _ _ RR.1 _ (hG.slice post_len) hsp).mono ?_
  rintro e w16 ⟨rfl, hx16⟩
  have hG := hG.ext hx16
  have hsp := hsp.ext hx16
  have F16 := F15.trans hx16
  clear hk0
  go_wp2_with fail
  refine (n_markPosting _ _ _ RR.1 1 _ hG (by omega) (by omega) (by omega)).mono ?_
  obtain ⟨mk, HMK⟩ : ∃ mk, Hid ((1 : Int) + 4 * ((RR.1.length : Nat) : Int) = mk) := ⟨_, hide rfl⟩
  have hm0 : ¬ mk < 0 := by rw [← HMK.out]; omega
  unfold MarkA
  rw [HMK.out]
  rintro e w17 ⟨rfl, hM, trM⟩
  have F17 := F16.turn trM (fun b hb => by have := HGB.out b hb; have := HPP.out; omega)
  have hsp := hsp.turn trM (fun b hb hS => by have := HSB.out b hb; have := HGB.out b hS; have := HPP.out; omega)
  clear trM hG
  go_wp2_with fail
  refine (c_heldPostingS _ _ _ 1 _ (hM.slice post_len) (by omega) (by omega) (by omega)).mono ?_
  rw [HMK.out]
  rintro e w31 ⟨rfl, rfl⟩
  have hx017 := hx03.trans F17
  have X17 := X3.trans F17
  clear F15 hx16 F16
  obtain ⟨hlt, x0, x1, x2, x3, x4⟩ := hin.ext (hx017)
  have hTr := hT.ext (hx017)
  have y0 := hTr.cell 0
  have y1 := hTr.cell 1
  have y2 := hTr.cell 2
  have y3 := hTr.cell 3
  simp at y0 y1 y2 y3
  have hyl := hTr.lt
  go_wp2_with fail
  refine wp_region_ph [([0, 2], 1), ([], 3), ([], 4)] [5, 6, 7, 8, 9] (by kernel_rfl) (by kernel_rfl) (by intro c a w d v h; cases d <;> exact h) ?_
  simp only [wpPh, pickL, nthO]
  repeat (go_big_quiet_step (fail))
  refine wpQuiet_nil ?_
  go_wp2_with fail
  refine (c_toRoom A1 A2 A3 A4 A5 n1 c1 n2 c2 n3 c3 n4 c4 n5 c5 r _ (hat.ext X17.drew) hz).mono ?_
  intro e w18 hcp
  obtain ⟨B1, B2, B3, B4, B5, m1, d1, m2, d2, m3, d3, m4, d4, m5, d5, r8, rfl, hat8, hl8, hx18⟩ := hcp.of hl
  have HE8 : Hid (srV m1 r8 band percent price ts = RR) := hide (by rw [hat8.s1.len, hl8.1, srV_like hl8]; exact HRR.out)
  clear hcp hl8
  clear hlt x0 x1 x2 x3 x4
  clear hTr y0 y1 y2 y3 hyl
  have hD18 : Ext w17 w18 := (Ext.refl w17).drew.trans hx18
  go_wp2_with fail
  refine ⟨hx18, wpQuiet_nil ?_⟩
  go_wp2_with fail
  refine (c_toTerms band percent price K kn kc ts _ (hK.ext (X17.trans hD18)) m6).mono ?_
  rintro e w19 ⟨g9, rfl, _, rT9, hx19⟩
  go_wp2_with fail
  refine ⟨hx19, wpQuiet_nil ?_⟩
  go_wp2_with fail
  refine (c_SettleRoom B1 B2 B3 B4 B5 m1 d1 m2 d2 m3 d3 m4 d4 m5 d5 r8 band percent price _ _ _ ts _ (hat8.ext hx19) (rT9.slice (fun _ => rfl) rfl (by omega))).mono ?_
  rw [HE8.out]
  rintro e w20 ⟨vJ, jl, jz, rfl, hJ0, hx20, HPJ⟩
  obtain ⟨rfl, rfl⟩ : jl = RR.1 ∧ jz = RR.2 := by have := HPJ.out; exact ⟨congrArg Prod.fst this, congrArg Prod.snd this⟩
  obtain ⟨JP, jc, rfl, hjp⟩ := hJ0.sl post_len (by omega)
  have hx1720 : Ext w17 w20 := hD18.trans (hx19.trans hx20)
  clear hJ0 hat8 rT9
  go_wp2_with fail
  refine ⟨hx20, ?_⟩
  repeat (go_big_quiet_step (fail))
  refine wpQuiet_nil ?_
  go_wp2_with fail
  refine (c_eqPostingS _ _ _ _ _ _ RR.1 _ hjp (hsp.ext hx1720)).mono ?_
  rintro e w33 ⟨rfl, hx33⟩
  go_wp2_with fail
  refine (c_heldPostingS _ _ _ 1 _ ((hM.ext (hx1720.trans hx33)).slice post_len) (by omega) (by omega) (by omega)).mono ?_
  rw [HMK.out]
  rintro e w34 ⟨rfl, rfl⟩
  go_wp2_with fail
  go_ret
  exact Ret.bool rfl (X17.trans (hx1720.trans hx33))
end Go.Proofs.YtfkpghdmljjegaaGreat
