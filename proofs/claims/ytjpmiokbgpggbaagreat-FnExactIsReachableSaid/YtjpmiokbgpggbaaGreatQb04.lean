/-
  FnExactIsReachable: for every input the law returns true and its argument reads as before. No condition.
-/
import Derived.Test.YtjpmiokbgpggbaaGreatQb03
namespace Go.Proofs.YtjpmiokbgpggbaaGreat
open Go.RowKit Go.ChangeShapes Go.WideShapes Go.ChangeAt Go.Deep Go.Joins
theorem reach_like {w : World} (A1 A2 A3 A4 A5 : Option Addr) (n1 c1 n2 c2 n3 c3 n4 c4 n5 c5 : Nat) {r r' : Room} (hat : RoomAt w A1 A2 A3 A4 A5 n1 c1 n2 c2 n3 c3 n4 c4 n5 c5 r') (hl : r'.Like r) : reachB n1 r' = reachB r.ns.length r := by
  have hn : (n1 : Int) = r.ns.length := by rw [hat.s1.len, hl.1]
  have hev : roomEv r' = roomEv r := by
    have h := like_len hl
    unfold roomEv
    rw [hl.2.2.2.1, hl.2.2.2.2, h]
  unfold reachB
  rw [hn, roomB_like hl, hev, hl.1, hl.2.1, hl.2.2.1]
set_option maxHeartbeats 2000000 in
theorem law_IsReachable (A1 A2 A3 A4 A5 : Option Addr) (n1 c1 n2 c2 n3 c3 n4 c4 n5 c5 : Nat) (r : Room) (w : World) (hat : RoomAt w A1 A2 A3 A4 A5 n1 c1 n2 c2 n3 c3 n4 c4 n5 c5 r) (hnm : Named0 r.ns) :
    Calls Tryz.prog 4 #[.agg #[.slice A1 n1 c1, .slice A2 n2 c2, .slice A3 n3 c3, .slice A4 n4 c4, .slice A5 n5 c5]] w (Ret (.bool true) w) := by
  have hin := RoomIn.new w A1 A2 A3 A4 A5 n1 c1 n2 c2 n3 c3 n4 c4 n5 c5 51
  have HNM := hide hnm
  clear hnm
  go_enter Tryz.func4, Tryz.ntmps4
  go_wp2_with fail
  refine (c_szRoom A1 A2 A3 A4 A5 n1 c1 n2 c2 n3 c3 n4 c4 n5 c5 r _ (hat.ext (Ext.alloc _ _)) HNM.out 1048576 (by omega) (by omega)).mono ?_
  rintro e w1 ⟨z, rfl, hx1, rfl | ⟨hz0, hz1, hz⟩⟩
  · go_wp2_with fail
    go_ret
    exact Ret.bool rfl hx1.box
  have hz' : ¬ z < 0 := by omega
  have hl := hat.roomLen hz
  have HNS := hide hl.2.1
  obtain ⟨hlt, x0, x1, x2, x3, x4⟩ := hin.ext hx1
  go_wp2_with fail
  refine (c_toRoom A1 A2 A3 A4 A5 n1 c1 n2 c2 n3 c3 n4 c4 n5 c5 r _ (hat.ext hx1.box) hz).mono ?_
  intro e w2 hcp
  obtain ⟨B1, B2, B3, B4, B5, m1, d1, m2, d2, m3, d3, m4, d4, m5, d5, r2, rfl, hat2, hl2, hx2⟩ := hcp.of hl
  have hok2 := hat2.ok hl2
  have HL2 := hide hl2
  clear hl2 hcp
  go_wp2_with fail
  refine (c_specIsReachable B1 B2 B3 B4 B5 m1 d1 m2 d2 m3 d3 m4 d4 m5 d5 r2 _ hat2 (by rw [HL2.out.1]; exact HNS.out)).mono ?_
  rw [reach_like B1 B2 B3 B4 B5 m1 d1 m2 d2 m3 d3 m4 d4 m5 d5 hat2 HL2.out]
  rintro e w3 ⟨rfl, hx3⟩
  have hx13 := hx1.trans (hx2.trans hx3)
  clear hlt x0 x1 x2 x3 x4
  obtain ⟨hlt, x0, x1, x2, x3, x4⟩ := hin.ext hx13
  go_wp2_with fail
  refine (c_toRoom A1 A2 A3 A4 A5 n1 c1 n2 c2 n3 c3 n4 c4 n5 c5 r _ (hat.ext hx13.box) hz).mono ?_
  intro e w4 hcp
  obtain ⟨C1, C2, C3, C4, C5, q1, f1, q2, f2, q3, f3, q4, f4, q5, f5, r4, rfl, hat4, hl4, hx4⟩ := hcp.of hl
  have hok4 := hat4.ok hl4
  have HL4 := hide hl4
  clear hl4 hcp
  have hin4 := RoomIn.new w4 C1 C2 C3 C4 C5 q1 f1 q2 f2 q3 f3 q4 f4 q5 f5 32
  clear hlt x0 x1 x2 x3 x4
  go_wp2_with fail
  refine (c_IsReachable C1 C2 C3 C4 C5 q1 f1 q2 f2 q3 f3 q4 f4 q5 f5 r4 _ (hat4.ext (Ext.alloc _ _))).mono ?_
  rw [reach_like C1 C2 C3 C4 C5 q1 f1 q2 f2 q3 f3 q4 f4 q5 f5 hat4 HL4.out]
  rintro e w5 ⟨rfl, hx5⟩
  have hx15 := hx13.trans (hx4.trans hx5.box)
  obtain ⟨ha, a0, a1, a2, a3, a4⟩ := hin4.ext hx5
  obtain ⟨hb, b0, b1, b2, b3, b4⟩ := hin.ext hx15
  go_wp2_with fail
  refine wp_region_ph [([0, 1], 2), ([], 3)] [4] (by kernel_rfl) (by kernel_rfl) (by intro c a w d v h; cases d <;> exact h) ?_
  simp only [wpPh, pickL, nthO]
  repeat (go_big_quiet_step (fail))
  refine wpQuiet_nil ?_
  have xb5 := hx15.box.drew
  go_wp2_with fail
  refine (c_toRoom A1 A2 A3 A4 A5 n1 c1 n2 c2 n3 c3 n4 c4 n5 c5 r _ (hat.ext xb5) hz).mono ?_
  intro e w6 hcp
  obtain ⟨D1, D2, D3, D4, D5, t1, u1, t2, u2, t3, u3, t4, u4, t5, u5, r6, rfl, hat6, hl6, hx6⟩ := hcp.of hl
  have HL6 := hide hl6
  clear hl6 hcp
  have x46 : Ext w4 w6 := hx5.box.drew.trans hx6
  go_wp2_with fail
  refine ⟨hx6, wpQuiet_nil ?_⟩
  go_wp2_with fail
  refine (c_eqRoom C1 C2 C3 C4 C5 q1 f1 q2 f2 q3 f3 q4 f4 q5 f5 D1 D2 D3 D4 D5 t1 u1 t2 u2 t3 u3 t4 u4 t5 u5 r4 r6 _ (hat4.ext x46) hat6 (HL4.out.trans HL6.out.symm)).mono ?_
  rintro e w7 ⟨rfl, hx7⟩
  go_wp2_with fail
  refine ⟨hx7, ?_⟩
  repeat (go_big_quiet_step (fail))
  refine wpQuiet_nil ?_
  go_wp2_with fail
  go_ret
  exact Ret.bool rfl ((hx15.drew.trans hx6).trans hx7).box
set_option maxRecDepth 100000 in
theorem lifted_IsReachable (os : Os) (started : os.Started) (H : Type) (enc : TypeId × Value → H) :
    ReturnsInHanded {} Tryz.checked os 4 .any (Rows.fnExactIsReachableSpec.pre6 enc Tryz.prog Tryz.f4 Rows.fnExactIsReachableRow.domain false) (Rows.fnExactIsReachableSpec.post enc Tryz.prog Tryz.f4 false true false false) := by
  refine returnsInHanded_of_change (C := Tryz.checked) own started (by kernel_rfl) Tryz.func4
    (ChangeSpec.witness6 (enc := enc) (C := Tryz.checked) false ⟨#[], #[.agg #[.slice none 0 0, .slice none 0 0, .slice none 0 0, .slice none 0 0, .slice none 0 0]], []⟩ 8 (by kernel_rfl) (by kernel_rfl) (by kernel_rfl) (by kernel_rfl)) ?_
  intro W base args ds gs before hval0 hW _ _
  have hval : ∀ (j : Nat) t v, Tryz.f4.params[j]? = some t → args[j]? = some v → Value.okWide Tryz.prog W .any base t v := hval0
  have hW' := hW
  obtain ⟨p, q, hA0, hV, rfl, hfz, hnd⟩ := hW
  have hA : DataW.TrodAll enc Tryz.prog W 0 (fun _ => true) true Tryz.f4.params.toList args.toList ds p := hA0
  rw [Tryz.params4] at hA hval
  obtain ⟨v0, vs0, d0, ds0, p0, q0, hargs, rfl, rfl, h0, r0⟩ := trodAll_cons hA
  obtain ⟨rfl, rfl, rfl⟩ := trodAll_nil r0
  obtain rfl : args = #[v0] := by cases args; simp_all
  obtain ⟨rfl, rfl⟩ := trodVars_none hV
  have k0 := h0
  have lt0 : ∀ x ∈ p0, x.block < W.heap.size := by obtain ⟨m, hm⟩ := k0; exact DataW.trod_lt m _ _ _ hm
  obtain ⟨A1, A2, A3, A4, A5, n1, c1, n2, c2, n3, c3, n4, c4, n5, c5, r, rfl, hat, hnm⟩ := open_room (hval 0 51 v0 rfl rfl) h0
  clear hA0 hval0
  refine (law_IsReachable A1 A2 A3 A4 A5 n1 c1 n2 c2 n3 c3 n4 c4 n5 c5 r W hat hnm).mono fun e W' ⟨he, bel⟩ => ?_
  subst he
  exact ⟨_, rfl, _, _, _, [], _, [], hW', trodAll_mk1 (shut_bool Tryz.underlying4 _), (trodAll_cons_mk (Below.trod laidOut (by kernel_rfl) (of_decide_eq_true (by kernel_rfl)) k0 bel lt0) trodAll_mk0), rfl, bel.frame _, fun h => by cases h⟩

theorem holds_IsReachable : Rows.FnExactIsReachableSaid :=
  OpenClaim.holds_of_wide 4 Tryz.f4 rfl rfl rfl rfl rfl rfl rfl ⟨rfl, rfl, rfl, rfl, rfl⟩ rfl rfl rfl rfl rfl (by kernel_rfl) Tryz.func4 (by kernel_rfl)
    (of_decide_eq_true (by kernel_rfl)) (by unfold Func.isWrapper; first | (rw [if_pos (by decide +kernel)]; kernel_rfl) | (rw [if_neg (by decide +kernel)]; exact ⟨rfl, rfl⟩))
    (fun os started H enc _ => lifted_IsReachable os started H enc)
#print axioms holds_IsReachable
end Go.Proofs.YtjpmiokbgpggbaaGreat
