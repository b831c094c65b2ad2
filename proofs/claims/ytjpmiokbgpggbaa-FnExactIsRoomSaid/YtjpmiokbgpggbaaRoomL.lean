


/-
  FnExactIsRoom, FnExactCurrentHour: for every input the law returns true and its argument reads as before. No condition.
-/
import Derived.Test.YtjpmiokbgpggbaaRoomJ
namespace Go.Proofs.Ytjpmiokbgpggbaa
open Go.RowKit Go.ChangeShapes Go.WideShapes Go.ChangeAt Go.Deep Go.Joins
theorem own : ownKnob Try.prog.godebug = none := by kernel_rfl
theorem laidOut : laidOutB Try.prog = true := by kernel_rfl
def roomOk (r : Room) : Bool := roomB r.ns.length r
def RoomLen (r : Room) : Prop := r.ns.length ≤ 1048576 ∧ Named r.ns ∧ r.ps.length ≤ 1048576 ∧ r.xs.length ≤ 1048576 ∧ r.L.length ≤ 1048576 ∧ r.rs.length ≤ 1048576 ∧ ∀ q ∈ r.rs, q.xs.length ≤ 1048576
section
variable {w w' : World} {A1 A2 A3 A4 A5 : Option Addr} {n1 c1 n2 c2 n3 c3 n4 c4 n5 c5 : Nat} {r r' : Room}
theorem RoomAt.roomLen (h : RoomAt w A1 A2 A3 A4 A5 n1 c1 n2 c2 n3 c3 n4 c4 n5 c5 r) (hz : RoomSz r n1 n2 n3 n4 n5) : RoomLen r :=
  ⟨h.s1.len ▸ hz.n1, hz.nm, h.s2.len ▸ hz.n2, h.s3.len ▸ hz.n3, h.s4.len ▸ hz.n4, h.s5.len ▸ hz.n5, fun q hq => (h.s6 q hq).len ▸ hz.n6 q hq⟩
theorem RoomLen.like (h : RoomLen r) (hl : r'.Like r) : RoomLen r' := by
  obtain ⟨h1, h2, h3, h4, h5⟩ := hl
  obtain ⟨k1, k2, k3, k4, k5, k6, k7⟩ := h
  have hlen := congrArg List.length h5
  simp at hlen
  refine ⟨by rw [h1]; exact k1, by rw [h1]; exact k2, by rw [h2]; exact k3, by rw [h3]; exact k4, by rw [h4]; exact k5, by rw [hlen]; exact k6, fun q hq => ?_⟩
  have : q.xs ∈ r.rs.map RS.xs := by rw [← h5]; exact List.mem_map_of_mem hq
  obtain ⟨q', hq', he⟩ := List.mem_map.1 this
  rw [← he]; exact k7 q' hq'
theorem RoomAt.ok (h : RoomAt w A1 A2 A3 A4 A5 n1 c1 n2 c2 n3 c3 n4 c4 n5 c5 r') (hl : r'.Like r) : roomB n1 r' = roomOk r := by
  unfold roomOk
  rw [h.s1.len, hl.1, roomB_like hl]
end
/-- a copy, as it is read -/
def RoomOf (r : Room) (w : World) (e : Ending) (w' : World) : Prop := ∃ (A1 A2 A3 A4 A5 : Option Addr) (n1 c1 n2 c2 n3 c3 n4 c4 n5 c5 : Nat) (r' : Room), e = .returned (.agg #[.slice A1 n1 c1, .slice A2 n2 c2, .slice A3 n3 c3, .slice A4 n4 c4, .slice A5 n5 c5]) ∧ RoomAt w' A1 A2 A3 A4 A5 n1 c1 n2 c2 n3 c3 n4 c4 n5 c5 r' ∧ r'.Like r ∧ Ext w w'
theorem CopiedRoom.of {r : Room} {w w' : World} {e : Ending} (hl : RoomLen r) (h : CopiedRoom r w e w') : RoomOf r w e w' := by
  obtain ⟨g1, g2, g3, g4, g5, rs', rfl, _, _, _, _, _, r1, r2, r3, r4, r5, hm, ho, _, hx⟩ := h
  obtain ⟨k1, _, k2, k3, k4, k5, _⟩ := hl
  have hlen := congrArg List.length hm
  simp at hlen
  exact ⟨_, _, _, _, _, _, _, _, _, _, _, _, _, _, _, ⟨r.ns, r.ps, r.xs, r.L, rs'⟩, rfl, ⟨r1.slice node_len rfl (by omega), r2.slice pipe_len rfl (by omega), r3.slice contract_len rfl (by omega), r4.slice nomination_len rfl (by omega), r5.slice rs_len hlen.symm (by omega), fun q hq => (ho q hq).slice⟩, ⟨rfl, rfl, rfl, rfl, hm⟩, hx⟩
theorem hourR_like {r r' : Room} {n1 : Int} (h : roomB n1 r' = roomOk r) (hl : r'.Like r) : hourR n1 r' = hourR r.ns.length r := by
  have hlen := congrArg List.length hl.2.2.2.2
  simp at hlen
  unfold hourR
  rw [h, hlen]; rfl
set_option maxHeartbeats 2000000 in
theorem law_IsRoom (A1 A2 A3 A4 A5 : Option Addr) (n1 c1 n2 c2 n3 c3 n4 c4 n5 c5 : Nat) (r : Room) (w : World) (hat : RoomAt w A1 A2 A3 A4 A5 n1 c1 n2 c2 n3 c3 n4 c4 n5 c5 r) (hnm : Named0 r.ns) :
    Calls Try.prog 3 #[.agg #[.slice A1 n1 c1, .slice A2 n2 c2, .slice A3 n3 c3, .slice A4 n4 c4, .slice A5 n5 c5]] w (Ret (.bool true) w) := by
  have hin := RoomIn.new w A1 A2 A3 A4 A5 n1 c1 n2 c2 n3 c3 n4 c4 n5 c5 30
  have HNM := hide hnm
  clear hnm
  go_enter Try.func3, Try.ntmps3
  go_wp2_with fail
  refine (c_szRoom A1 A2 A3 A4 A5 n1 c1 n2 c2 n3 c3 n4 c4 n5 c5 r _ (hat.ext (Ext.alloc _ _)) HNM.out 1048576 (by omega) (by omega)).mono ?_
  rintro e w1 ⟨z, rfl, hx1, rfl | ⟨hz0, hz1, hz⟩⟩
  · go_wp2_with fail
    go_ret
    exact Ret.bool rfl hx1.box
  have hz' : ¬ z < 0 := by omega
  have hl := hat.roomLen hz
  have HNS := hide hl.2.1
  obtain ⟨hlt, x0, x1, x2, x3, x4⟩ := hin.ext hx1
  go_wp2_with fail
  refine (c_toRoom A1 A2 A3 A4 A5 n1 c1 n2 c2 n3 c3 n4 c4 n5 c5 r _ (hat.ext hx1.box) hz).mono ?_
  intro e w2 hcp
  obtain ⟨B1, B2, B3, B4, B5, m1, d1, m2, d2, m3, d3, m4, d4, m5, d5, r2, rfl, hat2, hl2, hx2⟩ := hcp.of hl
  have hok2 := hat2.ok hl2
  have HL2 := hide hl2
  clear hl2 hcp
  go_wp2_with fail
  refine (c_specIsRoom B1 B2 B3 B4 B5 m1 d1 m2 d2 m3 d3 m4 d4 m5 d5 r2 _ hat2 (by rw [HL2.out.1]; exact HNS.out)).mono ?_
  rw [hok2]
  rintro e w3 ⟨rfl, hx3⟩
  have hx13 := hx1.trans (hx2.trans hx3)
  clear hlt x0 x1 x2 x3 x4
  obtain ⟨hlt, x0, x1, x2, x3, x4⟩ := hin.ext hx13
  go_wp2_with fail
  refine (c_toRoom A1 A2 A3 A4 A5 n1 c1 n2 c2 n3 c3 n4 c4 n5 c5 r _ (hat.ext hx13.box) hz).mono ?_
  intro e w4 hcp
  obtain ⟨C1, C2, C3, C4, C5, q1, f1, q2, f2, q3, f3, q4, f4, q5, f5, r4, rfl, hat4, hl4, hx4⟩ := hcp.of hl
  have hok4 := hat4.ok hl4
  have HL4 := hide hl4
  clear hl4 hcp
  have hin4 := RoomIn.new w4 C1 C2 C3 C4 C5 q1 f1 q2 f2 q3 f3 q4 f4 q5 f5 41
  clear hlt x0 x1 x2 x3 x4
  go_wp2_with fail
  refine (c_IsRoom C1 C2 C3 C4 C5 q1 f1 q2 f2 q3 f3 q4 f4 q5 f5 r4 _ (hat4.ext (Ext.alloc _ _))).mono ?_
  rw [hok4]
  rintro e w5 ⟨rfl, hx5⟩
  have hx15 := hx13.trans (hx4.trans hx5.box)
  obtain ⟨ha, a0, a1, a2, a3, a4⟩ := hin4.ext hx5
  obtain ⟨hb, b0, b1, b2, b3, b4⟩ := hin.ext hx15
  go_wp2_with fail
  refine wp_region_ph [([0, 1], 2), ([], 3)] [4] (by kernel_rfl) (by kernel_rfl) (by intro c a w d v h; cases d <;> exact h) ?_
  simp only [wpPh, pickL, nthO]
  repeat (go_big_quiet_step (fail))
  refine wpQuiet_nil ?_
  have xb5 := hx15.box.drew
  go_wp2_with fail
  refine (c_toRoom A1 A2 A3 A4 A5 n1 c1 n2 c2 n3 c3 n4 c4 n5 c5 r _ (hat.ext xb5) hz).mono ?_
  intro e w6 hcp
  obtain ⟨D1, D2, D3, D4, D5, t1, u1, t2, u2, t3, u3, t4, u4, t5, u5, r6, rfl, hat6, hl6, hx6⟩ := hcp.of hl
  have HL6 := hide hl6
  clear hl6 hcp
  have x46 : Ext w4 w6 := hx5.box.drew.trans hx6
  go_wp2_with fail
  refine ⟨hx6, wpQuiet_nil ?_⟩
  go_wp2_with fail
  refine (c_eqRoom C1 C2 C3 C4 C5 q1 f1 q2 f2 q3 f3 q4 f4 q5 f5 D1 D2 D3 D4 D5 t1 u1 t2 u2 t3 u3 t4 u4 t5 u5 r4 r6 _ (hat4.ext x46) hat6 (HL4.out.trans HL6.out.symm)).mono ?_
  rintro e w7 ⟨rfl, hx7⟩
  go_wp2_with fail
  refine ⟨hx7, ?_⟩
  repeat (go_big_quiet_step (fail))
  refine wpQuiet_nil ?_
  go_wp2_with fail
  go_ret
  exact Ret.bool rfl ((hx15.drew.trans hx6).trans hx7).box
set_option maxRecDepth 100000 in
theorem lifted_IsRoom (os : Os) (started : os.Started) (H : Type) (enc : TypeId × Value → H) :
    ReturnsInHanded {} Try.checked os 3 .any (Rows.fnExactIsRoomSpec.pre6 enc Try.prog Try.f3 Rows.fnExactIsRoomRow.domain false) (Rows.fnExactIsRoomSpec.post enc Try.prog Try.f3 false true false false) := by
  refine returnsInHanded_of_change (C := Try.checked) own started (by kernel_rfl) Try.func3
    (ChangeSpec.witness6 (enc := enc) (C := Try.checked) false ⟨#[], #[.agg #[.slice none 0 0, .slice none 0 0, .slice none 0 0, .slice none 0 0, .slice none 0 0]], []⟩ 8 (by kernel_rfl) (by kernel_rfl) (by kernel_rfl) (by kernel_rfl)) ?_
  intro W base args ds gs before hval0 hW _ _
  have hval : ∀ (j : Nat) t v, Try.f3.params[j]? = some t → args[j]? = some v → Value.okWide Try.prog W .any base t v := hval0
  have hW' := hW
  obtain ⟨p, q, hA0, hV, rfl, hfz, hnd⟩ := hW
  have hA : DataW.TrodAll enc Try.prog W 0 (fun _ => true) true Try.f3.params.toList args.toList ds p := hA0
  rw [Try.params3] at hA hval
  obtain ⟨v0, vs0, d0, ds0, p0, q0, hargs, rfl, rfl, h0, r0⟩ := trodAll_cons hA
  obtain ⟨rfl, rfl, rfl⟩ := trodAll_nil r0
  obtain rfl : args = #[v0] := by cases args; simp_all
  obtain ⟨rfl, rfl⟩ := trodVars_none hV
  have k0 := h0
  have lt0 : ∀ x ∈ p0, x.block < W.heap.size := by obtain ⟨m, hm⟩ := k0; exact DataW.trod_lt m _ _ _ hm
  obtain ⟨A1, A2, A3, A4, A5, n1, c1, n2, c2, n3, c3, n4, c4, n5, c5, r, rfl, hat, hnm⟩ := open_room (hval 0 30 v0 rfl rfl) h0
  clear hA0 hval0
  refine (law_IsRoom A1 A2 A3 A4 A5 n1 c1 n2 c2 n3 c3 n4 c4 n5 c5 r W hat hnm).mono fun e W' ⟨he, bel⟩ => ?_
  subst he
  exact ⟨_, rfl, _, _, _, [], _, [], hW', trodAll_mk1 (shut_bool Try.underlying4 _), (trodAll_cons_mk (Below.trod laidOut (by kernel_rfl) (of_decide_eq_true (by kernel_rfl)) k0 bel lt0) trodAll_mk0), rfl, bel.frame _, fun h => by cases h⟩

theorem holds_IsRoom : Rows.FnExactIsRoomSaid :=
  OpenClaim.holds_of_wide 3 Try.f3 rfl rfl rfl rfl rfl rfl rfl ⟨rfl, rfl, rfl, rfl, rfl⟩ rfl rfl rfl rfl rfl (by kernel_rfl) Try.func3 (by kernel_rfl)
    (of_decide_eq_true (by kernel_rfl)) (by unfold Func.isWrapper; first | (rw [if_pos (by decide +kernel)]; kernel_rfl) | (rw [if_neg (by decide +kernel)]; exact ⟨rfl, rfl⟩))
    (fun os started H enc _ => lifted_IsRoom os started H enc)
#print axioms holds_IsRoom
set_option maxHeartbeats 2000000 in
theorem law_CurrentHour (A1 A2 A3 A4 A5 : Option Addr) (n1 c1 n2 c2 n3 c3 n4 c4 n5 c5 : Nat) (r : Room) (w : World) (hat : RoomAt w A1 A2 A3 A4 A5 n1 c1 n2 c2 n3 c3 n4 c4 n5 c5 r) (hnm : Named0 r.ns) :
    Calls Try.prog 4 #[.agg #[.slice A1 n1 c1, .slice A2 n2 c2, .slice A3 n3 c3, .slice A4 n4 c4, .slice A5 n5 c5]] w (Ret (.bool true) w) := by
  have hin := RoomIn.new w A1 A2 A3 A4 A5 n1 c1 n2 c2 n3 c3 n4 c4 n5 c5 30
  have HNM := hide hnm
  clear hnm
  go_enter Try.func4, Try.ntmps4
  go_wp2_with fail
  refine (c_szRoom A1 A2 A3 A4 A5 n1 c1 n2 c2 n3 c3 n4 c4 n5 c5 r _ (hat.ext (Ext.alloc _ _)) HNM.out 1048576 (by omega) (by omega)).mono ?_
  rintro e w1 ⟨z, rfl, hx1, rfl | ⟨hz0, hz1, hz⟩⟩
  · go_wp2_with fail
    go_ret
    exact Ret.bool rfl hx1.box
  have hz' : ¬ z < 0 := by omega
  have hl := hat.roomLen hz
  have HNS := hide hl.2.1
  obtain ⟨hlt, x0, x1, x2, x3, x4⟩ := hin.ext hx1
  go_wp2_with fail
  refine (c_toRoom A1 A2 A3 A4 A5 n1 c1 n2 c2 n3 c3 n4 c4 n5 c5 r _ (hat.ext hx1.box) hz).mono ?_
  intro e w2 hcp
  obtain ⟨B1, B2, B3, B4, B5, m1, d1, m2, d2, m3, d3, m4, d4, m5, d5, r2, rfl, hat2, hl2, hx2⟩ := hcp.of hl
  have hok2 := hat2.ok hl2
  have HL2 := hide hl2
  clear hl2 hcp
  go_wp2_with fail
  refine (c_specCurrentHour B1 B2 B3 B4 B5 m1 d1 m2 d2 m3 d3 m4 d4 m5 d5 r2 _ hat2 (by rw [HL2.out.1]; exact HNS.out)).mono ?_
  rw [hourR_like hok2 HL2.out]
  rintro e w3 ⟨rfl, hx3⟩
  have hx13 := hx1.trans (hx2.trans hx3)
  clear hlt x0 x1 x2 x3 x4
  obtain ⟨hlt, x0, x1, x2, x3, x4⟩ := hin.ext hx13
  go_wp2_with fail
  refine (c_toRoom A1 A2 A3 A4 A5 n1 c1 n2 c2 n3 c3 n4 c4 n5 c5 r _ (hat.ext hx13.box) hz).mono ?_
  intro e w4 hcp
  obtain ⟨C1, C2, C3, C4, C5, q1, f1, q2, f2, q3, f3, q4, f4, q5, f5, r4, rfl, hat4, hl4, hx4⟩ := hcp.of hl
  have hok4 := hat4.ok hl4
  have HL4 := hide hl4
  clear hl4 hcp
  have hin4 := RoomIn.new w4 C1 C2 C3 C4 C5 q1 f1 q2 f2 q3 f3 q4 f4 q5 f5 41
  clear hlt x0 x1 x2 x3 x4
  go_wp2_with fail
  refine (c_CurrentHour C1 C2 C3 C4 C5 q1 f1 q2 f2 q3 f3 q4 f4 q5 f5 r4 _ (hat4.ext (Ext.alloc _ _))).mono ?_
  rw [hourR_like hok4 HL4.out]
  rintro e w5 ⟨rfl, hx5⟩
  have hx15 := hx13.trans (hx4.trans hx5.box)
  obtain ⟨ha, a0, a1, a2, a3, a4⟩ := hin4.ext hx5
  obtain ⟨hb, b0, b1, b2, b3, b4⟩ := hin.ext hx15
  go_wp2_with fail
  refine wp_region_ph [([0, 1], 2), ([], 3)] [4] (by kernel_rfl) (by kernel_rfl) (by intro c a w d v h; cases d <;> exact h) ?_
  simp only [wpPh, pickL, nthO]
  repeat (go_big_quiet_step (fail))
  refine wpQuiet_nil ?_
  have xb5 := hx15.box.drew
  go_wp2_with fail
  refine (c_toRoom A1 A2 A3 A4 A5 n1 c1 n2 c2 n3 c3 n4 c4 n5 c5 r _ (hat.ext xb5) hz).mono ?_
  intro e w6 hcp
  obtain ⟨D1, D2, D3, D4, D5, t1, u1, t2, u2, t3, u3, t4, u4, t5, u5, r6, rfl, hat6, hl6, hx6⟩ := hcp.of hl
  have HL6 := hide hl6
  clear hl6 hcp
  have x46 : Ext w4 w6 := hx5.box.drew.trans hx6
  go_wp2_with fail
  refine ⟨hx6, wpQuiet_nil ?_⟩
  go_wp2_with fail
  refine (c_eqRoom C1 C2 C3 C4 C5 q1 f1 q2 f2 q3 f3 q4 f4 q5 f5 D1 D2 D3 D4 D5 t1 u1 t2 u2 t3 u3 t4 u4 t5 u5 r4 r6 _ (hat4.ext x46) hat6 (HL4.out.trans HL6.out.symm)).mono ?_
  rintro e w7 ⟨rfl, hx7⟩
  go_wp2_with fail
  refine ⟨hx7, ?_⟩
  repeat (go_big_quiet_step (fail))
  refine wpQuiet_nil ?_
  go_wp2_with fail
  go_ret
  exact Ret.bool rfl ((hx15.drew.trans hx6).trans hx7).box
set_option maxRecDepth 100000 in
theorem lifted_CurrentHour (os : Os) (started : os.Started) (H : Type) (enc : TypeId × Value → H) :
    ReturnsInHanded {} Try.checked os 4 .any (Rows.fnExactCurrentHourSpec.pre6 enc Try.prog Try.f4 Rows.fnExactCurrentHourRow.domain false) (Rows.fnExactCurrentHourSpec.post enc Try.prog Try.f4 false true false false) := by
  refine returnsInHanded_of_change (C := Try.checked) own started (by kernel_rfl) Try.func4
    (ChangeSpec.witness6 (enc := enc) (C := Try.checked) false ⟨#[], #[.agg #[.slice none 0 0, .slice none 0 0, .slice none 0 0, .slice none 0 0, .slice none 0 0]], []⟩ 8 (by kernel_rfl) (by kernel_rfl) (by kernel_rfl) (by kernel_rfl)) ?_
  intro W base args ds gs before hval0 hW _ _
  have hval : ∀ (j : Nat) t v, Try.f4.params[j]? = some t → args[j]? = some v → Value.okWide Try.prog W .any base t v := hval0
  have hW' := hW
  obtain ⟨p, q, hA0, hV, rfl, hfz, hnd⟩ := hW
  have hA : DataW.TrodAll enc Try.prog W 0 (fun _ => true) true Try.f4.params.toList args.toList ds p := hA0
  rw [Try.params4] at hA hval
  obtain ⟨v0, vs0, d0, ds0, p0, q0, hargs, rfl, rfl, h0, r0⟩ := trodAll_cons hA
  obtain ⟨rfl, rfl, rfl⟩ := trodAll_nil r0
  obtain rfl : args = #[v0] := by cases args; simp_all
  obtain ⟨rfl, rfl⟩ := trodVars_none hV
  have k0 := h0
  have lt0 : ∀ x ∈ p0, x.block < W.heap.size := by obtain ⟨m, hm⟩ := k0; exact DataW.trod_lt m _ _ _ hm
  obtain ⟨A1, A2, A3, A4, A5, n1, c1, n2, c2, n3, c3, n4, c4, n5, c5, r, rfl, hat, hnm⟩ := open_room (hval 0 30 v0 rfl rfl) h0
  clear hA0 hval0
  refine (law_CurrentHour A1 A2 A3 A4 A5 n1 c1 n2 c2 n3 c3 n4 c4 n5 c5 r W hat hnm).mono fun e W' ⟨he, bel⟩ => ?_
  subst he
  exact ⟨_, rfl, _, _, _, [], _, [], hW', trodAll_mk1 (shut_bool Try.underlying4 _), (trodAll_cons_mk (Below.trod laidOut (by kernel_rfl) (of_decide_eq_true (by kernel_rfl)) k0 bel lt0) trodAll_mk0), rfl, bel.frame _, fun h => by cases h⟩

theorem holds_CurrentHour : Rows.FnExactCurrentHourSaid :=
  OpenClaim.holds_of_wide 4 Try.f4 rfl rfl rfl rfl rfl rfl rfl ⟨rfl, rfl, rfl, rfl, rfl⟩ rfl rfl rfl rfl rfl (by kernel_rfl) Try.func4 (by kernel_rfl)
    (of_decide_eq_true (by kernel_rfl)) (by unfold Func.isWrapper; first | (rw [if_pos (by decide +kernel)]; kernel_rfl) | (rw [if_neg (by decide +kernel)]; exact ⟨rfl, rfl⟩))
    (fun os started H enc _ => lifted_CurrentHour os started H enc)
#print axioms holds_CurrentHour
end Go.Proofs.Ytjpmiokbgpggbaa
