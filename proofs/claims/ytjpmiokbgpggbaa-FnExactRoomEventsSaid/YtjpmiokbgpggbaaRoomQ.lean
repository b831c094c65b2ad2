



/-
  FnExactRoomEvents: for every input the law returns true and its argument reads as before. No condition.
-/
import Derived.Test.YtjpmiokbgpggbaaRoomP
import Derived.Test.YtjpmiokbgpggbaaRoomG
namespace Go.Proofs.Ytjpmiokbgpggbaa
open Go.RowKit Go.ChangeShapes Go.WideShapes Go.ChangeAt Go.Deep Go.Joins
theorem roomEv_like {r r' : Room} (h : r'.Like r) : roomEv r' = roomEv r := by
  obtain ⟨_, _, _, h4, h5⟩ := h
  have hl := congrArg List.length h5
  simp at hl
  unfold roomEv
  rw [h4, h5, hl]
theorem evsR_like {r r' : Room} {n1 : Int} (h : roomB n1 r' = roomOk r) (hl : r'.Like r) : evsR n1 r' = evsR r.ns.length r := by
  unfold evsR evR
  rw [h, roomEv_like hl]; rfl
set_option maxHeartbeats 4000000 in
theorem law_RoomEvents (A1 A2 A3 A4 A5 : Option Addr) (n1 c1 n2 c2 n3 c3 n4 c4 n5 c5 : Nat) (r : Room) (w : World) (hat : RoomAt w A1 A2 A3 A4 A5 n1 c1 n2 c2 n3 c3 n4 c4 n5 c5 r) (hnm : Named0 r.ns) :
    Calls Try.prog 7 #[.agg #[.slice A1 n1 c1, .slice A2 n2 c2, .slice A3 n3 c3, .slice A4 n4 c4, .slice A5 n5 c5]] w (Ret (.bool true) w) := by
  have hin := RoomIn.new w A1 A2 A3 A4 A5 n1 c1 n2 c2 n3 c3 n4 c4 n5 c5 30
  have HNM := hide hnm
  clear hnm
  go_enter Try.func7, Try.ntmps7
  go_wp2_with fail
  refine (c_szRoom A1 A2 A3 A4 A5 n1 c1 n2 c2 n3 c3 n4 c4 n5 c5 r _ (hat.ext (Ext.alloc _ _)) HNM.out 1048576 (by omega) (by omega)).mono ?_
  rintro e w1 ⟨z, rfl, hx1, rfl | ⟨hz0, hz1, hz⟩⟩
  · go_wp2_with fail
    go_ret
    exact Ret.bool rfl hx1.box
  have hz' : ¬ z < 0 := by omega
  have hl := hat.roomLen hz
  have HNS := hide hl.2.1
  obtain ⟨hlt, x0, x1, x2, x3, x4⟩ := hin.ext hx1
  go_wp2_with fail
  refine (c_toRoom A1 A2 A3 A4 A5 n1 c1 n2 c2 n3 c3 n4 c4 n5 c5 r _ (hat.ext hx1.box) hz).mono ?_
  intro e w2 hcp
  obtain ⟨B1, B2, B3, B4, B5, m1, d1, m2, d2, m3, d3, m4, d4, m5, d5, r2, rfl, hat2, hl2, hx2⟩ := hcp.of hl
  obtain ⟨ev, HEV⟩ : ∃ ev, Hid (evsR r.ns.length r = ev) := ⟨_, hide rfl⟩
  have HE2 := hide ((evsR_like (hat2.ok hl2) hl2).trans HEV.out)
  have HL2 := hide hl2
  clear hl2 hcp
  go_wp2_with fail
  refine (c_specRoomEvents B1 B2 B3 B4 B5 m1 d1 m2 d2 m3 d3 m4 d4 m5 d5 r2 _ hat2 (by rw [HL2.out.1]; exact HNS.out)).mono ?_
  rw [HE2.out]
  have hE3 : ev.1.length ≤ 300 := by rw [← HEV.out]; exact evsR_len r.ns.length r
  rintro e w3 ⟨SA, sn, sc, sg, rfl, hsn, hsc, hsg, hso, hx3⟩
  have so := hso.toA hsn hsc
  have hX3 := hx1.trans (hx2.trans hx3)
  have hs3 := hX3.size
  clear hlt x0 x1 x2 x3 x4 hso hsg
  obtain ⟨hlt, x0, x1, x2, x3, x4⟩ := hin.ext hX3
  go_wp2_with fail
  refine (c_toRoom A1 A2 A3 A4 A5 n1 c1 n2 c2 n3 c3 n4 c4 n5 c5 r _ (hat.ext hX3.box) hz).mono ?_
  intro e w4 hcp
  obtain ⟨C1, C2, C3, C4, C5, q1, f1, q2, f2, q3, f3, q4, f4, q5, f5, r4, rfl, hown4, hl4, hsm4, hx4⟩ := hcp.new hl
  have hat4 := hown4.at_
  have HE4 := hide ((evsR_like (hat4.ok hl4) hl4).trans HEV.out)
  have HL4 := hide hl4
  clear hl4 hcp
  have hin4 := RoomIn.new w4 C1 C2 C3 C4 C5 q1 f1 q2 f2 q3 f3 q4 f4 q5 f5 41
  clear hlt x0 x1 x2 x3 x4
  go_wp2_with fail
  refine (c_RoomEvents C1 C2 C3 C4 C5 q1 f1 q2 f2 q3 f3 q4 f4 q5 f5 r4 _ (hat4.ext (Ext.alloc _ _))).mono ?_
  rw [HE4.out]
  rintro e w5 ⟨IA, n, ic, ig, rfl, hin5, hic, hig, hio, hx5⟩
  have io := hio.toA hin5 hic
  have hsp := fun b hb => (OwnS.blk hio (b := b) hb).1
  have hX5 := hX3.trans (hx4.trans hx5.box)
  have HN := hide hio.1
  have hn300 : n ≤ 300 := by rw [HN.out]; exact hE3
  clear hio
  have so5 := so.ext (hx4.trans hx5.box)
  go_wp2_with fail
  refine (c_eqEventS _ _ _ _ _ _ ev.1 _ (io.slice event_len) (so5.slice event_len)).mono ?_
  rintro e w6 ⟨rfl, hx6⟩
  have hX6 := hX5.trans hx6
  have hx46 := hx5.trans hx6
  obtain ⟨ha, a0, a1, a2, a3, a4⟩ := hin4.ext hx46
  obtain ⟨hb, b0, b1, b2, b3, b4⟩ := hin.ext hX6
  go_wp2_with fail
  refine wp_region_ph [([0, 1], 2), ([], 3)] [4] (by kernel_rfl) (by kernel_rfl) (by intro c a w d v h; cases d <;> exact h) ?_
  simp only [wpPh, pickL, nthO]
  repeat (go_big_quiet_step (fail))
  refine wpQuiet_nil ?_
  have xb6 := hX6.box.drew
  go_wp2_with fail
  refine (c_toRoom A1 A2 A3 A4 A5 n1 c1 n2 c2 n3 c3 n4 c4 n5 c5 r _ (hat.ext xb6) hz).mono ?_
  intro e w7 hcp
  obtain ⟨D1, D2, D3, D4, D5, t1, u1, t2, u2, t3, u3, t4, u4, t5, u5, r6, rfl, hat6, hl6, hx7⟩ := hcp.of hl
  have HL6 := hide hl6
  clear hl6 hcp
  have x47 : Ext w4 w7 := hx46.box.drew.trans hx7
  go_wp2_with fail
  refine ⟨hx7, wpQuiet_nil ?_⟩
  go_wp2_with fail
  refine (c_eqRoom C1 C2 C3 C4 C5 q1 f1 q2 f2 q3 f3 q4 f4 q5 f5 D1 D2 D3 D4 D5 t1 u1 t2 u2 t3 u3 t4 u4 t5 u5 r4 r6 _ (hat4.ext x47) hat6 (HL4.out.trans HL6.out.symm)).mono ?_
  rintro e w8 ⟨rfl, hx8⟩
  clear ha a0 a1 a2 a3 a4 hb b0 b1 b2 b3 b4
  have x68 : Ext w6 w8 := (Ext.refl _).drew.trans (hx7.trans hx8)
  have x48 := x47.trans hx8
  have hX8 := hX6.trans x68
  obtain ⟨ha, a0, a1, a2, a3, a4⟩ := hin4.ext (hx46.trans x68)
  go_wp2_with fail
  refine ⟨hx8, ?_⟩
  repeat (go_big_quiet_step (fail))
  refine wpQuiet_nil ?_
  go_wp2_with fail
  refine (c_markRoom _ _ C1 C2 C3 C4 C5 q1 f1 q2 f2 q3 f3 q4 f4 q5 f5 r4 1 _ (hown4.ext x48) hsm4 (by omega) (by omega)).mono ?_
  rintro e w9 ⟨rfl, _, tr9⟩
  clear ha a0 a1 a2 a3 a4
  have hX9 := hX8.turn tr9 (fun b hb => by omega)
  have hm0 : decide (markN 1 q1 q2 q3 q4 r4.rs < 0) = false := by rw [decide_eq_false_iff_not]; unfold markN; omega
  have hz4 := hx4.size
  have hz5 : w4.heap.size ≤ ig := by simp at hig; omega
  have so9 := ((so5.ext hx6).ext x68).turn tr9 (fun b hb hS => by have := so.lt hb; omega)
  have io9 := ((io.ext hx6).ext x68).turn tr9 (fun b hb hS => by have := hsp b hb; omega)
  generalize markN 1 q1 q2 q3 q4 r4.rs = mk at *
  go_wp2_with fail
  refine (c_eqEventS _ _ _ _ _ _ ev.1 _ (io9.slice event_len) (so9.slice event_len)).mono ?_
  rintro e w10 ⟨rfl, hx10⟩
  go_wp2_with fail
  refine (m_markEventS IA n ic ev.1 1 _ (io9.ext hx10) (by omega) (by omega) (by omega)).mono ?_
  rintro e w11 ⟨rfl, io11, tr11⟩
  have so11 := (so9.ext hx10).turn tr11 (fun b hb hS => by have := so.lt hb; have := hsp b hS; omega)
  have hX11 := (hX9.trans hx10).turn tr11 (fun b hb => by have := hsp b hb; omega)
  have e5 : ¬ (1 : Int) + 5 * (n : Int) < 0 := by omega
  go_wp2_with fail
  refine (c_heldEventS IA n ic 1 _ (io11.slice event_len) (by omega) (by omega) (by omega)).mono ?_
  rintro e w12 ⟨rfl, rfl⟩
  obtain ⟨hb, b0, b1, b2, b3, b4⟩ := hin.ext hX11
  go_wp2_with fail
  refine (c_toRoom A1 A2 A3 A4 A5 n1 c1 n2 c2 n3 c3 n4 c4 n5 c5 r _ (hat.ext hX11.box) hz).mono ?_
  intro e w12 hcp
  obtain ⟨E1, E2, E3, E4, E5, t1, u1, t2, u2, t3, u3, t4, u4, t5, u5, r12, rfl, hat12, hl12, hx12⟩ := hcp.of hl
  have HE12 := hide ((evsR_like (hat12.ok hl12) hl12).trans HEV.out)
  clear hcp hl12 hb b0 b1 b2 b3 b4
  go_wp2_with fail
  refine (c_RoomEvents E1 E2 E3 E4 E5 t1 u1 t2 u2 t3 u3 t4 u4 t5 u5 r12 _ hat12).mono ?_
  rw [HE12.out]
  rintro e w13 ⟨JA, jn, jc, jg, rfl, hjn, hjc, _, hjo, hx13⟩
  have jo := hjo.toA hjn hjc
  clear hjo
  have hx1113 := hx12.trans hx13
  go_wp2_with fail
  refine (c_eqEventS _ _ _ _ _ _ ev.1 _ (jo.slice event_len) ((so11.ext hx1113).slice event_len)).mono ?_
  rintro e w14 ⟨rfl, hx14⟩
  go_wp2_with fail
  refine (c_heldEventS IA n ic 1 _ (((io11.ext hx1113).ext hx14).slice event_len) (by omega) (by omega) (by omega)).mono ?_
  rintro e w15 ⟨rfl, rfl⟩
  go_wp2_with fail
  go_ret
  exact Ret.bool rfl (hX11.trans (hx1113.trans hx14)).box
set_option maxRecDepth 100000 in
theorem lifted_RoomEvents (os : Os) (started : os.Started) (H : Type) (enc : TypeId × Value → H) :
    ReturnsInHanded {} Try.checked os 7 .any (Rows.fnExactRoomEventsSpec.pre6 enc Try.prog Try.f7 Rows.fnExactRoomEventsRow.domain false) (Rows.fnExactRoomEventsSpec.post enc Try.prog Try.f7 false true false false) := by
  refine returnsInHanded_of_change (C := Try.checked) own started (by kernel_rfl) Try.func7
    (ChangeSpec.witness6 (enc := enc) (C := Try.checked) false ⟨#[], #[.agg #[.slice none 0 0, .slice none 0 0, .slice none 0 0, .slice none 0 0, .slice none 0 0]], []⟩ 8 (by kernel_rfl) (by kernel_rfl) (by kernel_rfl) (by kernel_rfl)) ?_
  intro W base args ds gs before hval0 hW _ _
  have hval : ∀ (j : Nat) t v, Try.f7.params[j]? = some t → args[j]? = some v → Value.okWide Try.prog W .any base t v := hval0
  have hW' := hW
  obtain ⟨p, q, hA0, hV, rfl, hfz, hnd⟩ := hW
  have hA : DataW.TrodAll enc Try.prog W 0 (fun _ => true) true Try.f7.params.toList args.toList ds p := hA0
  rw [Try.params7] at hA hval
  obtain ⟨v0, vs0, d0, ds0, p0, q0, hargs, rfl, rfl, h0, r0⟩ := trodAll_cons hA
  obtain ⟨rfl, rfl, rfl⟩ := trodAll_nil r0
  obtain rfl : args = #[v0] := by cases args; simp_all
  obtain ⟨rfl, rfl⟩ := trodVars_none hV
  have k0 := h0
  have lt0 : ∀ x ∈ p0, x.block < W.heap.size := by obtain ⟨m, hm⟩ := k0; exact DataW.trod_lt m _ _ _ hm
  obtain ⟨A1, A2, A3, A4, A5, n1, c1, n2, c2, n3, c3, n4, c4, n5, c5, r, rfl, hat, hnm⟩ := open_room (hval 0 30 v0 rfl rfl) h0
  clear hA0 hval0
  refine (law_RoomEvents A1 A2 A3 A4 A5 n1 c1 n2 c2 n3 c3 n4 c4 n5 c5 r W hat hnm).mono fun e W' ⟨he, bel⟩ => ?_
  subst he
  exact ⟨_, rfl, _, _, _, [], _, [], hW', trodAll_mk1 (shut_bool Try.underlying4 _), (trodAll_cons_mk (Below.trod laidOut (by kernel_rfl) (of_decide_eq_true (by kernel_rfl)) k0 bel lt0) trodAll_mk0), rfl, bel.frame _, fun h => by cases h⟩

theorem holds_RoomEvents : Rows.FnExactRoomEventsSaid :=
  OpenClaim.holds_of_wide 7 Try.f7 rfl rfl rfl rfl rfl rfl rfl ⟨rfl, rfl, rfl, rfl, rfl⟩ rfl rfl rfl rfl rfl (by kernel_rfl) Try.func7 (by kernel_rfl)
    (of_decide_eq_true (by kernel_rfl)) (by unfold Func.isWrapper; first | (rw [if_pos (by decide +kernel)]; kernel_rfl) | (rw [if_neg (by decide +kernel)]; exact ⟨rfl, rfl⟩))
    (fun os started H enc _ => lifted_RoomEvents os started H enc)
#print axioms holds_RoomEvents
end Go.Proofs.Ytjpmiokbgpggbaa
