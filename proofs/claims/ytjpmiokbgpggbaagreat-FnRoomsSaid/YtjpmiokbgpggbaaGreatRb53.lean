/-
  FnRooms: for every code the law returns true and the code reads as before.
-/
import Derived.Test.YtjpmiokbgpggbaaGreatRb50
import Derived.Test.YtjpmiokbgpggbaaGreatRb52
import Derived.Test.YtjpmiokbgpggbaaGreatRb16
namespace Go.Proofs.YtjpmiokbgpggbaaGreat
open Go.RowKit Go.ChangeShapes Go.WideShapes Go.ChangeAt Go.Deep Go.Joins
theorem applyRR_ok {nn : Int} {r : Room} {x : Event} (h : (applyRR nn r x).2 = 0) : roomB nn r = true ∧ evB x = true ∧ appB nn r x = true ∧ applyRR nn r x = (appR r x, 0) := by
  unfold applyRR at *
  split at h
  · cases h
  · rename_i h1
    split at h
    · cases h
    · rename_i h2
      split at h
      · cases h
      · rename_i h3
        refine ⟨by simpa using h1, by simpa using h2, by simpa using h3, ?_⟩
        rw [if_neg h1, if_neg h2, if_neg h3]
theorem appR_hours {r : Room} {x : Event} (hx : evB x = true) : (appR r x).rs.length = r.rs.length + (if x.kind = 3 then 1 else 0) := by
  obtain ⟨hk, _⟩ := evB_facts hx
  unfold appR
  rcases hk with h | h | h
  · rw [if_pos h, if_neg (by omega)]; rfl
  · rw [if_neg (by omega), if_pos h, if_neg (by omega)]; simp
  · rw [if_neg (by omega), if_neg (by omega), if_pos h]; simp
set_option maxRecDepth 8000 in
set_option maxHeartbeats 2000000 in
theorem law_Rooms (A : Option Addr) (n c : Nat) (bs : List Int) (w : World) (hbs : SliceOf w 1 byteC A n c bs) (hbd : ∀ z ∈ bs, 0 ≤ z ∧ z ≤ 255) :
    Calls Tryz.prog 3 #[.slice A n c] w (Ret (.bool true) w) := by
  have HD := hide hbd
  clear hbd
  by_cases hbig : (4096 : Int) < n
  · have hb : decide ((4096 : Int) < n) = true := by simpa using hbig
    go_enter Tryz.func3, Tryz.ntmps3
    go_wp2_with fail
    refine (c_big A n c _).mono ?_
    rw [hb]
    rintro e w' ⟨rfl, rfl⟩
    go_wp2_with fail
    go_ret
    exact Ret.bool rfl (Ext.refl _)
  have hb : decide ((4096 : Int) < n) = false := by simpa using hbig
  go_enter Tryz.func3, Tryz.ntmps3
  go_wp2_with fail
  refine (c_big A n c _).mono ?_
  rw [hb]
  rintro e w' ⟨rfl, rfl⟩
  clear hb
  go_wp2_with fail
  go_wp2_with fail
  refine (c_DrawApplyEvent A n c bs _ hbs HD.out (by omega)).mono ?_
  rintro e w1 ⟨C1, C2, C3, C4, C5, l1, f1, l2, f2, l3, f3, l4, f4, l5, f5, r, x, rfl, hat, hsz, hL, hrs, hq, hx1⟩
  have HNM := hide (show ∀ x ∈ r.ns, x.name.size ≤ 1048576 from fun x hx => Nat.le_trans (hsz.nm x hx) (by omega))
  clear hsz hL hrs hq
  obtain ⟨W1, HW1⟩ : ∃ W1, Hid ((w1.alloc (.cells #[.slice C1 l1 f1, .slice C2 l2 f2, .slice C3 l3 f3, .slice C4 l4 f4, .slice C5 l5 f5] 32)).alloc (.cells #[.int .i64 x.kind, .int .i64 x.a, .int .i64 x.b, .int .i64 x.c, .int .i64 x.d] 34) = W1) := ⟨_, hide rfl⟩
  have hx1' : Ext w1 W1 := by rw [← HW1.out]; exact (Ext.alloc _ _).and_alloc _
  have hC : RoomIn W1 w1.heap.size C1 C2 C3 C4 C5 l1 f1 l2 f2 l3 f3 l4 f4 l5 f5 := by rw [← HW1.out]; exact (RoomIn.new w1 _ _ _ _ _ _ _ _ _ _ _ _ _ _ _ _).ext (Ext.alloc _ _)
  have hE : EvIn W1 (w1.heap.size + 1) x := by rw [← HW1.out]; have h := EvIn.new (w1.alloc (.cells #[.slice C1 l1 f1, .slice C2 l2 f2, .slice C3 l3 f3, .slice C4 l4 f4, .slice C5 l5 f5] 32)) x 34; rw [World.size_alloc] at h; exact h
  obtain ⟨RR, HRR⟩ : ∃ RR, Hid (applyRR l1 r x = RR) := ⟨_, hide rfl⟩
  have hat1 := hat.ext hx1'
  go_wp2_with fail
  rw [HW1.out]
  refine (c_ApplyEvent C1 C2 C3 C4 C5 l1 f1 l2 f2 l3 f3 l4 f4 l5 f5 r x _ hat1).mono ?_
  rw [HRR.out]
  rintro e w2 ⟨B1, B2, B3, B4, B5, k1, d1, k2, d2, k3, d3, k4, d4, k5, d5, r2, rfl, hown, hlk, hx2⟩
  have HK1 := hide hown.o1.1
  have hr2 := hown.at_
  obtain ⟨cl, c0, c1, c2, c3, c4⟩ := hC.ext (hx2)
  obtain ⟨el, e0, e1, e2, e3, e4⟩ := hE.ext (hx2)
  obtain ⟨W2, HW2⟩ : ∃ W2, Hid (w2.alloc (.cells #[.slice B1 k1 d1, .slice B2 k2 d2, .slice B3 k3 d3, .slice B4 k4 d4, .slice B5 k5 d5] 32) = W2) := ⟨_, hide rfl⟩
  have hx2' : Ext w2 W2 := by rw [← HW2.out]; exact Ext.alloc _ _
  have hB : RoomIn W2 w2.heap.size B1 B2 B3 B4 B5 k1 d1 k2 d2 k3 d3 k4 d4 k5 d5 := by rw [← HW2.out]; exact RoomIn.new w2 _ _ _ _ _ _ _ _ _ _ _ _ _ _ _ _
  have hX2 := hx2.trans hx2'
  clear hown
  obtain ⟨K, hK⟩ : ∃ K, RR.2 = K := ⟨_, rfl⟩
  rw [hK]
  go_wp2_with fail
  rw [HW2.out]
  refine (c_specApplyEvent C1 C2 C3 C4 C5 l1 f1 l2 f2 l3 f3 l4 f4 l5 f5 r x _ (hat1.ext hX2) HNM.out).mono ?_
  rw [HRR.out]
  rintro e w3 ⟨D1, D2, D3, D4, D5, q1, g1, q2, g2, q3, g3, q4, g4, q5, g5, r3, rfl, hown3, hlk3, hx3⟩
  rw [hK]
  have hr3 := hown3.at_
  have hlike := hlk.trans hlk3.symm
  have HLK := hide hlk
  have HK := hide hK
  clear cl c0 c1 c2 c3 c4 el e0 e1 e2 e3 e4 hown3 hlk3 hlk hK
  have hX3 := hX2.trans hx3
  obtain ⟨cl, c0, c1, c2, c3, c4⟩ := hC.ext (hX3)
  obtain ⟨bl, b0, b1, b2, b3, b4⟩ := hB.ext (hx3)
  obtain ⟨W3, HW3⟩ : ∃ W3, Hid (w3.alloc (.cells #[.slice D1 q1 g1, .slice D2 q2 g2, .slice D3 q3 g3, .slice D4 q4 g4, .slice D5 q5 g5] 32) = W3) := ⟨_, hide rfl⟩
  have hx3' : Ext w3 W3 := by rw [← HW3.out]; exact Ext.alloc _ _
  have hD : RoomIn W3 w3.heap.size D1 D2 D3 D4 D5 q1 g1 q2 g2 q3 g3 q4 g4 q5 g5 := by rw [← HW3.out]; exact RoomIn.new w3 _ _ _ _ _ _ _ _ _ _ _ _ _ _ _ _
  go_wp2_with fail
  rw [HW3.out]
  clear cl c0 c1 c2 c3 c4 bl b0 b1 b2 b3 b4
  have hx33 := hx3.trans hx3'
  have hX33 := hX3.trans hx3'
  obtain ⟨cl, c0, c1, c2, c3, c4⟩ := hC.ext (hX33)
  obtain ⟨bl, b0, b1, b2, b3, b4⟩ := hB.ext (hx33)
  obtain ⟨dl, d0', d1', d2', d3', d4'⟩ := id hD
  refine wp_region_ph [([0, 1, 2, 3, 4, 5], 6), ([7, 8, 9, 10, 12], 11), ([], 13)] [14, 15] (by kernel_rfl) (by kernel_rfl) (by intro c a w d v h; cases d <;> exact h) ?_
  simp only [wpPh, pickL, nthO]
  repeat (go_big_quiet_step (fail))
  refine wpQuiet_nil ?_
  go_wp2_with fail
  refine (c_likeRooms B1 B2 B3 B4 B5 k1 d1 k2 d2 k3 d3 k4 d4 k5 d5 D1 D2 D3 D4 D5 q1 g1 q2 g2 q3 g3 q4 g4 q5 g5 r2 r3 _ (((hr2.ext hx2').ext hx33).ext (Ext.refl _).drew) ((hr3.ext hx3').ext (Ext.refl _).drew) hlike).mono ?_
  rintro e w4 ⟨rfl, hx4⟩
  have hxd := (Ext.refl W3).drew.trans hx4
  clear hlike cl c0 c1 c2 c3 c4
  obtain ⟨cl, c0, c1, c2, c3, c4⟩ := hC.ext (hX33.trans hxd)
  go_wp2_with fail
  refine ⟨hx4, ?_⟩
  repeat (go_big_quiet_step (fail))
  refine wpQuiet_nil ?_
  go_wp2_with fail
  refine (c_IsRoom C1 C2 C3 C4 C5 l1 f1 l2 f2 l3 f3 l4 f4 l5 f5 r _ ((hat1.ext hX33).ext hxd)).mono ?_
  rintro e w5 ⟨rfl, hx5⟩
  go_wp2_with fail
  refine ⟨hx5, wpQuiet_nil ?_⟩
  go_wp2_with fail
  refine (c_specIsRoom C1 C2 C3 C4 C5 l1 f1 l2 f2 l3 f3 l4 f4 l5 f5 r _ (((hat1.ext hX33).ext hxd).ext hx5) HNM.out).mono ?_
  rintro e w6 ⟨rfl, hx6⟩
  go_wp2_with fail
  refine ⟨hx6, ?_⟩
  repeat (go_big_quiet_step (fail))
  refine wpQuiet_nil ?_
  have hX36 := hxd.trans (hx5.trans hx6)
  have hX6 := hX33.trans hX36
  have hx26 := hx33.trans hX36
  clear cl c0 c1 c2 c3 c4 bl b0 b1 b2 b3 b4 dl d0' d1' d2' d3' d4'
  by_cases hK0 : K = 0
  · subst hK0
    have hA := HRR.out
    have hA2 : (applyRR l1 r x).2 = 0 := by rw [hA]; exact HK.out
    obtain ⟨g1, g2, g3, g4⟩ := applyRR_ok hA2
    have hRR1 : RR.1 = appR r x := by rw [← hA, g4]
    have hlk := HLK.out
    rw [hRR1] at hlk
    have hn1 : (l1 : Int) = r.ns.length := by rw [hat.s1.len]
    have hk1 : k1 = l1 := by rw [HK1.out, hlk.1, (appR_same r x).1, hat.s1.len]
    have ok2 : roomB k1 r2 = true := by rw [hk1, roomB_like hlk]; exact appR_ok g1 g3
    have hlen : r2.rs.length = r.rs.length + (if x.kind = 3 then 1 else 0) := by rw [← appR_hours g2]; have := congrArg List.length hlk.2.2.2.2; simpa using this
    have hpos : 0 < r.rs.length := roomB_pos g1
    have hfit := (roomFits g1).rs
    have HH1 := hide (show hourR l1 r = ((r.rs.length : Int) - 1, 0) by unfold hourR; rw [if_pos g1])
    have HH2 := hide (show hourR k1 r2 = ((r2.rs.length : Int) - 1, 0) by unfold hourR; rw [if_pos ok2])
    have HOK2 := hide ok2
    obtain ⟨m, hm⟩ : ∃ m : Nat, r.rs.length = m := ⟨_, rfl⟩
    have HM := hide hm
    have hm1 : m ≤ 48 := by omega
    have HM2 := hide (show r2.rs.length = m + (if x.kind = 3 then 1 else 0) by rw [hlen, hm])
    clear hA hA2 g1 g2 g3 g4 hRR1 hlk hn1 hk1 ok2 hlen hpos hfit hm HK HLK HRR
    obtain ⟨cl, c0, c1, c2, c3, c4⟩ := hC.ext (hX6)
    go_wp2_with fail
    refine (c_CurrentHour C1 C2 C3 C4 C5 l1 f1 l2 f2 l3 f3 l4 f4 l5 f5 r _ (hat1.ext hX6)).mono ?_
    rw [HH1.out, HM.out]
    rintro e w7 ⟨rfl, hx7⟩
    clear cl c0 c1 c2 c3 c4
    have hx27 := hx26.trans hx7
    obtain ⟨bl, b0, b1, b2, b3, b4⟩ := hB.ext (hx27)
    go_wp2_with fail
    refine (c_CurrentHour B1 B2 B3 B4 B5 k1 d1 k2 d2 k3 d3 k4 d4 k5 d5 r2 _ ((hr2.ext hx2').ext hx27)).mono ?_
    rw [HH2.out, HM2.out]
    rintro e w8 ⟨rfl, hx8⟩
    clear bl b0 b1 b2 b3 b4
    have hx28 := hx27.trans hx8
    obtain ⟨bl, b0, b1, b2, b3, b4⟩ := hB.ext (hx28)
    have hX8 := (hX6.trans hx7).trans hx8
    by_cases hk3 : x.kind = 3
    · have HE3 := hide (show ((m + (if x.kind = 3 then 1 else 0) : Nat) : Int) - 1 = (m : Int) by rw [if_pos hk3]; omega)
      rw [HE3.out]
      have e1 : IntKind.i64.wrap ((m : Int) - 1 + 1) = (m : Int) := by rw [IntWalk.i64_in _ (by omega)]; omega
      have b3 : (x.kind == 3) = true := by simpa using hk3
      clear hk3
      go_wp2_with fail
      refine (c_IsRoom B1 B2 B3 B4 B5 k1 d1 k2 d2 k3 d3 k4 d4 k5 d5 r2 _ ((hr2.ext hx2').ext hx28)).mono ?_
      rw [HOK2.out]
      rintro e w9 ⟨rfl, hx9⟩
      obtain ⟨el, e0, e1, e2, e3, e4⟩ := hE.ext (hX8.trans hx9)
      go_wp2_with fail
      go_ret
      exact Ret.bool rfl (hx1.trans (hx1'.trans (hX8.trans hx9)))
    · have HE3 := hide (show ((m + (if x.kind = 3 then 1 else 0) : Nat) : Int) - 1 = (m : Int) - 1 by rw [if_neg hk3]; omega)
      rw [HE3.out]
      have e1 : IntKind.i64.wrap ((m : Int) - 1 + 1) = (m : Int) := by rw [IntWalk.i64_in _ (by omega)]; omega
      have b3 : (x.kind == 3) = false := by rw [beq_eq_false_iff_ne]; exact hk3
      have b4' : ((m : Int) - 1 == (m : Int)) = false := by rw [beq_eq_false_iff_ne]; omega
      clear hk3
      go_wp2_with fail
      refine (c_IsRoom B1 B2 B3 B4 B5 k1 d1 k2 d2 k3 d3 k4 d4 k5 d5 r2 _ ((hr2.ext hx2').ext hx28)).mono ?_
      rw [HOK2.out]
      rintro e w9 ⟨rfl, hx9⟩
      obtain ⟨el, e0, e1, e2, e3, e4⟩ := hE.ext (hX8.trans hx9)
      go_wp2_with fail
      go_ret
      exact Ret.bool rfl (hx1.trans (hx1'.trans (hX8.trans hx9)))
  · have bK : (K == 0) = false := by rw [beq_eq_false_iff_ne]; exact hK0
    go_wp2_with fail
    go_ret
    exact Ret.bool rfl (hx1.trans (hx1'.trans hX6))
set_option maxRecDepth 100000 in
theorem lifted_Rooms (os : Os) (started : os.Started) (H : Type) (enc : TypeId × Value → H) :
    ReturnsInHanded {} Tryz.checked os 3 .any (Rows.fnRoomsSpec.pre6 enc Tryz.prog Tryz.f3 Rows.fnRoomsRow.domain false) (Rows.fnRoomsSpec.post enc Tryz.prog Tryz.f3 false true false false) := by
  refine returnsInHanded_of_change (C := Tryz.checked) own started (by kernel_rfl) Tryz.func3
    (ChangeSpec.witness6 (enc := enc) (C := Tryz.checked) false ⟨#[], #[.slice none 0 0], []⟩ 8 (by kernel_rfl) (by kernel_rfl) (by kernel_rfl) (by kernel_rfl)) ?_
  intro W base args ds gs before hval0 hW _ _
  have hval : ∀ (j : Nat) t v, Tryz.f3.params[j]? = some t → args[j]? = some v → Value.okWide Tryz.prog W .any base t v := hval0
  have hW' := hW
  obtain ⟨p, q, hA0, hV, rfl, hfz, hnd⟩ := hW
  have hA : DataW.TrodAll enc Tryz.prog W 0 (fun _ => true) true Tryz.f3.params.toList args.toList ds p := hA0
  rw [Tryz.params3] at hA hval
  obtain ⟨v0, vs0, d0, ds0, p0, q0, hargs, rfl, rfl, h0, r0⟩ := trodAll_cons hA
  obtain ⟨rfl, rfl, rfl⟩ := trodAll_nil r0
  obtain rfl : args = #[v0] := by cases args; simp_all
  obtain ⟨rfl, rfl⟩ := trodVars_none hV
  have k0 := h0
  have lt0 : ∀ x ∈ p0, x.block < W.heap.size := by obtain ⟨m, hm⟩ := k0; exact DataW.trod_lt m _ _ _ hm
  obtain ⟨A, n, c, bs, e0, hs, hbd⟩ := open_bytes (hval 0 22 v0 rfl rfl) h0
  rw [e0]
  clear hA0 hval0
  refine (law_Rooms A n c bs W hs hbd).mono fun e W' ⟨he, bel⟩ => ?_
  subst he
  rw [e0] at hW'
  exact ⟨_, rfl, _, _, _, [], _, [], hW', trodAll_mk1 (shut_bool Tryz.underlying4 _), (trodAll_cons_mk (Below.trod laidOut (by kernel_rfl) (of_decide_eq_true (by kernel_rfl)) (e0 ▸ k0) bel lt0) trodAll_mk0), rfl, bel.frame _, fun h => by cases h⟩

theorem holds_Rooms : Rows.FnRoomsSaid :=
  OpenClaim.holds_of_wide 3 Tryz.f3 rfl rfl rfl rfl rfl rfl rfl ⟨rfl, rfl, rfl, rfl, rfl⟩ rfl rfl rfl rfl rfl (by kernel_rfl) Tryz.func3 (by kernel_rfl)
    (of_decide_eq_true (by kernel_rfl)) (by unfold Func.isWrapper; first | (rw [if_pos (by decide +kernel)]; kernel_rfl) | (rw [if_neg (by decide +kernel)]; exact ⟨rfl, rfl⟩))
    (fun os started H enc _ => lifted_Rooms os started H enc)
#print axioms holds_Rooms
end Go.Proofs.YtjpmiokbgpggbaaGreat
