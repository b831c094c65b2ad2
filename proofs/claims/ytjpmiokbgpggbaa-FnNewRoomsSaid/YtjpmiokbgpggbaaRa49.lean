/-
  FnNewRooms: for every code the law returns true and the code reads as before.
-/
import Derived.Test.YtjpmiokbgpggbaaRa48
namespace Go.Proofs.Ytjpmiokbgpggbaa
open Go.RowKit Go.ChangeShapes Go.WideShapes Go.ChangeAt Go.Deep Go.Joins
theorem ROwn.n1 {w : World} {lo hi : Nat} (A1 A2 A3 A4 A5 : Option Addr) (n1 c1 n2 c2 n3 c3 n4 c4 n5 c5 : Nat) {r : Room} (h : ROwn w lo hi A1 A2 A3 A4 A5 n1 c1 n2 c2 n3 c3 n4 c4 n5 c5 r) : n1 = r.ns.length := h.o1.1
set_option maxRecDepth 8000 in
set_option maxHeartbeats 2000000 in
theorem law_NewRooms (A : Option Addr) (n c : Nat) (bs : List Int) (w : World) (hbs : SliceOf w 1 byteC A n c bs) (hbd : ∀ z ∈ bs, 0 ≤ z ∧ z ≤ 255) :
    Calls Try.prog 6 #[.slice A n c] w (Ret (.bool true) w) := by
  have HD := hide hbd
  clear hbd
  by_cases hbig : (4096 : Int) < n
  · have hb : decide ((4096 : Int) < n) = true := by simpa using hbig
    go_enter Try.func6, Try.ntmps6
    go_wp2_with fail
    refine (c_big A n c _).mono ?_
    rw [hb]
    rintro e w' ⟨rfl, rfl⟩
    go_wp2_with fail
    go_ret
    exact Ret.bool rfl (Ext.refl _)
  have hb : decide ((4096 : Int) < n) = false := by simpa using hbig
  go_enter Try.func6, Try.ntmps6
  go_wp2_with fail
  refine (c_big A n c _).mono ?_
  rw [hb]
  rintro e w' ⟨rfl, rfl⟩
  clear hb
  go_wp2_with fail
  go_wp2_with fail
  refine (c_DrawNewRoom A n c bs _ hbs HD.out (by omega)).mono ?_
  rintro e w1 ⟨v1, v2, v3, ns, ps, xs, rfl, o1, o2, o3, b1, b2, b3, hnm, hx1⟩
  obtain ⟨A1, c1, rfl, h1⟩ := o1.sl node_len (by omega)
  obtain ⟨A2, c2, rfl, h2⟩ := o2.sl pipe_len (by omega)
  obtain ⟨A3, c3, rfl, h3⟩ := o3.sl contract_len (by omega)
  obtain ⟨RR, HRR⟩ : ∃ RR, Hid (newRR ns.length ns ps xs = RR) := ⟨_, hide rfl⟩
  have HNM := hide (show ∀ x ∈ ns, x.name.size ≤ 1048576 from fun x hx => Nat.le_trans (hnm x hx) (by omega))
  clear o1 o2 o3 hnm
  obtain ⟨W1, HW1⟩ : ∃ W1, Hid (w1.alloc (.cells #[.slice A1 ns.length c1, .slice A2 ps.length c2] 36) = W1) := ⟨_, hide rfl⟩
  have hx1' : Ext w1 W1 := by rw [← HW1.out]; exact Ext.alloc _ _
  have hN : Row W1 w1.heap.size 36 [.slice A1 ns.length c1, .slice A2 ps.length c2] := by rw [← HW1.out]; exact Row.new w1 _ _
  go_wp2_with fail
  rw [HW1.out]
  refine (c_NewRoom A1 A2 ns.length c1 ps.length c2 ns ps A3 xs.length c3 xs _ (h1.ext hx1') (h2.ext hx1') (h3.ext hx1') (by omega) (by omega) (by omega)).mono ?_
  rw [HRR.out]
  rintro e w2 ⟨B1, B2, B3, B4, B5, k1, d1, k2, d2, k3, d3, k4, d4, k5, d5, r2, rfl, hown, hlk, hx2⟩
  have HK1 := hide hown.n1
  have hr2 := hown.at_
  obtain ⟨W2, HW2⟩ : ∃ W2, Hid (w2.alloc (.cells #[.slice B1 k1 d1, .slice B2 k2 d2, .slice B3 k3 d3, .slice B4 k4 d4, .slice B5 k5 d5] 41) = W2) := ⟨_, hide rfl⟩
  have hx2' : Ext w2 W2 := by rw [← HW2.out]; exact Ext.alloc _ _
  have hA : RoomIn W2 w2.heap.size B1 B2 B3 B4 B5 k1 d1 k2 d2 k3 d3 k4 d4 k5 d5 := by rw [← HW2.out]; exact RoomIn.new w2 _ _ _ _ _ _ _ _ _ _ _ _ _ _ _ _
  have hN2 := hN.ext hx2
  have m0 := hN2.cell 0
  have m1 := hN2.cell 1
  simp at m0 m1
  have ml := hN2.lt
  have hX2 := hx1'.trans (hx2.trans hx2')
  clear hown hN hN2
  go_wp2_with fail
  rw [HW2.out]
  refine (c_specNewRoom A1 A2 ns.length c1 ps.length c2 ns ps A3 xs.length c3 xs _ (h1.ext hX2) (h2.ext hX2) (h3.ext hX2) (by omega) (by omega) (by omega) HNM.out).mono ?_
  rw [HRR.out]
  rintro e w3 ⟨C1, C2, C3, C4, C5, l1, f1, l2, f2, l3, f3, l4, f4, l5, f5, r3, rfl, hr3, hlk3, hx3⟩
  have hr2' := (hr2.ext hx2').ext hx3
  have hlike := hlk.trans hlk3.symm
  have HLK := hide hlk
  obtain ⟨W3, HW3⟩ : ∃ W3, Hid (w3.alloc (.cells #[.slice C1 l1 f1, .slice C2 l2 f2, .slice C3 l3 f3, .slice C4 l4 f4, .slice C5 l5 f5] 41) = W3) := ⟨_, hide rfl⟩
  have hx3' : Ext w3 W3 := by rw [← HW3.out]; exact Ext.alloc _ _
  obtain ⟨al, a0, a1, a2, a3, a4⟩ := hA.ext (hx3)
  obtain ⟨K, hK⟩ : ∃ K, RR.2 = K := ⟨_, rfl⟩
  rw [hK]
  clear m0 m1 ml hlk hlk3
  go_wp2_with fail
  rw [HW3.out]
  refine (c_likeRooms B1 B2 B3 B4 B5 k1 d1 k2 d2 k3 d3 k4 d4 k5 d5 C1 C2 C3 C4 C5 l1 f1 l2 f2 l3 f3 l4 f4 l5 f5 r2 r3 _ (hr2'.ext hx3') (hr3.ext hx3') hlike).mono ?_
  rintro e w4 ⟨rfl, hx4⟩
  have hX4 := hx3.trans (hx3'.trans hx4)
  clear al a0 a1 a2 a3 a4
  obtain ⟨al, a0, a1, a2, a3, a4⟩ := hA.ext (hX4)
  by_cases hK0 : K = 0
  · subst hK0
    have hb : (netB ns ps && bookB ns.length xs) = true := by
      cases hb : (netB ns ps && bookB ns.length xs)
      · have h := HRR.out; rw [newRR_no hb] at h; rw [← h] at hK; cases hK
      · rfl
    have hRR1 : RR.1 = newR ns ps xs := by have h := HRR.out; rw [newRR_yes hb] at h; rw [← h]
    have hlk := HLK.out
    rw [hRR1] at hlk
    have hkn : k1 = ns.length := by rw [HK1.out, hlk.1]; rfl
    rw [← hkn] at hb
    obtain ⟨g1, g2, g3, g4⟩ := like_new hlk hb
    have HE := hide (show evsR k1 r2 = ([], 0) by unfold evsR; rw [if_pos g1]; unfold evR; rw [g2]; rfl)
    have HH := hide (show hourR k1 r2 = (0, 0) by unfold hourR; rw [if_pos g1, g3]; rfl)
    have HR := hide g4
    clear hb hRR1 hlk g1 g2 g3 g4 HLK hK hkn
    go_wp2_with fail
    refine (c_RoomEvents B1 B2 B3 B4 B5 k1 d1 k2 d2 k3 d3 k4 d4 k5 d5 r2 _ ((hr2'.ext hx3').ext hx4)).mono ?_
    rw [HE.out]
    rintro e w5 ⟨E1, en, ec, g, rfl, -, -, -, hen, hx5⟩
    obtain rfl : en = 0 := hen.1
    have hX5 := hX4.trans hx5
    clear al a0 a1 a2 a3 a4
    obtain ⟨al, a0, a1, a2, a3, a4⟩ := hA.ext (hX5)
    go_wp2_with fail
    refine (c_CurrentHour B1 B2 B3 B4 B5 k1 d1 k2 d2 k3 d3 k4 d4 k5 d5 r2 _ (((hr2'.ext hx3').ext hx4).ext hx5)).mono ?_
    rw [HH.out]
    rintro e w6 ⟨rfl, hx6⟩
    have hX6 := hX5.trans hx6
    clear al a0 a1 a2 a3 a4
    obtain ⟨al, a0, a1, a2, a3, a4⟩ := hA.ext (hX6)
    go_wp2_with fail
    refine (c_IsReachable B1 B2 B3 B4 B5 k1 d1 k2 d2 k3 d3 k4 d4 k5 d5 r2 _ ((((hr2'.ext hx3').ext hx4).ext hx5).ext hx6)).mono ?_
    rw [HR.out]
    rintro e w7 ⟨rfl, hx7⟩
    go_wp2_with fail
    go_ret
    exact Ret.bool rfl (hx1.trans (hX2.trans (hX6.trans hx7)))
  · have bK : (K == 0) = false := by rw [beq_eq_false_iff_ne]; exact hK0
    go_wp2_with fail
    go_ret
    exact Ret.bool rfl (hx1.trans (hX2.trans hX4))
set_option maxRecDepth 100000 in
theorem lifted_NewRooms (os : Os) (started : os.Started) (H : Type) (enc : TypeId × Value → H) :
    ReturnsInHanded {} Try.checked os 6 .any (Rows.fnNewRoomsSpec.pre6 enc Try.prog Try.f6 Rows.fnNewRoomsRow.domain false) (Rows.fnNewRoomsSpec.post enc Try.prog Try.f6 false true false false) := by
  refine returnsInHanded_of_change (C := Try.checked) own started (by kernel_rfl) Try.func6
    (ChangeSpec.witness6 (enc := enc) (C := Try.checked) false ⟨#[], #[.slice none 0 0], []⟩ 8 (by kernel_rfl) (by kernel_rfl) (by kernel_rfl) (by kernel_rfl)) ?_
  intro W base args ds gs before hval0 hW _ _
  have hval : ∀ (j : Nat) t v, Try.f6.params[j]? = some t → args[j]? = some v → Value.okWide Try.prog W .any base t v := hval0
  have hW' := hW
  obtain ⟨p, q, hA0, hV, rfl, hfz, hnd⟩ := hW
  have hA : DataW.TrodAll enc Try.prog W 0 (fun _ => true) true Try.f6.params.toList args.toList ds p := hA0
  rw [Try.params6] at hA hval
  obtain ⟨v0, vs0, d0, ds0, p0, q0, hargs, rfl, rfl, h0, r0⟩ := trodAll_cons hA
  obtain ⟨rfl, rfl, rfl⟩ := trodAll_nil r0
  obtain rfl : args = #[v0] := by cases args; simp_all
  obtain ⟨rfl, rfl⟩ := trodVars_none hV
  have k0 := h0
  have lt0 : ∀ x ∈ p0, x.block < W.heap.size := by obtain ⟨m, hm⟩ := k0; exact DataW.trod_lt m _ _ _ hm
  obtain ⟨A, n, c, bs, e0, hs, hbd⟩ := open_bytes (hval 0 59 v0 rfl rfl) h0
  rw [e0]
  clear hA0 hval0
  refine (law_NewRooms A n c bs W hs hbd).mono fun e W' ⟨he, bel⟩ => ?_
  subst he
  rw [e0] at hW'
  exact ⟨_, rfl, _, _, _, [], _, [], hW', trodAll_mk1 (shut_bool Try.underlying4 _), (trodAll_cons_mk (Below.trod laidOut (by kernel_rfl) (of_decide_eq_true (by kernel_rfl)) (e0 ▸ k0) bel lt0) trodAll_mk0), rfl, bel.frame _, fun h => by cases h⟩

theorem holds_NewRooms : Rows.FnNewRoomsSaid :=
  OpenClaim.holds_of_wide 6 Try.f6 rfl rfl rfl rfl rfl rfl rfl ⟨rfl, rfl, rfl, rfl, rfl⟩ rfl rfl rfl rfl rfl (by kernel_rfl) Try.func6 (by kernel_rfl)
    (of_decide_eq_true (by kernel_rfl)) (by unfold Func.isWrapper; first | (rw [if_pos (by decide +kernel)]; kernel_rfl) | (rw [if_neg (by decide +kernel)]; exact ⟨rfl, rfl⟩))
    (fun os started H enc _ => lifted_NewRooms os started H enc)
#print axioms holds_NewRooms
end Go.Proofs.Ytjpmiokbgpggbaa
