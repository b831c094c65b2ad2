/-
  FnPlanned: for every code the law returns true and the code reads as before.
-/
import Derived.Test.YtfkpghdmljjegaaGreatVc21
import Derived.Test.YtfkpghdmljjegaaGreatVc31
import Derived.Test.YtfkpghdmljjegaaGreatVc41
import Derived.Test.YtfkpghdmljjegaaGreatVc46
import Derived.Test.YtfkpghdmljjegaaGreatVc39
namespace Go.Proofs.YtfkpghdmljjegaaGreat
open Go.RowKit Go.ChangeShapes Go.WideShapes Go.ChangeAt Go.Deep Go.Joins
theorem HrAt.ext {A1 A2 : Option Addr} {n1 c1 n2 c2 : Nat} {ns : List Node} {ps : List Pipe} {A3 : Option Addr} {n3 c3 : Nat} {xs : List Contract} {A4 : Option Addr} {n4 c4 : Nat} {L : List Nomination} {w w' : World} (h : HrAt A1 A2 n1 c1 n2 c2 ns ps A3 n3 c3 xs A4 n4 c4 L w) (hx : Ext w w') : HrAt A1 A2 n1 c1 n2 c2 ns ps A3 n3 c3 xs A4 n4 c4 L w' :=
  ⟨h.s1.ext hx, h.s2.ext hx, h.s3.ext hx, h.s4.ext hx, h.nm, h.b1, h.b2, h.b3, h.b4⟩
set_option maxRecDepth 8000 in
set_option maxHeartbeats 4000000 in
theorem law_Planned (A : Option Addr) (n c : Nat) (bs : List Int) (w : World) (hbs : SliceOf w 1 byteC A n c bs) (hbd : ∀ z ∈ bs, 0 ≤ z ∧ z ≤ 255) :
    Calls Tryz.prog 6 #[.slice A n c] w (Ret (.bool true) w) := by
  have HD := hide hbd
  clear hbd
  by_cases hbig : (4096 : Int) < n
  · have hb : decide ((4096 : Int) < n) = true := by simpa using hbig
    go_enter Tryz.func6, Tryz.ntmps6
    go_wp2_with fail
    refine (c_big A n c _).mono ?_
    rw [hb]
    rintro e w' ⟨rfl, rfl⟩
    go_wp2_with fail
    go_ret
    exact Ret.bool rfl (Ext.refl _)
  have hb : decide ((4096 : Int) < n) = false := by simpa using hbig
  go_enter Tryz.func6, Tryz.ntmps6
  go_wp2_with fail
  refine (c_big A n c _).mono ?_
  rw [hb]
  rintro e w' ⟨rfl, rfl⟩
  clear hb
  go_wp2_with fail
  refine (c_DrawPlannedReadings A n c bs _ hbs HD.out (by omega)).mono ?_
  rintro e w1 ⟨A1, A2, n1, c1, n2, c2, ns, ps, A3, n3, c3, xs, A4, n4, c4, L, h, rfl, hat, hx1⟩
  obtain ⟨w2, HW2⟩ : ∃ w2, Hid (w1.alloc (.cells #[.slice A1 n1 c1, .slice A2 n2 c2] 45) = w2) := ⟨_, hide rfl⟩
  have hN : Row w2 w1.heap.size 45 [.slice A1 n1 c1, .slice A2 n2 c2] := by rw [← HW2.out]; exact Row.new w1 _ _
  have hx2 : Ext w1 w2 := by rw [← HW2.out]; exact Ext.alloc _ _
  have hat := hat.ext hx2
  have X2 := hx1.trans hx2
  have HN1 := hide hat.s1.len
  obtain ⟨R, HR⟩ : ∃ R, Hid (prV n1 ns ps xs L h = R) := ⟨_, hide rfl⟩
  obtain ⟨F, HF⟩ : ∃ F, Hid (pfV n1 ns ps xs L h = F) := ⟨_, hide rfl⟩
  clear hx1 hx2 hbs
  go_wp2_with fail
  rw [HW2.out]
  refine (c_PlannedReadings A1 A2 n1 c1 n2 c2 ns ps A3 n3 c3 xs A4 n4 c4 L h _ hat.s1 hat.s2 hat.s3 hat.s4).mono ?_
  rw [HR.out]
  rintro e w3 ⟨G, gn, gc, gg, gl, gz, rfl, hgc, hgm, hgg, hgo, hx3, HG⟩
  obtain ⟨rfl, rfl⟩ : gl = R.1 ∧ gz = R.2 := by have := HG.out; exact ⟨congrArg Prod.fst this, congrArg Prod.snd this⟩
  have hG := hgo.slice reading_len hgc hgm
  clear hgo hgc hgm hgg
  have hNr := hN.ext (hx3)
  have hb0 := hNr.cell 0
  have hb1 := hNr.cell 1
  simp at hb0 hb1
  have hbl := hNr.lt
  go_wp2_with fail
  refine (sp_PlannedReadings A1 A2 n1 c1 n2 c2 ns ps A3 n3 c3 xs A4 n4 c4 L h _ (hat.ext hx3).s1 (hat.ext hx3).s2 (hat.ext hx3).s3 (hat.ext hx3).s4 hat.nm).mono ?_
  rw [HR.out]
  rintro e w4 ⟨S, sn, sc, sl, sz, rfl, hS, hx4, HS⟩
  obtain ⟨rfl, rfl⟩ : sl = R.1 ∧ sz = R.2 := by have := HS.out; exact ⟨congrArg Prod.fst this, congrArg Prod.snd this⟩
  clear hNr hb0 hb1 hbl
  have hx24 := hx3.trans hx4
  have hG := hG.ext hx4
  have ha4 := hat.ext hx24
  have hNr := hN.ext (hx24)
  have hb0 := hNr.cell 0
  have hb1 := hNr.cell 1
  simp at hb0 hb1
  have hbl := hNr.lt
  go_wp2_with fail
  refine (c_PlannedFlows A1 A2 n1 c1 n2 c2 ns ps A3 n3 c3 xs A4 n4 c4 L h _ ha4.s1 ha4.s2 ha4.s3 ha4.s4).mono ?_
  rw [HF.out]
  rintro e w5 ⟨P, pn, pc, pg, pl, pz, rfl, hpc, hpm, hpg, hpo, hx5, HP⟩
  obtain ⟨rfl, rfl⟩ : pl = F.1 ∧ pz = F.2 := by have := HP.out; exact ⟨congrArg Prod.fst this, congrArg Prod.snd this⟩
  have hPf := hpo.slice intC_len hpc hpm
  clear hpo hpc hpm hpg ha4
  clear hNr hb0 hb1 hbl
  have hx25 := hx24.trans hx5
  have ha5 := hat.ext hx25
  have hNr := hN.ext (hx25)
  have hb0 := hNr.cell 0
  have hb1 := hNr.cell 1
  simp at hb0 hb1
  have hbl := hNr.lt
  go_wp2_with fail
  refine (sp_PlannedFlows A1 A2 n1 c1 n2 c2 ns ps A3 n3 c3 xs A4 n4 c4 L h _ ha5.s1 ha5.s2 ha5.s3 ha5.s4 hat.nm).mono ?_
  rw [HF.out]
  rintro e w6 ⟨T, tn, tc, tl, tz, rfl, hT, hx6, HT⟩
  obtain ⟨rfl, rfl⟩ : tl = F.1 ∧ tz = F.2 := by have := HT.out; exact ⟨congrArg Prod.fst this, congrArg Prod.snd this⟩
  clear hNr hb0 hb1 hbl
  have hx26 := hx25.trans hx6
  have hG := hG.ext (hx5.trans hx6)
  have hS := hS.ext (hx5.trans hx6)
  have hPf := hPf.ext hx6
  clear ha5 hx3 hx4 hx5 hx6 hx24 hx25
  go_wp2_with fail
  refine (c_likeReadings _ _ _ _ _ _ R.1 _ hG hS).mono ?_
  rintro e w7 ⟨rfl, hx7⟩
  go_wp2_with fail
  refine (c_likeInts _ _ _ _ _ _ F.1 _ (hPf.ext hx7) (hT.ext hx7)).mono ?_
  rintro e w8 ⟨rfl, hx8⟩
  have hx68 := hx7.trans hx8
  have hx28 := hx26.trans hx68
  have hG := hG.ext hx68
  have hPf := hPf.ext hx68
  clear hS hT hx7 hx8 hx68 hx26
  by_cases hz : R.2 = 0
  · have HRZ : Hid (prV n1 ns ps xs L h = (R.1, 0)) := hide (by rw [HR.out, ← hz])
    obtain ⟨hk, hc0, -⟩ := prV_ok HRZ.out
    have HK := hide hk
    obtain ⟨f, hf, hfl⟩ := pfV_flows HN1.out hc0
    have HFL : Hid (Flows ps n1 (supT n1 (lessT ps n1 xs L h)) F.1) := hide (by
      have : F.1 = f := by rw [← HF.out, hf]
      rw [this]; exact hfl)
    clear hk hc0 hf hfl
    obtain ⟨rz, hrz⟩ : ∃ rz, R.2 = rz := ⟨_, rfl⟩
    rw [hrz] at hz ⊢
    subst hz
    clear hrz
    have hpl := planned_sh HN1.out HRZ.out
    obtain ⟨Q, HQ⟩ : ∃ Q, Hid (shV n1 ns ps xs L h R.1 0 0 9 [⟨1, 100⟩] = Q) := ⟨_, hide rfl⟩
    rw [HQ.out] at hpl
    obtain ⟨hq0, hq1, hq2⟩ := hpl
    have HQ1 := hide hq1
    have HQ2 := hide hq2
    clear hq1 hq2
    have hNr := hN.ext (hx28)
    have hb0 := hNr.cell 0
    have hb1 := hNr.cell 1
    simp at hb0 hb1
    have hbl := hNr.lt
    obtain ⟨w9, HW9⟩ : ∃ w9, Hid (w8.alloc (.cells #[.int .i64 1, .int .i64 100] 70) = w9) := ⟨_, hide rfl⟩
    have hTs : SliceOf w9 2 Tier.cells (some ⟨w8.heap.size, 0, none⟩) 1 1 [⟨1, 100⟩] := by rw [← HW9.out]; exact new_one (f := Tier.cells) (fun _ => rfl) w8 70 ⟨1, 100⟩
    have hx9 : Ext w8 w9 := by rw [← HW9.out]; exact Ext.alloc _ _
    have hx29 := hx28.trans hx9
    have ha9 := hat.ext hx29
    go_wp2_with fail
    rw [HW9.out]
    refine (c_SettleHour A1 A2 n1 c1 n2 c2 ns ps A3 n3 c3 xs A4 n4 c4 L h _ _ _ R.1 0 0 9 _ _ _ [⟨1, 100⟩] _ ha9.s1 ha9.s2 ha9.s3 ha9.s4 (hG.ext hx9) hTs).mono ?_
    rw [HQ.out]
    rintro e w10 ⟨G0, G1, G2, G3, G4, g0, f0, g1, f1, g2, f2, g3, f3, g4, f4, X, z, rfl, hX, hx10, HPX⟩
    obtain ⟨rfl, rfl⟩ : X = Q.1 ∧ z = Q.2 := by have := HPX.out; exact ⟨congrArg Prod.fst this, congrArg Prod.snd this⟩
    rw [hq0]
    clear hq0
    clear hNr hb0 hb1 hbl
    have HG3 : Hid (g3 = 16) := hide (by rw [hX.o3.1, HQ1.out]; simp)
    have HG4 : Hid (g4 = 0) := hide (by rw [hX.o4.1, HQ2.out]; rfl)
    obtain rfl := HG3.out
    obtain rfl := HG4.out
    have hC3 := hX.at_.s3
    rw [HQ1.out] at hC3
    clear hX HG3 HG4
    have hx210 := hx29.trans hx10
    obtain ⟨w11, HW11⟩ : ∃ w11, Hid (w10.alloc (.cells #[.slice G0 g0 f0, .slice G1 g1 f1, .slice G2 g2 f2, .slice G3 16 f3, .slice G4 0 f4] 28) = w11) := ⟨_, hide rfl⟩
    have hSB : Row w11 w10.heap.size 28 [.slice G0 g0 f0, .slice G1 g1 f1, .slice G2 g2 f2, .slice G3 16 f3, .slice G4 0 f4] := by rw [← HW11.out]; exact Row.new w10 _ _
    have hx11 : Ext w10 w11 := by rw [← HW11.out]; exact Ext.alloc _ _
    have hx211 := hx210.trans hx11
    have hC3 := hC3.ext hx11
    have hPf := hPf.ext ((hx9.trans hx10).trans hx11)
    have ha11 := hat.ext hx211
    clear hx28 hx9 hx29 ha9 hx10 hx210 hx11 hG hTs
    go_wp2_with fail
    rw [HW11.out]
    go_loopw [17] (fun i wr => ∃ k : Nat, k ≤ 16 ∧ i = .int .i64 k ∧ Ext w11 wr) (fun i _ => 16 - (intOf i).toNat)
    case atStart => exact ⟨0, Nat.zero_le _, rfl, Ext.refl _⟩
    case round =>
      obtain ⟨k, hk, rfl, hx⟩ := hrel
      have hSr := hSB.ext (hx)
      have q3 := hSr.cell 3
      have q4 := hSr.cell 4
      simp at q3 q4
      have ql := hSr.lt
      by_cases hlt : k < 16
      · obtain ⟨b, off, y, rfl, hb, hyk, hyc⟩ := (hC3.ext hx).get1 hlt
        have hy0 : y = 0 := List.eq_of_mem_replicate (List.mem_of_getElem? hyk)
        subst hy0
        clear hyk
        go_wp2_with fail
        go_roundw
        case rel => exact ⟨k + 1, by omega, by go_num, hx⟩
        case measure => simp [intOf]; omega
      · have hNr := hN.ext (hx211.trans hx)
        have hb0 := hNr.cell 0
        have hb1 := hNr.cell 1
        simp at hb0 hb1
        have hbl := hNr.lt
        go_wp2_with fail
        refine (c_KeepsLimits A1 A2 n1 c1 n2 c2 ns ps _ _ _ _ F.1 n1 _ (ha11.ext hx).s1 (ha11.ext hx).s2 (hPf.ext hx) HK.out.net HFL.out).mono ?_
        rintro e w12 ⟨rfl, hx12⟩
        go_wp2_with fail
        go_ret
        exact Ret.bool rfl (X2.trans ((hx211.trans hx).trans hx12))
  · have hb : (R.2 != 0) = true := by rw [bne_iff_ne]; exact hz
    go_wp2_with fail
    go_ret
    exact Ret.bool rfl (X2.trans hx28)
set_option maxRecDepth 100000 in
theorem lifted_Planned (os : Os) (started : os.Started) (H : Type) (enc : TypeId × Value → H) :
    ReturnsInHanded {} Tryz.checked os 6 .any (Rows.fnPlannedSpec.pre6 enc Tryz.prog Tryz.f6 Rows.fnPlannedRow.domain false) (Rows.fnPlannedSpec.post enc Tryz.prog Tryz.f6 false true false false) := by
  refine returnsInHanded_of_change (C := Tryz.checked) own started (by kernel_rfl) Tryz.func6
    (ChangeSpec.witness6 (enc := enc) (C := Tryz.checked) false ⟨#[], #[.slice none 0 0], []⟩ 8 (by kernel_rfl) (by kernel_rfl) (by kernel_rfl) (by kernel_rfl)) ?_
  intro W base args ds gs before hval0 hW _ _
  have hval : ∀ (j : Nat) t v, Tryz.f6.params[j]? = some t → args[j]? = some v → Value.okWide Tryz.prog W .any base t v := hval0
  have hW' := hW
  obtain ⟨p, q, hA0, hV, rfl, hfz, hnd⟩ := hW
  have hA : DataW.TrodAll enc Tryz.prog W 0 (fun _ => true) true Tryz.f6.params.toList args.toList ds p := hA0
  rw [Tryz.params6] at hA hval
  obtain ⟨v0, vs0, d0, ds0, p0, q0, hargs, rfl, rfl, h0, r0⟩ := trodAll_cons hA
  obtain ⟨rfl, rfl, rfl⟩ := trodAll_nil r0
  obtain rfl : args = #[v0] := by cases args; simp_all
  obtain ⟨rfl, rfl⟩ := trodVars_none hV
  have k0 := h0
  have lt0 : ∀ x ∈ p0, x.block < W.heap.size := by obtain ⟨m, hm⟩ := k0; exact DataW.trod_lt m _ _ _ hm
  obtain ⟨A, n, c, bs, e0, hs, hbd⟩ := open_bytes (hval 0 22 v0 rfl rfl) h0
  rw [e0]
  clear hA0 hval0
  refine (law_Planned A n c bs W hs hbd).mono fun e W' ⟨he, bel⟩ => ?_
  subst he
  rw [e0] at hW'
  exact ⟨_, rfl, _, _, _, [], _, [], hW', trodAll_mk1 (shut_bool Tryz.underlying4 _), (trodAll_cons_mk (Below.trod laidOut (by kernel_rfl) (of_decide_eq_true (by kernel_rfl)) (e0 ▸ k0) bel lt0) trodAll_mk0), rfl, bel.frame _, fun h => by cases h⟩

theorem cf_Planned : Tryz.pinned.checked.prog.funcNamed Rows.fnPlannedRow.func = some 6 := by kernel_rfl
theorem cA_Planned : jA Tryz.pinned.checked.prog Tryz.f6 Rows.fnPlannedSpec Rows.fnPlannedRow = true := by kernel_rfl
theorem cB_Planned : jB Tryz.pinned.checked.prog 6 Rows.fnPlannedRow = true := by kernel_rfl
theorem cC_Planned : jC Tryz.pinned.checked.prog 6 Rows.fnPlannedRow = true := by kernel_rfl
theorem cD_Planned : jD Tryz.pinned.checked.prog Tryz.f6 Rows.fnPlannedSpec Rows.fnPlannedRow = true := by kernel_rfl
theorem cE_Planned : jE Tryz.pinned.checked.prog Rows.fnPlannedRow = true := by kernel_rfl
theorem cF_Planned : jF Tryz.pinned.checked.prog Tryz.f6 Rows.fnPlannedSpec Rows.fnPlannedRow = true := by kernel_rfl
theorem cI_Planned : decide (Tryz.f6.isInstance Tryz.pinned.checked.prog Rows.fnPlannedRow.origin Rows.fnPlannedRow.targs) = true := by kernel_rfl
theorem cW_Planned : Tryz.f6.isWrapper Tryz.pinned.checked.prog Rows.fnPlannedRow.wrapper Rows.fnPlannedRow.mainSum := by unfold Func.isWrapper; first | (rw [if_pos (by decide +kernel)]; kernel_rfl) | (rw [if_neg (by decide +kernel)]; exact ⟨rfl, rfl⟩)
theorem holds_Planned : Rows.FnPlannedSaid :=
  OpenClaim.holds_of_wide 6 Tryz.f6 rfl rfl rfl rfl rfl rfl rfl ⟨rfl, rfl, rfl, rfl, rfl⟩ rfl rfl rfl rfl rfl cf_Planned Tryz.func6
    (joined_of cA_Planned cB_Planned cC_Planned cD_Planned cE_Planned cF_Planned) (of_decide_eq_true cI_Planned) cW_Planned
    (fun os started H enc _ => lifted_Planned os started H enc)
#print axioms holds_Planned
end Go.Proofs.YtfkpghdmljjegaaGreat
