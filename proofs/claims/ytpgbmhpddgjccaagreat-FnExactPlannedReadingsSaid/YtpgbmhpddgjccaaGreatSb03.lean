/-
  FnExactPlannedReadings: for every input the law returns true and its arguments read as before. No condition.
-/
import Derived.Test.YtpgbmhpddgjccaaGreatSb02
import Derived.Test.YtpgbmhpddgjccaaGreatSa40
namespace Go.Proofs.YtpgbmhpddgjccaaGreat
open Go.RowKit Go.ChangeShapes Go.WideShapes Go.ChangeAt Go.Deep Go.Joins
set_option maxRecDepth 100000 in
theorem lifted_PlannedReadings (os : Os) (started : os.Started) (H : Type) (enc : TypeId × Value → H) :
    ReturnsInHanded {} Tryz.checked os 5 .any (Rows.fnExactPlannedReadingsSpec.pre6 enc Tryz.prog Tryz.f5 Rows.fnExactPlannedReadingsRow.domain false) (Rows.fnExactPlannedReadingsSpec.post enc Tryz.prog Tryz.f5 false true false false) := by
  refine returnsInHanded_of_change (C := Tryz.checked) own started (by kernel_rfl) Tryz.func5
    (ChangeSpec.witness6 (enc := enc) (C := Tryz.checked) false ⟨#[], #[.agg #[.slice none 0 0, .slice none 0 0], .slice none 0 0, .slice none 0 0, .int .i64 0], []⟩ 8 (by kernel_rfl) (by kernel_rfl) (by kernel_rfl) (by kernel_rfl)) ?_
  intro W base args ds gs before hval0 hW _ _
  have hval : ∀ (j : Nat) t v, Tryz.f5.params[j]? = some t → args[j]? = some v → Value.okWide Tryz.prog W .any base t v := hval0
  have hW' := hW
  obtain ⟨p, q, hA0, hV, rfl, hfz, hnd⟩ := hW
  have hA : DataW.TrodAll enc Tryz.prog W 0 (fun _ => true) true Tryz.f5.params.toList args.toList ds p := hA0
  rw [Tryz.params5] at hA hval
  obtain ⟨v0, vs0, d0, ds0, p0, q0, hargs, rfl, rfl, h0, r0⟩ := trodAll_cons hA
  obtain ⟨v1, vs1, d1, ds1, p1, q1, rfl, rfl, rfl, h1, r1⟩ := trodAll_cons r0
  obtain ⟨v2, vs2, d2, ds2, p2, q2, rfl, rfl, rfl, h2, r2⟩ := trodAll_cons r1
  obtain ⟨v3, vs3, d3, ds3, p3, q3, rfl, rfl, rfl, h3, r3⟩ := trodAll_cons r2
  obtain ⟨rfl, rfl, rfl⟩ := trodAll_nil r3
  obtain rfl : args = #[v0, v1, v2, v3] := by cases args; simp_all
  obtain ⟨rfl, rfl⟩ := trodVars_none hV
  have k0 := h0
  have k1 := h1
  have k2 := h2
  have lt0 : ∀ x ∈ p0, x.block < W.heap.size := by obtain ⟨m, hm⟩ := k0; exact DataW.trod_lt m _ _ _ hm
  have lt1 : ∀ x ∈ p1, x.block < W.heap.size := by obtain ⟨m, hm⟩ := k1; exact DataW.trod_lt m _ _ _ hm
  have lt2 : ∀ x ∈ p2, x.block < W.heap.size := by obtain ⟨m, hm⟩ := k2; exact DataW.trod_lt m _ _ _ hm
  obtain ⟨A1, A2, n1, c1, n2, c2, ns, ps, rfl, s1, s2, hnm⟩ := opened_net (hval 0 34 v0 rfl rfl) h0
  obtain ⟨A, n, c, xs, e1, s3⟩ := opened_book (hval 1 35 v1 rfl rfl) h1
  obtain ⟨B, m, d, L, e2, s4⟩ := opened_noms (hval 2 36 v2 rfl rfl) h2
  obtain ⟨a3, rfl, rfl, rfl, w3⟩ := open_int Tryz.underlying2 (hval 3 2 v3 rfl rfl) h3
  rw [e1, e2]
  clear hA0 hval0
  refine (law_PlannedReadings A1 A2 n1 c1 n2 c2 ns ps A n c xs B m d L a3 W s1 s2 s3 s4 hnm).mono fun e W' ⟨he, bel⟩ => ?_
  subst he
  rw [e1, e2] at hW'
  exact ⟨_, rfl, _, _, _, [], _, [], hW', trodAll_mk1 (shut_bool Tryz.underlying4 _), (trodAll_cons_mk (Below.trod laidOut (by kernel_rfl) (of_decide_eq_true (by kernel_rfl)) k0 bel lt0) (trodAll_cons_mk (Below.trod laidOut (by kernel_rfl) (of_decide_eq_true (by kernel_rfl)) (e1 ▸ k1) bel lt1) (trodAll_cons_mk (Below.trod laidOut (by kernel_rfl) (of_decide_eq_true (by kernel_rfl)) (e2 ▸ k2) bel lt2) (trodAll_cons_mk (shut_int Tryz.underlying2 w3) trodAll_mk0)))), rfl, bel.frame _, fun h => by cases h⟩

theorem cf_PlannedReadings : Tryz.pinned.checked.prog.funcNamed Rows.fnExactPlannedReadingsRow.func = some 5 := by kernel_rfl
theorem cA_PlannedReadings : jA Tryz.pinned.checked.prog Tryz.f5 Rows.fnExactPlannedReadingsSpec Rows.fnExactPlannedReadingsRow = true := by kernel_rfl
theorem cB_PlannedReadings : jB Tryz.pinned.checked.prog 5 Rows.fnExactPlannedReadingsRow = true := by kernel_rfl
theorem cC_PlannedReadings : jC Tryz.pinned.checked.prog 5 Rows.fnExactPlannedReadingsRow = true := by kernel_rfl
theorem cD_PlannedReadings : jD Tryz.pinned.checked.prog Tryz.f5 Rows.fnExactPlannedReadingsSpec Rows.fnExactPlannedReadingsRow = true := by kernel_rfl
theorem cE_PlannedReadings : jE Tryz.pinned.checked.prog Rows.fnExactPlannedReadingsRow = true := by kernel_rfl
theorem cF_PlannedReadings : jF Tryz.pinned.checked.prog Tryz.f5 Rows.fnExactPlannedReadingsSpec Rows.fnExactPlannedReadingsRow = true := by kernel_rfl
theorem cI_PlannedReadings : decide (Tryz.f5.isInstance Tryz.pinned.checked.prog Rows.fnExactPlannedReadingsRow.origin Rows.fnExactPlannedReadingsRow.targs) = true := by kernel_rfl
theorem cW_PlannedReadings : Tryz.f5.isWrapper Tryz.pinned.checked.prog Rows.fnExactPlannedReadingsRow.wrapper Rows.fnExactPlannedReadingsRow.mainSum := by unfold Func.isWrapper; first | (rw [if_pos (by decide +kernel)]; kernel_rfl) | (rw [if_neg (by decide +kernel)]; exact ⟨rfl, rfl⟩)
theorem holds_PlannedReadings : Rows.FnExactPlannedReadingsSaid :=
  OpenClaim.holds_of_wide 5 Tryz.f5 rfl rfl rfl rfl rfl rfl rfl ⟨rfl, rfl, rfl, rfl, rfl⟩ rfl rfl rfl rfl rfl cf_PlannedReadings Tryz.func5
    (joined_of cA_PlannedReadings cB_PlannedReadings cC_PlannedReadings cD_PlannedReadings cE_PlannedReadings cF_PlannedReadings) (of_decide_eq_true cI_PlannedReadings) cW_PlannedReadings
    (fun os started H enc _ => lifted_PlannedReadings os started H enc)
#print axioms holds_PlannedReadings
end Go.Proofs.YtpgbmhpddgjccaaGreat
