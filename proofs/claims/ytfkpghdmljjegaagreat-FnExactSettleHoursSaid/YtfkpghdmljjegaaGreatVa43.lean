/-
  FnExactSettleHours: for every input the law returns true and its arguments read as before. No condition.
-/
import Derived.Test.YtfkpghdmljjegaaGreatVa41
import Derived.Test.YtfkpghdmljjegaaGreatVa42
namespace Go.Proofs.YtfkpghdmljjegaaGreat
open Go.RowKit Go.ChangeShapes Go.WideShapes Go.ChangeAt Go.Deep Go.Joins
def tierOfS : List Int → Tier
  | [a, b] => ⟨a, b⟩
  | _ => ⟨0, 0⟩
set_option maxRecDepth 100000 in
theorem opened_terms {H : Type} {enc : TypeId × Value → H} {w : World} {base b0 : Nat} {spare : Nat → Bool} {held : Bool} {r : Reach} {v : Value} {d : DataW H} {p : List MemPlace}
    (hv : Value.okWide Tryz.prog w r b0 91 v) (h : DataW.Trod enc Tryz.prog w base spare held 91 v d p) :
    ∃ (band percent price : Int) (A : Option Addr) (n c : Nat) (ts : List Tier), v = .agg #[.int .i64 band, .int .i64 percent, .int .i64 price, .slice A n c] ∧ SliceOf w 2 Tier.cells A n c ts := by
  obtain ⟨v0, v1, v2, v3, y0, y1, y2, y3, m, rfl, _, _, h0, h1, h2, h3⟩ := open_agg4 Tryz.underlying91 (by kernel_rfl) (by kernel_rfl) hv h
  obtain ⟨band, e0, _, _⟩ := DataW.trod_int Tryz.underlying2 h0
  obtain ⟨percent, e1, _, _⟩ := DataW.trod_int Tryz.underlying2 h1
  obtain ⟨price, e2, _, _⟩ := DataW.trod_int Tryz.underlying2 h2
  obtain ⟨A, n, c, xss, rfl, hl, hs⟩ := open_flat Tryz.underlying89 Tryz.underlying252 (by kernel_rfl) (by kernel_rfl) (by kernel_rfl) (by decide) h3
  simp at e0 e1 e2
  subst e0 e1 e2
  refine ⟨band, percent, price, A, n, c, _, rfl, SliceOf.map hs tierOfS ?_⟩
  intro zs hzs
  match zs, hl zs hzs with
  | [a, b], _ => rfl

set_option maxRecDepth 100000 in
theorem lifted_SettleHours (os : Os) (started : os.Started) (H : Type) (enc : TypeId × Value → H) :
    ReturnsInHanded {} Tryz.checked os 9 .any (Rows.fnExactSettleHoursSpec.pre6 enc Tryz.prog Tryz.f9 Rows.fnExactSettleHoursRow.domain false) (Rows.fnExactSettleHoursSpec.post enc Tryz.prog Tryz.f9 false true false false) := by
  refine returnsInHanded_of_change (C := Tryz.checked) own started (by kernel_rfl) Tryz.func9
    (ChangeSpec.witness6 (enc := enc) (C := Tryz.checked) false ⟨#[], #[.agg #[.slice none 0 0, .slice none 0 0], .slice none 0 0, .slice none 0 0, .int .i64 0, .slice none 0 0, .agg #[.int .i64 0, .int .i64 0, .int .i64 0, .slice none 0 0]], []⟩ 8 (by kernel_rfl) (by kernel_rfl) (by kernel_rfl) (by kernel_rfl)) ?_
  intro W base args ds gs before hval0 hW _ _
  have hval : ∀ (j : Nat) t v, Tryz.f9.params[j]? = some t → args[j]? = some v → Value.okWide Tryz.prog W .any base t v := hval0
  have hW' := hW
  obtain ⟨p, q, hA0, hV, rfl, hfz, hnd⟩ := hW
  have hA : DataW.TrodAll enc Tryz.prog W 0 (fun _ => true) true Tryz.f9.params.toList args.toList ds p := hA0
  rw [Tryz.params9] at hA hval
  obtain ⟨v0, vs0, d0, ds0, p0, q0, hargs, rfl, rfl, h0, r0⟩ := trodAll_cons hA
  obtain ⟨v1, vs1, d1, ds1, p1, q1, rfl, rfl, rfl, h1, r1⟩ := trodAll_cons r0
  obtain ⟨v2, vs2, d2, ds2, p2, q2, rfl, rfl, rfl, h2, r2⟩ := trodAll_cons r1
  obtain ⟨v3, vs3, d3, ds3, p3, q3, rfl, rfl, rfl, h3, r3⟩ := trodAll_cons r2
  obtain ⟨v4, vs4, d4, ds4, p4, q4, rfl, rfl, rfl, h4, r4⟩ := trodAll_cons r3
  obtain ⟨v5, vs5, d5, ds5, p5, q5, rfl, rfl, rfl, h5, r5⟩ := trodAll_cons r4
  obtain ⟨rfl, rfl, rfl⟩ := trodAll_nil r5
  obtain rfl : args = #[v0, v1, v2, v3, v4, v5] := by cases args; simp_all
  obtain ⟨rfl, rfl⟩ := trodVars_none hV
  have k0 := h0
  have k1 := h1
  have k2 := h2
  have k4 := h4
  have k5 := h5
  have lt0 : ∀ x ∈ p0, x.block < W.heap.size := by obtain ⟨m, hm⟩ := k0; exact DataW.trod_lt m _ _ _ hm
  have lt1 : ∀ x ∈ p1, x.block < W.heap.size := by obtain ⟨m, hm⟩ := k1; exact DataW.trod_lt m _ _ _ hm
  have lt2 : ∀ x ∈ p2, x.block < W.heap.size := by obtain ⟨m, hm⟩ := k2; exact DataW.trod_lt m _ _ _ hm
  have lt4 : ∀ x ∈ p4, x.block < W.heap.size := by obtain ⟨m, hm⟩ := k4; exact DataW.trod_lt m _ _ _ hm
  have lt5 : ∀ x ∈ p5, x.block < W.heap.size := by obtain ⟨m, hm⟩ := k5; exact DataW.trod_lt m _ _ _ hm
  obtain ⟨A1, A2, n1, c1, n2, c2, ns, ps, rfl, s1, s2, hnm⟩ := opened_net (hval 0 34 v0 rfl rfl) h0
  obtain ⟨A, n, c, xs, e1, s3⟩ := opened_book (hval 1 35 v1 rfl rfl) h1
  obtain ⟨B, m, d, L, e2, s4⟩ := opened_noms (hval 2 36 v2 rfl rfl) h2
  obtain ⟨a3, rfl, rfl, rfl, w3⟩ := open_int Tryz.underlying2 (hval 3 2 v3 rfl rfl) h3
  obtain ⟨R, nr, cr, rd, e4, s5, s5'⟩ := opened_readss (hval 4 88 v4 rfl rfl) h4
  obtain ⟨band, percent, price, K, kn, kc, ts, e5, s6⟩ := opened_terms (hval 5 91 v5 rfl rfl) h5
  rw [e1, e2, e4, e5]
  clear hA0 hval0
  refine (law_SettleHours A1 A2 n1 c1 n2 c2 ns ps A n c xs B m d L a3 R nr cr rd band percent price K kn kc ts W s1 s2 s3 s4 s5 s5' s6 hnm).mono fun e W' ⟨he, bel⟩ => ?_
  subst he
  rw [e1, e2, e4, e5] at hW'
  exact ⟨_, rfl, _, _, _, [], _, [], hW', trodAll_mk1 (shut_bool Tryz.underlying4 _), (trodAll_cons_mk (Below.trod laidOut (by kernel_rfl) (of_decide_eq_true (by kernel_rfl)) k0 bel lt0) (trodAll_cons_mk (Below.trod laidOut (by kernel_rfl) (of_decide_eq_true (by kernel_rfl)) (e1 ▸ k1) bel lt1) (trodAll_cons_mk (Below.trod laidOut (by kernel_rfl) (of_decide_eq_true (by kernel_rfl)) (e2 ▸ k2) bel lt2) (trodAll_cons_mk (shut_int Tryz.underlying2 w3) (trodAll_cons_mk (Below.trod laidOut (by kernel_rfl) (of_decide_eq_true (by kernel_rfl)) (e4 ▸ k4) bel lt4) (trodAll_cons_mk (Below.trod laidOut (by kernel_rfl) (of_decide_eq_true (by kernel_rfl)) (e5 ▸ k5) bel lt5) trodAll_mk0)))))), rfl, bel.frame _, fun h => by cases h⟩

theorem cf_SettleHours : Tryz.pinned.checked.prog.funcNamed Rows.fnExactSettleHoursRow.func = some 9 := by kernel_rfl
theorem cA_SettleHours : jA Tryz.pinned.checked.prog Tryz.f9 Rows.fnExactSettleHoursSpec Rows.fnExactSettleHoursRow = true := by kernel_rfl
theorem cB_SettleHours : jB Tryz.pinned.checked.prog 9 Rows.fnExactSettleHoursRow = true := by kernel_rfl
theorem cC_SettleHours : jC Tryz.pinned.checked.prog 9 Rows.fnExactSettleHoursRow = true := by kernel_rfl
theorem cD_SettleHours : jD Tryz.pinned.checked.prog Tryz.f9 Rows.fnExactSettleHoursSpec Rows.fnExactSettleHoursRow = true := by kernel_rfl
theorem cE_SettleHours : jE Tryz.pinned.checked.prog Rows.fnExactSettleHoursRow = true := by kernel_rfl
theorem cF_SettleHours : jF Tryz.pinned.checked.prog Tryz.f9 Rows.fnExactSettleHoursSpec Rows.fnExactSettleHoursRow = true := by kernel_rfl
theorem cI_SettleHours : decide (Tryz.f9.isInstance Tryz.pinned.checked.prog Rows.fnExactSettleHoursRow.origin Rows.fnExactSettleHoursRow.targs) = true := by kernel_rfl
theorem cW_SettleHours : Tryz.f9.isWrapper Tryz.pinned.checked.prog Rows.fnExactSettleHoursRow.wrapper Rows.fnExactSettleHoursRow.mainSum := by unfold Func.isWrapper; first | (rw [if_pos (by decide +kernel)]; kernel_rfl) | (rw [if_neg (by decide +kernel)]; exact ⟨rfl, rfl⟩)
theorem holds_SettleHours : Rows.FnExactSettleHoursSaid :=
  OpenClaim.holds_of_wide 9 Tryz.f9 rfl rfl rfl rfl rfl rfl rfl ⟨rfl, rfl, rfl, rfl, rfl⟩ rfl rfl rfl rfl rfl cf_SettleHours Tryz.func9
    (joined_of cA_SettleHours cB_SettleHours cC_SettleHours cD_SettleHours cE_SettleHours cF_SettleHours) (of_decide_eq_true cI_SettleHours) cW_SettleHours
    (fun os started H enc _ => lifted_SettleHours os started H enc)
#print axioms holds_SettleHours
end Go.Proofs.YtfkpghdmljjegaaGreat
