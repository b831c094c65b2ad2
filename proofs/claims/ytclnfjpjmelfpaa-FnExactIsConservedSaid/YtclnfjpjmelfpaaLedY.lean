


/-
  FnExactIsConserved: for every input the law returns true and its argument reads as before.
-/
import Derived.Test.YtclnfjpjmelfpaaLedX
namespace Go.Proofs.Ytclnfjpjmelfpaa
open Go.RowKit Go.ChangeShapes Go.WideShapes Go.ChangeAt Go.Deep Go.Joins

set_option maxHeartbeats 2000000 in
theorem law_IsConserved (A0 A1 A2 A3 A4 : Option Addr) (n0 c0 n1 c1 n2 c2 n3 c3 n4 c4 : Nat) (sc : List Int) (os : List Order) (got chg : List Int) (ps : List Posting) (w : World) (h0 : SliceOf w 1 intC A0 n0 c0 sc) (h1 : SliceOf w 4 Order.cells A1 n1 c1 os) (h2 : SliceOf w 1 intC A2 n2 c2 got) (h3 : SliceOf w 1 intC A3 n3 c3 chg) (h4 : SliceOf w 4 Posting.cells A4 n4 c4 ps) :
    Calls Try.prog 14 #[.agg #[.slice A0 n0 c0, .slice A1 n1 c1, .slice A2 n2 c2, .slice A3 n3 c3, .slice A4 n4 c4]] w (Ret (.bool true) w) := by
  go_enter Try.func14, Try.ntmps14
  go_wp2_with fail
  refine (c_szSettlement A0 A1 A2 A3 A4 n0 c0 n1 c1 n2 c2 n3 c3 n4 c4 sc os got chg ps _ (h0.ext (Ext.alloc _ _)) (h1.ext (Ext.alloc _ _)) (h2.ext (Ext.alloc _ _)) (h3.ext (Ext.alloc _ _)) (h4.ext (Ext.alloc _ _))).mono ?_
  rintro e w1 ⟨rfl, hx1⟩
  by_cases hn : (1048576 : Int) < (n0 : Int) + n1 + n2 + n3 + n4
  · rw [szTot, if_pos hn]
    go_wp2_with fail
    go_ret
    exact Ret.bool rfl hx1.box
  rw [szTot, if_neg hn]
  have hn' : n0 ≤ 1048576 ∧ n1 ≤ 1048576 ∧ n2 ≤ 1048576 ∧ n3 ≤ 1048576 ∧ n4 ≤ 1048576 := by omega
  have e0 := h0.len
  have e1 := h1.len
  have e2 := h2.len
  have e3 := h3.len
  have e4 := h4.len
  have l0 : sc.length ≤ 1048576 := by omega
  have l1 : os.length ≤ 1048576 := by omega
  have l2 : got.length ≤ 1048576 := by omega
  have l3 : chg.length ≤ 1048576 := by omega
  have l4 : ps.length ≤ 1048576 := by omega
  clear e0 e1 e2 e3 e4
  have hcl1 := hx1.cell
  have xb1 := hx1.box
  go_wp2_with fail
  refine (c_toSettlement A0 A1 A2 A3 A4 n0 c0 n1 c1 n2 c2 n3 c3 n4 c4 sc os got chg ps _ (h0.ext xb1) (h1.ext xb1) (h2.ext xb1) (h3.ext xb1) (h4.ext xb1) hn').mono ?_
  rintro e w2 ⟨g20, g21, g22, g23, g24, rfl, r20, r21, r22, r23, r24, hx2⟩
  go_wp2_with fail
  refine (c_specIsConserved _ _ _ _ _ _ _ _ _ _ _ _ _ _ _ got chg ps _ (r22.slice intC_len rfl (by omega)) (r23.slice intC_len rfl (by omega)) (r24.slice post_len rfl (by omega)) l2 l3).mono ?_
  rintro e w3 ⟨rfl, hx3⟩
  have hx13 := hx1.trans (hx2.trans hx3)
  have hcl3 := hx13.cell
  have xb3 := hx13.box
  clear hcl1
  go_wp2_with fail
  refine (c_toSettlement A0 A1 A2 A3 A4 n0 c0 n1 c1 n2 c2 n3 c3 n4 c4 sc os got chg ps _ (h0.ext xb3) (h1.ext xb3) (h2.ext xb3) (h3.ext xb3) (h4.ext xb3) hn').mono ?_
  rintro e w4 ⟨g40, g41, g42, g43, g44, rfl, r40, r41, r42, r43, r44, hx4⟩
  clear hcl3
  go_wp2_with fail
  have y40 := r40.ext (Ext.alloc w4 (.cells #[.slice (some ⟨g40, 0, none⟩) sc.length sc.length, .slice (some ⟨g41, 0, none⟩) os.length os.length, .slice (some ⟨g42, 0, none⟩) got.length got.length, .slice (some ⟨g43, 0, none⟩) chg.length chg.length, .slice (some ⟨g44, 0, none⟩) ps.length ps.length] 61))
  refine (c_IsConserved _ _ _ _ _ _ _ _ _ _ _ _ _ _ _ got chg ps _ ((r42.ext (Ext.alloc _ _)).slice intC_len rfl (by omega)) ((r43.ext (Ext.alloc _ _)).slice intC_len rfl (by omega)) ((r44.ext (Ext.alloc _ _)).slice post_len rfl (by omega)) l2 l3).mono ?_
  rintro e w5 ⟨rfl, hx5⟩
  have hx15 := hx13.trans (hx4.trans hx5.box)
  have hcl5 := hx5.cell
  have hz5 := hx5.size
  have hz4 := (hx13.trans hx4).size
  simp at hz5 hz4
  have hz5' : w4.heap.size < w5.heap.size := by omega
  have hz0 : w.heap.size < w5.heap.size := by omega
  have hb0 : ∀ j, w5.cell? ⟨w.heap.size, j, none⟩ = (w.alloc (.cells #[.slice A0 n0 c0, .slice A1 n1 c1, .slice A2 n2 c2, .slice A3 n3 c3, .slice A4 n4 c4] 56)).cell? ⟨w.heap.size, j, none⟩ := fun j => hx15.cell _ _ (by simp)
  go_wp2_with fail
  refine wp_region_ph [([0, 1], 2), ([], 3)] [4] (by kernel_rfl) (by kernel_rfl) (by intro c a w d v h; cases d <;> exact h) ?_
  simp only [wpPh, pickL, nthO]
  repeat (go_big_quiet_step (fail))
  refine wpQuiet_nil ?_
  have xb5 := hx15.box.drew
  go_wp2_with fail
  refine (c_toSettlement A0 A1 A2 A3 A4 n0 c0 n1 c1 n2 c2 n3 c3 n4 c4 sc os got chg ps _ (h0.ext xb5) (h1.ext xb5) (h2.ext xb5) (h3.ext xb5) (h4.ext xb5) hn').mono ?_
  rintro e w6 ⟨g60, g61, g62, g63, g64, rfl, r60, r61, r62, r63, r64, hx6⟩
  have x46 : Ext w4 w6 := hx5.box.drew.trans hx6
  go_wp2_with fail
  refine ⟨hx6, wpQuiet_nil ?_⟩
  go_wp2_with fail
  refine (c_eqSettlement _ _ _ _ _ _ _ _ _ _ _ _ _ _ _ sc os got chg ps _ _ _ _ _ _ _ _ _ _ _ _ _ _ _ _ ((r40.ext x46).slice intC_len rfl (by omega)) ((r41.ext x46).slice order_len rfl (by omega)) ((r42.ext x46).slice intC_len rfl (by omega)) ((r43.ext x46).slice intC_len rfl (by omega)) ((r44.ext x46).slice post_len rfl (by omega)) (r60.slice intC_len rfl (by omega)) (r61.slice order_len rfl (by omega)) (r62.slice intC_len rfl (by omega)) (r63.slice intC_len rfl (by omega)) (r64.slice post_len rfl (by omega))).mono ?_
  rintro e w7 ⟨rfl, hx7⟩
  go_wp2_with fail
  refine ⟨hx7, ?_⟩
  repeat (go_big_quiet_step (fail))
  refine wpQuiet_nil ?_
  go_wp2_with fail
  go_ret
  exact Ret.bool rfl ((hx15.drew.trans hx6).trans hx7).box

def orderOf : List Int → Order
  | [a, b, c, d] => ⟨a, b, c, d⟩
  | _ => ⟨0, 0, 0, 0⟩
set_option maxRecDepth 100000 in
theorem lifted_IsConserved (os : Os) (started : os.Started) (H : Type) (enc : TypeId × Value → H) :
    ReturnsInHanded {} Try.checked os 14 .any (Rows.fnExactIsConservedSpec.pre6 enc Try.prog Try.f14 Rows.fnExactIsConservedRow.domain false) (Rows.fnExactIsConservedSpec.post enc Try.prog Try.f14 false true false false) := by
  refine returnsInHanded_of_change (C := Try.checked) own started (by kernel_rfl) Try.func14
    (ChangeSpec.witness6 (enc := enc) (C := Try.checked) false ⟨#[], #[.agg #[.slice none 0 0, .slice none 0 0, .slice none 0 0, .slice none 0 0, .slice none 0 0]], []⟩ 8 (by kernel_rfl) (by kernel_rfl) (by kernel_rfl) (by kernel_rfl)) ?_
  intro W base args ds gs before hval0 hW _ _
  have hval : ∀ (j : Nat) t v, Try.f14.params[j]? = some t → args[j]? = some v → Value.okWide Try.prog W .any base t v := hval0
  have hW' := hW
  obtain ⟨p, q, hA0, hV, rfl, hfz, hnd⟩ := hW
  have hA : DataW.TrodAll enc Try.prog W 0 (fun _ => true) true Try.f14.params.toList args.toList ds p := hA0
  rw [Try.params14] at hA hval
  obtain ⟨v0, vs0, d0, ds0, p0, q0, hargs, rfl, rfl, h0, r0⟩ := trodAll_cons hA
  obtain ⟨rfl, rfl, rfl⟩ := trodAll_nil r0
  obtain rfl : args = #[v0] := by cases args; simp_all
  obtain ⟨rfl, rfl⟩ := trodVars_none hV
  have k0 := h0
  have lt0 : ∀ x ∈ p0, x.block < W.heap.size := by obtain ⟨m, hm⟩ := k0; exact DataW.trod_lt m _ _ _ hm
  obtain ⟨v0, v1, v2, v3, v4, y0, y1, y2, y3, y4, m, rfl, _, _, t0, t1, t2, t3, t4⟩ := open_agg5 Try.underlying56 (by kernel_rfl) (by kernel_rfl) (hval 0 56 v0 rfl rfl) h0
  obtain ⟨A0, n0, c0, sc, rfl, _, s0⟩ := open_nums Try.underlying39 Try.underlying2 (by kernel_rfl) t0
  obtain ⟨A1, n1, c1, xs1, rfl, hl1, s1⟩ := open_flat Try.underlying54 Try.underlying93 (by kernel_rfl) (by kernel_rfl) (by kernel_rfl) (by decide) t1
  obtain ⟨A2, n2, c2, got, rfl, _, s2⟩ := open_nums Try.underlying39 Try.underlying2 (by kernel_rfl) t2
  obtain ⟨A3, n3, c3, chg, rfl, _, s3⟩ := open_nums Try.underlying39 Try.underlying2 (by kernel_rfl) t3
  obtain ⟨A4, n4, c4, xs4, rfl, hl4, s4⟩ := open_flat Try.underlying28 Try.underlying23 (by kernel_rfl) (by kernel_rfl) (by kernel_rfl) (by decide) t4
  have s1' : SliceOf W 4 Order.cells A1 n1 c1 (xs1.map orderOf) := SliceOf.map s1 orderOf (by
    intro zs hzs
    match zs, hl1 zs hzs with
    | [a, b, c, d], _ => rfl)
  have s4' : SliceOf W 4 Posting.cells A4 n4 c4 (xs4.map postOf) := SliceOf.map s4 postOf (by
    intro zs hzs
    match zs, hl4 zs hzs with
    | [a, b, c, d], _ => rfl)
  clear hA0 hval0
  refine (law_IsConserved A0 A1 A2 A3 A4 n0 c0 n1 c1 n2 c2 n3 c3 n4 c4 sc _ got chg _ W s0 s1' s2 s3 s4').mono fun e W' ⟨he, bel⟩ => ?_
  subst he
  exact ⟨_, rfl, _, _, _, [], _, [], hW', trodAll_mk1 (shut_bool Try.underlying4 _), (trodAll_cons_mk (Below.trod laidOut (by kernel_rfl) (of_decide_eq_true (by kernel_rfl)) k0 bel lt0) trodAll_mk0), rfl, bel.frame _, fun h => by cases h⟩

theorem holds_IsConserved : Rows.FnExactIsConservedSaid :=
  OpenClaim.holds_of_wide 14 Try.f14 rfl rfl rfl rfl rfl rfl rfl ⟨rfl, rfl, rfl, rfl, rfl⟩ rfl rfl rfl rfl rfl (by kernel_rfl) Try.func14 (by kernel_rfl)
    (of_decide_eq_true (by kernel_rfl)) (by unfold Func.isWrapper; first | (rw [if_pos (by decide +kernel)]; kernel_rfl) | (rw [if_neg (by decide +kernel)]; exact ⟨rfl, rfl⟩))
    (fun os started H enc _ => lifted_IsConserved os started H enc)
#print axioms holds_IsConserved
end Go.Proofs.Ytclnfjpjmelfpaa
