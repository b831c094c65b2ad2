


/-
  FnExactIsPosting and FnExactIsSettled: for every input the laws return true and their arguments read as before.
-/
import Derived.Test.YtclnfjpjmelfpaaLedE
import Derived.Test.YtclnfjpjmelfpaaOpen
namespace Go.Proofs.Ytclnfjpjmelfpaa
open Go.RowKit Go.ChangeShapes Go.WideShapes Go.ChangeAt Go.Deep Go.Joins

theorem own : ownKnob Try.prog.godebug = none := by kernel_rfl
theorem laidOut : laidOutB Try.prog = true := by kernel_rfl

def postOf : List Int → Posting
  | [a, b, c, d] => ⟨a, b, c, d⟩
  | _ => ⟨0, 0, 0, 0⟩
theorem open_postings {H : Type} {enc : TypeId × Value → H} {w : World} {base b0 : Nat} {spare : Nat → Bool} {held : Bool} {r : Reach} {v : Value} {d : DataW H} {p : List MemPlace}
    (hv : Value.okWide Try.prog w r b0 28 v) (h : DataW.Trod enc Try.prog w base spare held 28 v d p) :
    ∃ (A : Option Addr) (n c : Nat) (ps : List Posting), v = .slice A n c ∧ SliceOf w 4 Posting.cells A n c ps := by
  obtain ⟨a0, len, cap, rfl⟩ := okWide_slice Try.underlying28 hv
  obtain ⟨fuel, hf⟩ := h
  obtain ⟨A, n, c, xss, e, hl, hs⟩ := open_flat Try.underlying28 Try.underlying23 (by kernel_rfl) (by kernel_rfl) (by kernel_rfl) (by decide) hf
  refine ⟨A, n, c, _, e, SliceOf.map hs postOf ?_⟩
  intro zs hzs
  match zs, hl zs hzs with
  | [a, b, c, d], _ => rfl

theorem law_IsPosting (p : Posting) (w : World) :
    Calls Try.prog 3 #[.agg #[.int .i64 p.debit, .int .i64 p.credit, .int .i64 p.gas, .int .i64 p.money]] w (Ret (.bool true) w) := by
  go_enter Try.func3, Try.ntmps3
  go_wp2_with fail
  refine (c_toPosting p _).mono ?_
  rintro e w1 ⟨rfl, hx1⟩
  go_wp2_with fail
  refine (c_specIsPosting p _).mono ?_
  rintro e w2 ⟨rfl, hx2⟩
  have hx12 := hx1.trans hx2
  have hcl2 := hx12.cell
  go_wp2_with fail
  refine (c_toPosting p _).mono ?_
  rintro e w3 ⟨rfl, hx3⟩
  go_wp2_with fail
  refine (c_IsPosting p _).mono ?_
  rintro e w4 ⟨rfl, hx4⟩
  go_wp2_with fail
  go_ret
  exact Ret.bool rfl ((hx12.trans hx3).trans hx4).box

set_option maxRecDepth 100000 in
theorem lifted_IsPosting (os : Os) (started : os.Started) (H : Type) (enc : TypeId × Value → H) :
    ReturnsInHanded {} Try.checked os 3 .any (Rows.fnExactIsPostingSpec.pre6 enc Try.prog Try.f3 Rows.fnExactIsPostingRow.domain false) (Rows.fnExactIsPostingSpec.post enc Try.prog Try.f3 false true false false) := by
  refine returnsInHanded_of_change (C := Try.checked) own started (by kernel_rfl) Try.func3
    (ChangeSpec.witness6 (enc := enc) (C := Try.checked) false ⟨#[], #[.agg #[.int .i64 0, .int .i64 0, .int .i64 0, .int .i64 0]], []⟩ 8 (by kernel_rfl) (by kernel_rfl) (by kernel_rfl) (by kernel_rfl)) ?_
  intro W base args ds gs before hval0 hW _ _
  have hval : ∀ (j : Nat) t v, Try.f3.params[j]? = some t → args[j]? = some v → Value.okWide Try.prog W .any base t v := hval0
  have hW' := hW
  obtain ⟨p, q, hA0, hV, rfl, hfz, hnd⟩ := hW
  have hA : DataW.TrodAll enc Try.prog W 0 (fun _ => true) true Try.f3.params.toList args.toList ds p := hA0
  rw [Try.params3] at hA hval
  obtain ⟨v0, vs0, d0, ds0, p0, q0, hargs, rfl, rfl, h0, r0⟩ := trodAll_cons hA
  obtain ⟨rfl, rfl, rfl⟩ := trodAll_nil r0
  obtain rfl : args = #[v0] := by cases args; simp_all
  obtain ⟨rfl, rfl⟩ := trodVars_none hV
  have k0 := h0
  have lt0 : ∀ x ∈ p0, x.block < W.heap.size := by obtain ⟨m, hm⟩ := k0; exact DataW.trod_lt m _ _ _ hm
  obtain ⟨v0, v1, v2, v3, y0, y1, y2, y3, m, rfl, _, _, h0, h1, h2, h3⟩ := open_agg4 Try.underlying23 (by kernel_rfl) (by kernel_rfl) (hval 0 23 v0 rfl rfl) h0
  obtain ⟨z0, e0, _, _⟩ := DataW.trod_int Try.underlying2 h0
  obtain ⟨z1, e1, _, _⟩ := DataW.trod_int Try.underlying2 h1
  obtain ⟨z2, e2, _, _⟩ := DataW.trod_int Try.underlying2 h2
  obtain ⟨z3, e3, _, _⟩ := DataW.trod_int Try.underlying2 h3
  simp at e0 e1 e2 e3
  subst e0 e1 e2 e3
  clear hA0 hval0
  refine (law_IsPosting ⟨z0, z1, z2, z3⟩ W).mono fun e W' ⟨he, bel⟩ => ?_
  subst he
  exact ⟨_, rfl, _, _, _, [], _, [], hW', trodAll_mk1 (shut_bool Try.underlying4 _), (trodAll_cons_mk (Below.trod laidOut (by kernel_rfl) (of_decide_eq_true (by kernel_rfl)) k0 bel lt0) trodAll_mk0), rfl, bel.frame _, fun h => by cases h⟩

theorem holds_IsPosting : Rows.FnExactIsPostingSaid :=
  OpenClaim.holds_of_wide 3 Try.f3 rfl rfl rfl rfl rfl rfl rfl ⟨rfl, rfl, rfl, rfl, rfl⟩ rfl rfl rfl rfl rfl (by kernel_rfl) Try.func3 (by kernel_rfl)
    (of_decide_eq_true (by kernel_rfl)) (by unfold Func.isWrapper; first | (rw [if_pos (by decide +kernel)]; kernel_rfl) | (rw [if_neg (by decide +kernel)]; exact ⟨rfl, rfl⟩))
    (fun os started H enc _ => lifted_IsPosting os started H enc)
#print axioms holds_IsPosting

set_option maxHeartbeats 1000000 in
theorem law_IsSettled (A : Option Addr) (n c : Nat) (ps : List Posting) (w : World) (hs : SliceOf w 4 Posting.cells A n c ps) :
    Calls Try.prog 4 #[.slice A n c] w (Ret (.bool true) w) := by
  have hcap := hs.cap
  have hmax := hs.max
  have HLn := hide hs.len
  go_enter Try.func4, Try.ntmps4
  go_wp2_with fail
  refine (c_szPostingS A n c 1048576 _ hcap hmax (by omega) (by omega)).mono ?_
  rintro e w' ⟨rfl, rfl⟩
  by_cases hn : (1048576 : Int) < n
  · rw [if_pos hn]
    go_wp2_with fail
    go_ret
    exact Ret.bool rfl (Ext.refl _)
  rw [if_neg hn]
  have hn' : n ≤ 1048576 := by omega
  have hpl : ps.length ≤ 1048576 := by rw [← HLn.out]; exact hn'
  go_wp2_with fail
  refine (c_toPostingS A n c ps _ hs hn').mono ?_
  rintro e w1 ⟨g1, rfl, hg1, hr1, hx1⟩
  go_wp2_with fail
  refine (c_specIsSettled _ _ _ ps _ (hr1.slice post_len rfl (by omega))).mono ?_
  rintro e w2 ⟨rfl, hx2⟩
  go_wp2_with fail
  refine (c_toPostingS A n c ps _ (hs.ext (hx1.trans hx2)) hn').mono ?_
  rintro e w3 ⟨g3, rfl, hg3, hr3, hx3⟩
  go_wp2_with fail
  refine (c_IsSettled _ _ _ ps _ (hr3.slice post_len rfl (by omega))).mono ?_
  rintro e w4 ⟨rfl, hx4⟩
  have hx04 := ((hx1.trans hx2).trans hx3).trans hx4
  go_wp2_with fail
  refine (c_toPostingS A n c ps _ (hs.ext hx04) hn').mono ?_
  rintro e w5 ⟨g5, rfl, hg5, hr5, hx5⟩
  go_wp2_with fail
  refine (c_eqPostingS _ _ _ _ _ _ ps _ ((hr3.ext (hx4.trans hx5)).slice post_len rfl (by omega)) (hr5.slice post_len rfl (by omega))).mono ?_
  rintro e w6 ⟨rfl, hx6⟩
  go_wp2_with fail
  go_ret
  exact Ret.bool rfl ((hx04.trans hx5).trans hx6)

set_option maxRecDepth 100000 in
theorem lifted_IsSettled (os : Os) (started : os.Started) (H : Type) (enc : TypeId × Value → H) :
    ReturnsInHanded {} Try.checked os 4 .any (Rows.fnExactIsSettledSpec.pre6 enc Try.prog Try.f4 Rows.fnExactIsSettledRow.domain false) (Rows.fnExactIsSettledSpec.post enc Try.prog Try.f4 false true false false) := by
  refine returnsInHanded_of_change (C := Try.checked) own started (by kernel_rfl) Try.func4
    (ChangeSpec.witness6 (enc := enc) (C := Try.checked) false ⟨#[], #[.slice none 0 0], []⟩ 8 (by kernel_rfl) (by kernel_rfl) (by kernel_rfl) (by kernel_rfl)) ?_
  intro W base args ds gs before hval0 hW _ _
  have hval : ∀ (j : Nat) t v, Try.f4.params[j]? = some t → args[j]? = some v → Value.okWide Try.prog W .any base t v := hval0
  have hW' := hW
  obtain ⟨p, q, hA0, hV, rfl, hfz, hnd⟩ := hW
  have hA : DataW.TrodAll enc Try.prog W 0 (fun _ => true) true Try.f4.params.toList args.toList ds p := hA0
  rw [Try.params4] at hA hval
  obtain ⟨v0, vs0, d0, ds0, p0, q0, hargs, rfl, rfl, h0, r0⟩ := trodAll_cons hA
  obtain ⟨rfl, rfl, rfl⟩ := trodAll_nil r0
  obtain rfl : args = #[v0] := by cases args; simp_all
  obtain ⟨rfl, rfl⟩ := trodVars_none hV
  have k0 := h0
  have lt0 : ∀ x ∈ p0, x.block < W.heap.size := by obtain ⟨m, hm⟩ := k0; exact DataW.trod_lt m _ _ _ hm
  obtain ⟨A, n, c, ps, e0, hs⟩ := open_postings (hval 0 28 v0 rfl rfl) h0
  rw [e0]
  clear hA0 hval0
  refine (law_IsSettled A n c ps W hs).mono fun e W' ⟨he, bel⟩ => ?_
  subst he
  rw [e0] at hW'
  exact ⟨_, rfl, _, _, _, [], _, [], hW', trodAll_mk1 (shut_bool Try.underlying4 _), (trodAll_cons_mk (Below.trod laidOut (by kernel_rfl) (of_decide_eq_true (by kernel_rfl)) (e0 ▸ k0) bel lt0) trodAll_mk0), rfl, bel.frame _, fun h => by cases h⟩

theorem holds_IsSettled : Rows.FnExactIsSettledSaid :=
  OpenClaim.holds_of_wide 4 Try.f4 rfl rfl rfl rfl rfl rfl rfl ⟨rfl, rfl, rfl, rfl, rfl⟩ rfl rfl rfl rfl rfl (by kernel_rfl) Try.func4 (by kernel_rfl)
    (of_decide_eq_true (by kernel_rfl)) (by unfold Func.isWrapper; first | (rw [if_pos (by decide +kernel)]; kernel_rfl) | (rw [if_neg (by decide +kernel)]; exact ⟨rfl, rfl⟩))
    (fun os started H enc _ => lifted_IsSettled os started H enc)
#print axioms holds_IsSettled
end Go.Proofs.Ytclnfjpjmelfpaa
