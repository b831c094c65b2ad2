
/-
  FnExactIsTerms: for every input the law returns true and its argument reads as before.
-/
import Derived.Test.YtbkmnoedhilopaaTermsF
import Derived.Test.YtbkmnoedhilopaaOpen
namespace Go.Proofs.Ytbkmnoedhilopaa
open Go.RowKit Go.ChangeShapes Go.WideShapes Go.ChangeAt Go.Deep Go.Joins

theorem own : ownKnob Try.prog.godebug = none := by kernel_rfl
theorem laidOut : laidOutB Try.prog = true := by kernel_rfl

def tierOf : List Int → Tier
  | [a, b] => ⟨a, b⟩
  | _ => ⟨0, 0⟩
theorem open_terms {H : Type} {enc : TypeId × Value → H} {w : World} {base b0 : Nat} {spare : Nat → Bool} {held : Bool} {r : Reach} {v : Value} {d : DataW H} {p : List MemPlace}
    (hv : Value.okWide Try.prog w r b0 24 v) (h : DataW.Trod enc Try.prog w base spare held 24 v d p) :
    ∃ (band percent price : Int) (A : Option Addr) (n c : Nat) (ts : List Tier), v = .agg #[.int .i64 band, .int .i64 percent, .int .i64 price, .slice A n c] ∧ SliceOf w 2 Tier.cells A n c ts := by
  obtain ⟨v0, v1, v2, v3, y0, y1, y2, y3, m, rfl, _, _, h0, h1, h2, h3⟩ := open_agg4 Try.underlying24 (by kernel_rfl) (by kernel_rfl) hv h
  obtain ⟨band, e0, _, _⟩ := DataW.trod_int Try.underlying2 h0
  obtain ⟨percent, e1, _, _⟩ := DataW.trod_int Try.underlying2 h1
  obtain ⟨price, e2, _, _⟩ := DataW.trod_int Try.underlying2 h2
  obtain ⟨A, n, c, xss, rfl, hl, hs⟩ := open_flat Try.underlying22 Try.underlying69 (by kernel_rfl) (by kernel_rfl) (by kernel_rfl) (by decide) h3
  simp at e0 e1 e2
  subst e0 e1 e2
  refine ⟨band, percent, price, A, n, c, _, rfl, SliceOf.map hs tierOf ?_⟩
  intro zs hzs
  match zs, hl zs hzs with
  | [a, b], _ => rfl

set_option maxRecDepth 100000 in
theorem lifted_isTerms (os : Os) (started : os.Started) (H : Type) (enc : TypeId × Value → H) :
    ReturnsInHanded {} Try.checked os 3 .any (Rows.fnExactIsTermsSpec.pre6 enc Try.prog Try.f3 Rows.fnExactIsTermsRow.domain false) (Rows.fnExactIsTermsSpec.post enc Try.prog Try.f3 false true false false) := by
  refine returnsInHanded_of_change (C := Try.checked) own started (by kernel_rfl) Try.func3
    (ChangeSpec.witness6 (enc := enc) (C := Try.checked) false ⟨#[], #[.agg #[.int .i64 0, .int .i64 0, .int .i64 0, .slice none 0 0]], []⟩ 8 (by kernel_rfl) (by kernel_rfl) (by kernel_rfl) (by kernel_rfl)) ?_
  intro W base args ds gs before hval0 hW _ _
  have hval : ∀ (j : Nat) t v, Try.f3.params[j]? = some t → args[j]? = some v → Value.okWide Try.prog W .any base t v := hval0
  have hW' := hW
  obtain ⟨p, q, hA0, hV, rfl, hfz, hnd⟩ := hW
  have hA : DataW.TrodAll enc Try.prog W 0 (fun _ => true) true Try.f3.params.toList args.toList ds p := hA0
  rw [Try.params3] at hA hval
  obtain ⟨v0, vs0, d0, ds0, p0, q0, hargs, rfl, rfl, h0, r0⟩ := trodAll_cons hA
  obtain ⟨rfl, rfl, rfl⟩ := trodAll_nil r0
  obtain rfl : args = #[v0] := by cases args; simp_all
  obtain ⟨rfl, rfl⟩ := trodVars_none hV
  have k0 := h0
  have lt0 : ∀ x ∈ p0, x.block < W.heap.size := by obtain ⟨m, hm⟩ := k0; exact DataW.trod_lt m _ _ _ hm
  obtain ⟨band, percent, price, A, n, c, ts, rfl, hs⟩ := open_terms (hval 0 24 v0 rfl rfl) h0
  clear hA0 hval0
  refine (law_isTerms band percent price A n c ts W hs).mono fun e W' ⟨he, bel⟩ => ?_
  subst he
  exact ⟨_, rfl, _, _, _, [], _, [], hW', trodAll_mk1 (shut_bool Try.underlying4 _), (trodAll_cons_mk (Below.trod laidOut (by kernel_rfl) (of_decide_eq_true (by kernel_rfl)) k0 bel lt0) trodAll_mk0), rfl, bel.frame _, fun h => by cases h⟩

theorem holds_isTerms : Rows.FnExactIsTermsSaid :=
  OpenClaim.holds_of_wide 3 Try.f3 rfl rfl rfl rfl rfl rfl rfl ⟨rfl, rfl, rfl, rfl, rfl⟩ rfl rfl rfl rfl rfl (by kernel_rfl) Try.func3 (by kernel_rfl)
    (of_decide_eq_true (by kernel_rfl)) (by unfold Func.isWrapper; first | (rw [if_pos (by decide +kernel)]; kernel_rfl) | (rw [if_neg (by decide +kernel)]; exact ⟨rfl, rfl⟩))
    (fun os started H enc _ => lifted_isTerms os started H enc)
#print axioms holds_isTerms
end Go.Proofs.Ytbkmnoedhilopaa
