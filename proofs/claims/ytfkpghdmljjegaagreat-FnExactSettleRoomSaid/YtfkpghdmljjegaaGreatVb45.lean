/-
  FnExactSettleRoom: for every input the law returns true and its arguments read as before. No condition.
-/
import Derived.Test.YtfkpghdmljjegaaGreatVb44
namespace Go.Proofs.YtfkpghdmljjegaaGreat
open Go.RowKit Go.ChangeShapes Go.WideShapes Go.ChangeAt Go.Deep Go.Joins
def tierOfS : List Int → Tier
  | [a, b] => ⟨a, b⟩
  | _ => ⟨0, 0⟩
set_option maxRecDepth 100000 in
theorem opened_terms {H : Type} {enc : TypeId × Value → H} {w : World} {base b0 : Nat} {spare : Nat → Bool} {held : Bool} {r : Reach} {v : Value} {d : DataW H} {p : List MemPlace}
    (hv : Value.okWide Tryz.prog w r b0 91 v) (h : DataW.Trod enc Tryz.prog w base spare held 91 v d p) :
    ∃ (band percent price : Int) (A : Option Addr) (n c : Nat) (ts : List Tier), v = .agg #[.int .i64 band, .int .i64 percent, .int .i64 price, .slice A n c] ∧ SliceOf w 2 Tier.cells A n c ts := by
  obtain ⟨v0, v1, v2, v3, y0, y1, y2, y3, m, rfl, _, _, h0, h1, h2, h3⟩ := open_agg4 Tryz.underlying91 (by kernel_rfl) (by kernel_rfl) hv h
  obtain ⟨band, e0, _, _⟩ := DataW.trod_int Tryz.underlying2 h0
  obtain ⟨percent, e1, _, _⟩ := DataW.trod_int Tryz.underlying2 h1
  obtain ⟨price, e2, _, _⟩ := DataW.trod_int Tryz.underlying2 h2
  obtain ⟨A, n, c, xss, rfl, hl, hs⟩ := open_flat Tryz.underlying89 Tryz.underlying252 (by kernel_rfl) (by kernel_rfl) (by kernel_rfl) (by decide) h3
  simp at e0 e1 e2
  subst e0 e1 e2
  refine ⟨band, percent, price, A, n, c, _, rfl, SliceOf.map hs tierOfS ?_⟩
  intro zs hzs
  match zs, hl zs hzs with
  | [a, b], _ => rfl

set_option maxRecDepth 100000 in
theorem lifted_SettleRoom (os : Os) (started : os.Started) (H : Type) (enc : TypeId × Value → H) :
    ReturnsInHanded {} Tryz.checked os 11 .any (Rows.fnExactSettleRoomSpec.pre6 enc Tryz.prog Tryz.f11 Rows.fnExactSettleRoomRow.domain false) (Rows.fnExactSettleRoomSpec.post enc Tryz.prog Tryz.f11 false true false false) := by
  refine returnsInHanded_of_change (C := Tryz.checked) own started (by kernel_rfl) Tryz.func11
    (ChangeSpec.witness6 (enc := enc) (C := Tryz.checked) false ⟨#[], #[.agg #[.slice none 0 0, .slice none 0 0, .slice none 0 0, .slice none 0 0, .slice none 0 0], .agg #[.int .i64 0, .int .i64 0, .int .i64 0, .slice none 0 0]], []⟩ 8 (by kernel_rfl) (by kernel_rfl) (by kernel_rfl) (by kernel_rfl)) ?_
  intro W base args ds gs before hval0 hW _ _
  have hval : ∀ (j : Nat) t v, Tryz.f11.params[j]? = some t → args[j]? = some v → Value.okWide Tryz.prog W .any base t v := hval0
  have hW' := hW
  obtain ⟨p, q, hA0, hV, rfl, hfz, hnd⟩ := hW
  have hA : DataW.TrodAll enc Tryz.prog W 0 (fun _ => true) true Tryz.f11.params.toList args.toList ds p := hA0
  rw [Tryz.params11] at hA hval
  obtain ⟨v0, vs0, d0, ds0, p0, q0, hargs, rfl, rfl, h0, r0⟩ := trodAll_cons hA
  obtain ⟨v1, vs1, d1, ds1, p1, q1, rfl, rfl, rfl, h1, r1⟩ := trodAll_cons r0
  obtain ⟨rfl, rfl, rfl⟩ := trodAll_nil r1
  obtain rfl : args = #[v0, v1] := by cases args; simp_all
  obtain ⟨rfl, rfl⟩ := trodVars_none hV
  have k0 := h0
  have k1 := h1
  have lt0 : ∀ x ∈ p0, x.block < W.heap.size := by obtain ⟨m, hm⟩ := k0; exact DataW.trod_lt m _ _ _ hm
  have lt1 : ∀ x ∈ p1, x.block < W.heap.size := by obtain ⟨m, hm⟩ := k1; exact DataW.trod_lt m _ _ _ hm
  obtain ⟨A1, A2, A3, A4, A5, n1, c1, n2, c2, n3, c3, n4, c4, n5, c5, r, e0, hat, hnm⟩ := open_room (hval 0 109 v0 rfl rfl) h0
  obtain ⟨band, percent, price, K, kn, kc, ts, e1, s6⟩ := opened_terms (hval 1 91 v1 rfl rfl) h1
  rw [e0, e1]
  clear hA0 hval0
  refine (law_SettleRoom A1 A2 A3 A4 A5 n1 c1 n2 c2 n3 c3 n4 c4 n5 c5 r band percent price K kn kc ts W hat s6 hnm).mono fun e W' ⟨he, bel⟩ => ?_
  subst he
  rw [e0, e1] at hW'
  exact ⟨_, rfl, _, _, _, [], _, [], hW', trodAll_mk1 (shut_bool Tryz.underlying4 _), (trodAll_cons_mk (Below.trod laidOut (by kernel_rfl) (of_decide_eq_true (by kernel_rfl)) (e0 ▸ k0) bel lt0) (trodAll_cons_mk (Below.trod laidOut (by kernel_rfl) (of_decide_eq_true (by kernel_rfl)) (e1 ▸ k1) bel lt1) trodAll_mk0)), rfl, bel.frame _, fun h => by cases h⟩

theorem cf_SettleRoom : Tryz.pinned.checked.prog.funcNamed Rows.fnExactSettleRoomRow.func = some 11 := by kernel_rfl
theorem cA_SettleRoom : jA Tryz.pinned.checked.prog Tryz.f11 Rows.fnExactSettleRoomSpec Rows.fnExactSettleRoomRow = true := by kernel_rfl
theorem cB_SettleRoom : jB Tryz.pinned.checked.prog 11 Rows.fnExactSettleRoomRow = true := by kernel_rfl
theorem cC_SettleRoom : jC Tryz.pinned.checked.prog 11 Rows.fnExactSettleRoomRow = true := by kernel_rfl
theorem cD_SettleRoom : jD Tryz.pinned.checked.prog Tryz.f11 Rows.fnExactSettleRoomSpec Rows.fnExactSettleRoomRow = true := by kernel_rfl
theorem cE_SettleRoom : jE Tryz.pinned.checked.prog Rows.fnExactSettleRoomRow = true := by kernel_rfl
theorem cF_SettleRoom : jF Tryz.pinned.checked.prog Tryz.f11 Rows.fnExactSettleRoomSpec Rows.fnExactSettleRoomRow = true := by kernel_rfl
theorem cI_SettleRoom : decide (Tryz.f11.isInstance Tryz.pinned.checked.prog Rows.fnExactSettleRoomRow.origin Rows.fnExactSettleRoomRow.targs) = true := by kernel_rfl
theorem cW_SettleRoom : Tryz.f11.isWrapper Tryz.pinned.checked.prog Rows.fnExactSettleRoomRow.wrapper Rows.fnExactSettleRoomRow.mainSum := by unfold Func.isWrapper; first | (rw [if_pos (by decide +kernel)]; kernel_rfl) | (rw [if_neg (by decide +kernel)]; exact ⟨rfl, rfl⟩)
theorem holds_SettleRoom : Rows.FnExactSettleRoomSaid :=
  OpenClaim.holds_of_wide 11 Tryz.f11 rfl rfl rfl rfl rfl rfl rfl ⟨rfl, rfl, rfl, rfl, rfl⟩ rfl rfl rfl rfl rfl cf_SettleRoom Tryz.func11
    (joined_of cA_SettleRoom cB_SettleRoom cC_SettleRoom cD_SettleRoom cE_SettleRoom cF_SettleRoom) (of_decide_eq_true cI_SettleRoom) cW_SettleRoom
    (fun os started H enc _ => lifted_SettleRoom os started H enc)
#print axioms holds_SettleRoom
end Go.Proofs.YtfkpghdmljjegaaGreat
