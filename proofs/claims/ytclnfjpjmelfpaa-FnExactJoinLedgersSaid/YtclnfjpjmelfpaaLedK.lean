


/-
  FnExactJoinLedgers: for every input the law returns true and its arguments read as before.
-/
import Derived.Test.YtclnfjpjmelfpaaLedJ
namespace Go.Proofs.Ytclnfjpjmelfpaa
open Go.RowKit Go.ChangeShapes Go.WideShapes Go.ChangeAt Go.Deep Go.Joins

set_option maxHeartbeats 4000000 in
theorem law_JoinLedgers (A1 A2 : Option Addr) (n1 c1 n2 c2 : Nat) (ps qs : List Posting) (w : World) (h1 : SliceOf w 4 Posting.cells A1 n1 c1 ps) (h2 : SliceOf w 4 Posting.cells A2 n2 c2 qs) :
    Calls Try.prog 8 #[.slice A1 n1 c1, .slice A2 n2 c2] w (Ret (.bool true) w) := by
  have hR := joinR_len ps qs
  have HL1 := hide h1.len
  have HL2 := hide h2.len
  go_enter Try.func8, Try.ntmps8
  go_wp2_with fail
  refine (c_szPostingS A1 n1 c1 1048576 _ h1.cap h1.max (by omega) (by omega)).mono ?_
  rintro e w' ⟨rfl, rfl⟩
  by_cases k1 : (1048576 : Int) < n1
  · rw [if_pos k1]
    go_wp2_with fail
    go_ret
    exact Ret.bool rfl (Ext.refl _)
  rw [if_neg k1]
  go_wp2_with fail
  refine (c_szPostingS A2 n2 c2 _ _ h2.cap h2.max (by omega) (by omega)).mono ?_
  rintro e w' ⟨rfl, rfl⟩
  by_cases k2 : (1048576 : Int) - n1 < n2
  · rw [if_pos k2]
    go_wp2_with fail
    go_ret
    exact Ret.bool rfl (Ext.refl _)
  rw [if_neg k2]
  have m1 : n1 ≤ 1048576 := by omega
  have m2 : n2 ≤ 1048576 := by omega
  have l1 : ps.length ≤ 1048576 := by rw [← HL1.out]; exact m1
  have l2 : qs.length ≤ 1048576 := by rw [← HL2.out]; exact m2
  go_wp2_with fail
  refine (c_toPostingS A1 n1 c1 ps _ (h1.ext (Ext.refl _)) m1).mono ?_
  rintro e w1 ⟨g1, rfl, hg1, r1, x1⟩
  go_wp2_with fail
  refine (c_toPostingS A2 n2 c2 qs _ (h2.ext x1) m2).mono ?_
  rintro e w2 ⟨g2, rfl, hg2, r2, x2⟩
  go_wp2_with fail
  have y2 := x1.trans x2
  refine (c_specJoinLedgers _ _ _ _ _ _ ps qs _ ((r1.ext x2).slice post_len rfl (by omega)) (r2.slice post_len rfl (by omega))).mono ?_
  rintro e w3 ⟨A3, n3, c3, g3, rfl, hn3, hc3, hg3, ho3, x3⟩
  have y3 := y2.trans x3
  have hsz3 := fun h => ho3.lt h
  go_wp2_with fail
  refine (c_toPostingS A1 n1 c1 ps _ (h1.ext y3) m1).mono ?_
  rintro e w4 ⟨g4, rfl, hg4, r4, x4⟩
  go_wp2_with fail
  have y4 := y3.trans x4
  refine (c_toPostingS A2 n2 c2 qs _ (h2.ext y4) m2).mono ?_
  rintro e w5 ⟨g5, rfl, hg5, r5, x5⟩
  go_wp2_with fail
  have y5 := y4.trans x5
  have q4 := r4.lt
  have q5 := r5.lt
  refine (c_JoinLedgers _ _ _ _ _ _ ps qs _ ((r4.ext x5).slice post_len rfl (by omega)) (r5.slice post_len rfl (by omega))).mono ?_
  rintro e w6 ⟨A6, n6, c6, g6, rfl, hn6, hc6, hg6, ho6, x6⟩
  have y6 := y5.trans x6
  have o3a := ho3.ext ((x4.trans x5).trans x6)
  go_wp2_with fail
  refine (c_eqPostingS _ _ _ _ _ _ (joinR ps qs).1 _ (ho6.slice post_len hn6 hc6) (o3a.slice post_len hn3 hc3)).mono ?_
  rintro e w7 ⟨rfl, x7⟩
  have y7 := y6.trans x7
  go_wp2_with fail
  refine (c_toPostingS A1 n1 c1 ps _ (h1.ext y7) m1).mono ?_
  rintro e w8 ⟨g8, rfl, hg8, r8, x8⟩
  go_wp2_with fail
  refine (c_eqPostingS _ _ _ _ _ _ ps _ ((r4.ext (x5.trans (x6.trans (x7.trans x8)))).slice post_len rfl (by omega)) (r8.slice post_len rfl (by omega))).mono ?_
  rintro e w9 ⟨rfl, x9⟩
  have y9 := y7.trans (x8.trans x9)
  go_wp2_with fail
  refine (c_toPostingS A2 n2 c2 qs _ (h2.ext y9) m2).mono ?_
  rintro e w10 ⟨g10, rfl, hg10, r10, x10⟩
  go_wp2_with fail
  have x79 := x7.trans (x8.trans x9)
  refine (c_eqPostingS _ _ _ _ _ _ qs _ ((r5.ext (x6.trans (x79.trans x10))).slice post_len rfl (by omega)) (r10.slice post_len rfl (by omega))).mono ?_
  rintro e w11 ⟨rfl, x11⟩
  have y11 := y9.trans (x10.trans x11)
  have x711 := x79.trans (x10.trans x11)
  go_wp2_with fail
  refine (c_markPostingS g4 _ _ _ ps 1 _ (OwnS.of_row (r4.ext (x5.trans (x6.trans x711)))) (by omega) (Nat.le_refl _) (by omega) (by omega) (by omega)).mono ?_
  rintro e w12 ⟨rfl, _, k12⟩
  have s2 := y2.size
  have s3 := y3.size
  have s4 := x4.size
  have s1 := x1.size
  have r5a := (r5.ext (x6.trans x711)).only k12 (by omega)
  have o3b := (o3a.ext x711).onlyz k12 (fun h => by have := hsz3 h; omega)
  have o6b := (ho6.ext x711).onlyz k12 (fun _ => by omega)
  have y12 := y11.only k12 (by omega)
  go_wp2_with fail
  refine (c_markPostingS g5 _ _ _ qs _ _ (OwnS.of_row r5a) (by omega) (Nat.le_refl _) (by omega) (by omega) (by omega)).mono ?_
  rintro e w13 ⟨rfl, _, k13⟩
  have o3c := o3b.onlyz k13 (fun h => by have := hsz3 h; omega)
  have o6c := o6b.onlyz k13 (fun _ => by omega)
  have y13 := y12.only k13 (by omega)
  go_wp2_with fail
  refine (c_eqPostingS _ _ _ _ _ _ (joinR ps qs).1 _ (o6c.slice post_len hn6 hc6) (o3c.slice post_len hn3 hc3)).mono ?_
  rintro e w14 ⟨rfl, x14⟩
  have hl6 := ho6.1
  have hn6' : n6 ≤ 1000000000 := by omega
  have HL6 := hide hl6
  clear hl6
  go_wp2_with fail
  refine (c_markPostingS g6 _ _ _ (joinR ps qs).1 1 _ (o6c.ext x14) hn6' hn6 hc6 (by omega) (by omega)).mono ?_
  rintro e w15 ⟨rfl, o15, k15⟩
  have o3d := (o3c.ext x14).onlyz k15 (fun h => by have := hsz3 h; omega)
  have y15 := (y13.trans x14).only k15 (by omega)
  go_wp2_with fail
  refine (c_heldPostingS _ _ _ 1 _ (o15.slice post_len hn6 hc6) hn6' (by omega) (by omega)).mono ?_
  rintro e w' ⟨rfl, rfl⟩
  go_wp2_with fail
  refine (c_toPostingS A1 n1 c1 ps _ (h1.ext y15) m1).mono ?_
  rintro e w16 ⟨g16, rfl, hg16, r16, x16⟩
  go_wp2_with fail
  refine (c_toPostingS A2 n2 c2 qs _ (h2.ext (y15.trans x16)) m2).mono ?_
  rintro e w17 ⟨g17, rfl, hg17, r17, x17⟩
  go_wp2_with fail
  refine (c_JoinLedgers _ _ _ _ _ _ ps qs _ ((r16.ext x17).slice post_len rfl (by omega)) (r17.slice post_len rfl (by omega))).mono ?_
  rintro e w18 ⟨A18, n18, c18, g18, rfl, hn18, hc18, hg18, ho18, x18⟩
  have xb := x16.trans (x17.trans x18)
  go_wp2_with fail
  refine (c_eqPostingS _ _ _ _ _ _ (joinR ps qs).1 _ (ho18.slice post_len hn18 hc18) ((o3d.ext xb).slice post_len hn3 hc3)).mono ?_
  rintro e w19 ⟨rfl, x19⟩
  go_wp2_with fail
  refine (c_heldPostingS _ _ _ 1 _ ((o15.ext (xb.trans x19)).slice post_len hn6 hc6) hn6' (by omega) (by omega)).mono ?_
  rintro e w' ⟨rfl, rfl⟩
  go_wp2_with fail
  go_ret
  exact Ret.bool rfl ((y15.trans xb).trans x19)

set_option maxRecDepth 100000 in
theorem lifted_JoinLedgers (os : Os) (started : os.Started) (H : Type) (enc : TypeId × Value → H) :
    ReturnsInHanded {} Try.checked os 8 .any (Rows.fnExactJoinLedgersSpec.pre6 enc Try.prog Try.f8 Rows.fnExactJoinLedgersRow.domain false) (Rows.fnExactJoinLedgersSpec.post enc Try.prog Try.f8 false true false false) := by
  refine returnsInHanded_of_change (C := Try.checked) own started (by kernel_rfl) Try.func8
    (ChangeSpec.witness6 (enc := enc) (C := Try.checked) false ⟨#[], #[.slice none 0 0, .slice none 0 0], []⟩ 8 (by kernel_rfl) (by kernel_rfl) (by kernel_rfl) (by kernel_rfl)) ?_
  intro W base args ds gs before hval0 hW _ _
  have hval : ∀ (j : Nat) t v, Try.f8.params[j]? = some t → args[j]? = some v → Value.okWide Try.prog W .any base t v := hval0
  have hW' := hW
  obtain ⟨p, q, hA0, hV, rfl, hfz, hnd⟩ := hW
  have hA : DataW.TrodAll enc Try.prog W 0 (fun _ => true) true Try.f8.params.toList args.toList ds p := hA0
  rw [Try.params8] at hA hval
  obtain ⟨v0, vs0, d0, ds0, p0, q0, hargs, rfl, rfl, h0, r0⟩ := trodAll_cons hA
  obtain ⟨v1, vs1, d1, ds1, p1, q1, rfl, rfl, rfl, h1, r1⟩ := trodAll_cons r0
  obtain ⟨rfl, rfl, rfl⟩ := trodAll_nil r1
  obtain rfl : args = #[v0, v1] := by cases args; simp_all
  obtain ⟨rfl, rfl⟩ := trodVars_none hV
  have k0 := h0
  have k1 := h1
  have lt0 : ∀ x ∈ p0, x.block < W.heap.size := by obtain ⟨m, hm⟩ := k0; exact DataW.trod_lt m _ _ _ hm
  have lt1 : ∀ x ∈ p1, x.block < W.heap.size := by obtain ⟨m, hm⟩ := k1; exact DataW.trod_lt m _ _ _ hm
  obtain ⟨A, n, c, ps, e0, hs⟩ := open_postings (hval 0 28 v0 rfl rfl) h0
  obtain ⟨A', n', c', qs, e1, hs'⟩ := open_postings (hval 1 28 v1 rfl rfl) h1
  rw [e0, e1]
  clear hA0 hval0
  refine (law_JoinLedgers A A' n c n' c' ps qs W hs hs').mono fun e W' ⟨he, bel⟩ => ?_
  subst he
  rw [e0, e1] at hW'
  exact ⟨_, rfl, _, _, _, [], _, [], hW', trodAll_mk1 (shut_bool Try.underlying4 _), (trodAll_cons_mk (Below.trod laidOut (by kernel_rfl) (of_decide_eq_true (by kernel_rfl)) (e0 ▸ k0) bel lt0) (trodAll_cons_mk (Below.trod laidOut (by kernel_rfl) (of_decide_eq_true (by kernel_rfl)) (e1 ▸ k1) bel lt1) trodAll_mk0)), rfl, bel.frame _, fun h => by cases h⟩

theorem holds_JoinLedgers : Rows.FnExactJoinLedgersSaid :=
  OpenClaim.holds_of_wide 8 Try.f8 rfl rfl rfl rfl rfl rfl rfl ⟨rfl, rfl, rfl, rfl, rfl⟩ rfl rfl rfl rfl rfl (by kernel_rfl) Try.func8 (by kernel_rfl)
    (of_decide_eq_true (by kernel_rfl)) (by unfold Func.isWrapper; first | (rw [if_pos (by decide +kernel)]; kernel_rfl) | (rw [if_neg (by decide +kernel)]; exact ⟨rfl, rfl⟩))
    (fun os started H enc _ => lifted_JoinLedgers os started H enc)
#print axioms holds_JoinLedgers
end Go.Proofs.Ytclnfjpjmelfpaa
