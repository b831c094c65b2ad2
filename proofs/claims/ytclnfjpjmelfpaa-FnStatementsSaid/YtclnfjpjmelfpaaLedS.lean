


/-
  StatementOf of the program and of the reference, and the law FnExactStatementOf.
-/
import Derived.Test.YtclnfjpjmelfpaaLedF
import Derived.Test.YtclnfjpjmelfpaaAppend
namespace Go.Proofs.Ytclnfjpjmelfpaa
open Go.RowKit Go.ChangeShapes Go.WideShapes Go.ChangeAt Go.Deep Go.Joins

def hitB (acc : Int) (p : Posting) : Bool := (p.debit == acc) || (p.credit == acc)
def stmF (acc : Int) : List Posting → Nat → List Int
  | [], _ => []
  | p :: r, k => if hitB acc p = true then (k : Int) :: stmF acc r (k + 1) else stmF acc r (k + 1)
theorem stmF_snoc (acc : Int) (ps : List Posting) (p : Posting) (s : Nat) : stmF acc (ps ++ [p]) s = stmF acc ps s ++ if hitB acc p = true then [((s + ps.length : Nat) : Int)] else [] := by
  induction ps generalizing s with
  | nil => simp [stmF]
  | cons q ps ih =>
    simp only [List.cons_append, stmF, ih, List.length_cons]
    rw [show s + 1 + ps.length = s + (ps.length + 1) by omega]
    split <;> simp
theorem stmF_len (acc : Int) (ps : List Posting) (s : Nat) : (stmF acc ps s).length ≤ ps.length := by
  induction ps generalizing s with
  | nil => simp [stmF]
  | cons q ps ih => simp only [stmF, List.length_cons]; have := ih (s + 1); split <;> simp <;> omega
def stmR (acc : Int) (ps : List Posting) : List Int × Int := if ledB ps = false then ([], 3) else if inB acc 0 23 = false then ([], 2) else (stmF acc ps 0, 0)
theorem stmR_len (acc : Int) (ps : List Posting) : (stmR acc ps).1.length ≤ 1000000 := by
  unfold stmR
  split
  · simp
  · rename_i h
    have := ledB_true (by simpa using h)
    have := stmF_len acc ps 0
    split <;> simp <;> omega
theorem stm_step {acc : Int} {ps : List Posting} {k : Nat} {p : Posting} (h : ps[k]? = some p) : stmF acc (ps.take (k + 1)) 0 = stmF acc (ps.take k) 0 ++ if hitB acc p = true then [(k : Int)] else [] := by
  rw [take_snoc h, stmF_snoc]
  have : (ps.take k).length = k := by rw [List.length_take]; have := (List.getElem?_eq_some_iff.1 h).1; omega
  rw [this, Nat.zero_add]
theorem intC_one (y : Int) : ∀ u ∈ intC y, u.oneCell' = true := by intro u hu; simp [intC] at hu; subst hu; rfl


set_option maxHeartbeats 2000000 in
theorem c_StatementOf (acc : Int) (A : Option Addr) (n c : Nat) (ps : List Posting) (w : World) (hs : SliceOf w 4 Posting.cells A n c ps) :
    Calls Try.prog 25 #[.slice A n c, .int .i64 acc] w (RetS 2 intC (stmR acc ps) w) := by
  cases h1 : ledB ps
  · have HR := hide (show stmR acc ps = ([], 3) by simp [stmR, h1])
    go_enter Try.func25, Try.ntmps25
    go_wp2_with fail
    refine (c_isLedger A n c ps _ hs).mono ?_
    rw [h1]
    rintro e w1 ⟨rfl, hx1⟩
    go_wp2_with fail
    go_ret2
    exact RetS.nil_ HR.out hx1
  cases h2 : inB acc 0 23
  · have HR := hide (show stmR acc ps = ([], 2) by simp [stmR, h1, h2])
    go_enter Try.func25, Try.ntmps25
    go_wp2_with fail
    refine (c_isLedger A n c ps _ hs).mono ?_
    rw [h1]
    rintro e w1 ⟨rfl, hx1⟩
    go_wp2_with (go_at_call 56; refine (c_within _ _ _ _).mono ?_; rintro e w' ⟨rfl, rfl⟩)
    go_ret2
    exact RetS.nil_ HR.out hx1
  have HR := hide (show stmR acc ps = (stmF acc ps 0, 0) by simp [stmR, h1, h2])
  have hn : n ≤ 300 := by rw [hs.len]; exact (ledB_true h1).1
  go_enter Try.func25, Try.ntmps25
  go_wp2_with fail
  refine (c_isLedger A n c ps _ hs).mono ?_
  rw [h1]
  rintro e w1 ⟨rfl, hx1⟩
  go_wp2_with (go_at_call 56; refine (c_within _ _ _ _).mono ?_; rintro e w' ⟨rfl, rfl⟩)
  go_loopw [6, 17] (fun v i wr => ∃ (k : Nat), k ≤ n ∧ i = .int .i64 k ∧ OwnL wr w1.heap.size 2 1 intC v (stmF acc (ps.take k) 0) ∧ Ext w1 wr) (fun _ i _ => n - (intOf i).toNat)
  case atStart => exact ⟨0, Nat.zero_le _, rfl, OwnL.nil_ _ _ _ _ _, Ext.refl _⟩
  case round =>
    obtain ⟨k, hk, rfl, hown, hx⟩ := hrel
    by_cases hlt : k < n
    · obtain ⟨b, off, p, rfl, hb, hxk, hc⟩ := (hs.ext (hx1.trans hx)).get hlt
      have HST := hide (stm_step (acc := acc) hxk)
      clear hxk
      obtain ⟨d, cr, ga, mo⟩ := p
      have hc0 := hc 0 _ rfl
      have hc1 := hc 1 _ rfl
      have hc2 := hc 2 _ rfl
      have hc3 := hc 3 _ rfl
      clear hc
      simp only [Nat.add_zero] at hc0
      have hll : (stmF acc (ps.take k) 0).length ≤ 300 := by
        have := stmF_len acc (ps.take k) 0
        rw [List.length_take] at this; omega
      have hsz := hx.size
      have hw : ((d == acc) = true ∧ Hid (hitB acc ⟨d, cr, ga, mo⟩ = true)) ∨ ((d == acc) = false ∧ (cr == acc) = true ∧ Hid (hitB acc ⟨d, cr, ga, mo⟩ = true)) ∨ ((d == acc) = false ∧ (cr == acc) = false ∧ Hid (hitB acc ⟨d, cr, ga, mo⟩ = false)) := by
        unfold hitB Hid
        cases (d == acc) <;> cases (cr == acc) <;> simp
      rcases hw with ⟨e1, HH⟩ | ⟨e1, e2, HH⟩ | ⟨e1, e2, HH⟩
      case' inr.inr =>
        go_wp2_with fail
        go_roundw
        case rel => exact ⟨k + 1, by omega, by go_num, by rw [HST.out, if_neg (by rw [HH.out]; simp), List.append_nil]; exact hown.ext (Ext.alloc _ _), hx.and_alloc _⟩
        case measure => simp [intOf]; omega
      all_goals
        go_wp2_with (at_builtin; go_must (refine wpList_append_one rfl _ _ 39 rfl w1.heap.size 2 _ 1 8 Try.underlying39 int_info rfl (by decide) intC intC_len intC_one _ _ rfl (hown.ext ((Ext.alloc _ _).and_alloc _)) (wr.alloc _) (k : Int) rfl _ rfl (by simp) (by omega) (by omega) (by first | omega | (simp; omega)) ?_))
        intro v1 w2 hown2 hext2
        have hx2 := hext2 w1 (Nat.le_refl _) ((hx.and_alloc _).and_alloc _)
        go_wp2_with fail
        go_roundw
        case rel => exact ⟨k + 1, by omega, by go_num, by rw [HST.out, if_pos HH.out]; exact hown2, hx2⟩
        case measure => simp [intOf]; omega
    · go_wp2_with fail
      go_ret2
      have hkn : ps.take k = ps := List.take_of_length_le (by have := hs.len; omega)
      rw [hkn] at hown
      obtain ⟨A', c', g, hv, hg, hnc, hcm, ho⟩ := hown.own intC_len (by omega)
      refine ⟨A', _, c', g, ?_, hnc, hcm, by have := hx1.size; omega, by rw [HR.out]; exact ho, hx1.trans hx⟩
      rw [HR.out, hv]; rfl

set_option maxHeartbeats 2000000 in
theorem c_specStatementOf (acc : Int) (A : Option Addr) (n c : Nat) (ps : List Posting) (w : World) (hs : SliceOf w 4 Posting.cells A n c ps) :
    Calls Try.prog 26 #[.slice A n c, .int .i64 acc] w (RetS 2 intC (stmR acc ps) w) := by
  cases h1 : ledB ps
  · have HR := hide (show stmR acc ps = ([], 3) by simp [stmR, h1])
    go_enter Try.func26, Try.ntmps26
    go_wp2_with fail
    refine (c_l30List A n c ps _ hs).mono ?_
    rw [h1]
    rintro e w1 ⟨rfl, hx1⟩
    go_wp2_with fail
    go_ret2
    exact RetS.nil_ HR.out hx1
  cases h2 : inB acc 0 23
  · have HR := hide (show stmR acc ps = ([], 2) by simp [stmR, h1, h2])
    go_enter Try.func26, Try.ntmps26
    go_wp2_with fail
    refine (c_l30List A n c ps _ hs).mono ?_
    rw [h1]
    rintro e w1 ⟨rfl, hx1⟩
    go_wp2_with (go_at_call 53; refine (c_l30Account _ _).mono ?_; rintro e w' ⟨rfl, rfl⟩)
    go_ret2
    exact RetS.nil_ HR.out hx1
  have HR := hide (show stmR acc ps = (stmF acc ps 0, 0) by simp [stmR, h1, h2])
  have hn : n ≤ 300 := by rw [hs.len]; exact (ledB_true h1).1
  go_enter Try.func26, Try.ntmps26
  go_wp2_with fail
  refine (c_l30List A n c ps _ hs).mono ?_
  rw [h1]
  rintro e w1 ⟨rfl, hx1⟩
  go_wp2_with (go_at_call 53; refine (c_l30Account _ _).mono ?_; rintro e w' ⟨rfl, rfl⟩)
  go_loopw [6, 7] (fun v i wr => ∃ (k : Nat), k ≤ n ∧ i = .int .i64 k ∧ OwnL wr w1.heap.size 2 1 intC v (stmF acc (ps.take k) 0) ∧ Ext w1 wr) (fun _ i _ => n - (intOf i).toNat)
  case atStart => exact ⟨0, Nat.zero_le _, rfl, OwnL.empty _ _ _ _ _ (Nat.le_refl _), Ext.alloc _ _⟩
  case round =>
    obtain ⟨k, hk, rfl, hown, hx⟩ := hrel
    by_cases hlt : k < n
    · obtain ⟨b, off, p, rfl, hb, hxk, hc⟩ := (hs.ext (hx1.trans hx)).get hlt
      have HST := hide (stm_step (acc := acc) hxk)
      clear hxk
      obtain ⟨d, cr, ga, mo⟩ := p
      have hc0 := hc 0 _ rfl
      have hc1 := hc 1 _ rfl
      have hc2 := hc 2 _ rfl
      have hc3 := hc 3 _ rfl
      clear hc
      simp only [Nat.add_zero] at hc0
      have hll : (stmF acc (ps.take k) 0).length ≤ 300 := by
        have := stmF_len acc (ps.take k) 0
        rw [List.length_take] at this; omega
      have hsz := hx.size
      have hw : ((d == acc) = true ∧ Hid (hitB acc ⟨d, cr, ga, mo⟩ = true)) ∨ ((d == acc) = false ∧ (cr == acc) = true ∧ Hid (hitB acc ⟨d, cr, ga, mo⟩ = true)) ∨ ((d == acc) = false ∧ (cr == acc) = false ∧ Hid (hitB acc ⟨d, cr, ga, mo⟩ = false)) := by
        unfold hitB Hid
        cases (d == acc) <;> cases (cr == acc) <;> simp
      rcases hw with ⟨e1, HH⟩ | ⟨e1, e2, HH⟩ | ⟨e1, e2, HH⟩
      case' inr.inr =>
        go_wp2_with fail
        go_roundw
        case rel => exact ⟨k + 1, by omega, by go_num, by rw [HST.out, if_neg (by rw [HH.out]; simp), List.append_nil]; exact hown, hx⟩
        case measure => simp [intOf]; omega
      all_goals
        go_wp2_with (at_builtin; go_must (refine wpList_append_one rfl _ _ 39 rfl w1.heap.size 2 _ 1 8 Try.underlying39 int_info rfl (by decide) intC intC_len intC_one _ _ rfl (hown.ext (Ext.alloc _ _)) wr (k : Int) rfl _ rfl (by simp) (by omega) (by omega) (by first | omega | (simp; omega)) ?_))
        intro v1 w2 hown2 hext2
        have hx2 := hext2 w1 (Nat.le_refl _) (hx.and_alloc _)
        go_wp2_with fail
        go_roundw
        case rel => exact ⟨k + 1, by omega, by go_num, by rw [HST.out, if_pos HH.out]; exact hown2, hx2⟩
        case measure => simp [intOf]; omega
    · go_wp2_with fail
      go_ret2
      have hkn : ps.take k = ps := List.take_of_length_le (by have := hs.len; omega)
      rw [hkn] at hown
      obtain ⟨A', c', g, hv, hg, hnc, hcm, ho⟩ := hown.own intC_len (by omega)
      refine ⟨A', _, c', g, ?_, hnc, hcm, by have := hx1.size; omega, by rw [HR.out]; exact ho, hx1.trans hx⟩
      rw [HR.out, hv]; rfl

set_option maxHeartbeats 4000000 in
theorem law_StatementOf (acc : Int) (A : Option Addr) (n c : Nat) (ps : List Posting) (w : World) (hs : SliceOf w 4 Posting.cells A n c ps) :
    Calls Try.prog 7 #[.slice A n c, .int .i64 acc] w (Ret (.bool true) w) := by
  have hcap := hs.cap
  have hmax := hs.max
  have hR := stmR_len acc ps
  have hLn := hs.len
  have HLn := hide hLn
  clear hLn
  go_enter Try.func7, Try.ntmps7
  go_wp2_with fail
  refine (c_szPostingS A n c 1048576 _ hcap hmax (by omega) (by omega)).mono ?_
  rintro e w' ⟨rfl, rfl⟩
  by_cases hn : (1048576 : Int) < n
  · rw [if_pos hn]
    go_wp2_with fail
    go_ret
    exact Ret.bool rfl (Ext.refl _)
  rw [if_neg hn]
  have hn' : n ≤ 1048576 := by omega
  have hpl : ps.length ≤ 1048576 := by rw [← HLn.out]; exact hn'
  go_wp2_with fail
  refine (c_toPostingS A n c ps _ hs hn').mono ?_
  rintro e w1 ⟨g1, rfl, hg1, hr1, hx1⟩
  go_wp2_with fail
  refine (c_specStatementOf acc _ _ _ ps _ (hr1.slice post_len rfl (by omega))).mono ?_
  rintro e w2 ⟨A2, n2, c2, g2, rfl, hn2, hc2, hg2, ho2, hx2⟩
  go_wp2_with fail
  have hx02 := hx1.trans hx2
  refine (c_toPostingS A n c ps _ (hs.ext hx02) hn').mono ?_
  rintro e w3 ⟨g3, rfl, hg3, hr3, hx3⟩
  have hx03 := hx02.trans hx3
  go_wp2_with fail
  refine (c_StatementOf acc _ _ _ ps _ (hr3.slice post_len rfl (by omega))).mono ?_
  rintro e w4 ⟨A4, n4, c4, g4, rfl, hn4, hc4, hg4, ho4, hx4⟩
  have hx04 := hx03.trans hx4
  have ho2' := ho2.ext (hx3.trans hx4)
  have hr3' := hr3.ext hx4
  have hl3 := hr3.lt
  go_wp2_with fail
  refine (c_eqInt64S _ _ _ _ _ _ (stmR acc ps).1 _ (ho4.slice intC_len hn4 hc4) (ho2'.slice intC_len hn2 hc2)).mono ?_
  rintro e w5 ⟨rfl, hx5⟩
  go_wp2_with fail
  have hx05 := hx04.trans hx5
  refine (c_toPostingS A n c ps _ (hs.ext hx05) hn').mono ?_
  rintro e w6 ⟨g6, rfl, hg6, hr6, hx6⟩
  go_wp2_with fail
  refine (c_eqPostingS _ _ _ _ _ _ ps _ ((hr3'.ext (hx5.trans hx6)).slice post_len rfl (by omega)) (hr6.slice post_len rfl (by omega))).mono ?_
  rintro e w7 ⟨rfl, hx7⟩
  have hx57 := hx5.trans (hx6.trans hx7)
  have hx07 := hx04.trans hx57
  go_wp2_with fail
  refine (c_markPostingS g3 _ _ _ ps 1 _ (OwnS.of_row (hr3'.ext hx57)) (by omega) (Nat.le_refl _) (by omega) (by omega) (by omega)).mono ?_
  rintro e w8 ⟨rfl, _, hk8⟩
  have hs2 := hx1.size
  have hs3 := hx02.size
  have hsz2 := fun h => ho2.lt h
  have ho2a := (ho2'.ext hx57).onlyz hk8 (fun h => by have := hsz2 h; omega)
  have ho4a := (ho4.ext hx57).onlyz hk8 (fun _ => by omega)
  have hx08 := hx07.only hk8 (by omega)
  go_wp2_with fail
  refine (c_eqInt64S _ _ _ _ _ _ (stmR acc ps).1 _ (ho4a.slice intC_len hn4 hc4) (ho2a.slice intC_len hn2 hc2)).mono ?_
  rintro e w9 ⟨rfl, hx9⟩
  have hl4 := ho4.1
  have hn4' : n4 ≤ 1000000000 := by omega
  have HL4 := hide hl4
  clear hl4
  go_wp2_with fail
  refine (c_markInt64S g4 _ _ _ (stmR acc ps).1 1 _ (ho4a.ext hx9) hn4' hn4 hc4 (by omega) (by omega)).mono ?_
  rintro e w10 ⟨rfl, ho10, hk10⟩
  have ho2b := (ho2a.ext hx9).onlyz hk10 (fun h => by have := hsz2 h; have := hx3.size; omega)
  have hx10 := (hx08.trans hx9).only hk10 (by have := hx03.size; omega)
  go_wp2_with fail
  refine (c_heldInt64S _ _ _ 1 _ (ho10.slice intC_len hn4 hc4) hn4' (by omega) (by omega)).mono ?_
  rintro e w' ⟨rfl, rfl⟩
  go_wp2_with fail
  refine (c_toPostingS A n c ps _ (hs.ext hx10) hn').mono ?_
  rintro e w11 ⟨g11, rfl, hg11, hr11, hx11⟩
  go_wp2_with fail
  refine (c_StatementOf acc _ _ _ ps _ (hr11.slice post_len rfl (by omega))).mono ?_
  rintro e w12 ⟨A12, n12, c12, g12, rfl, hn12, hc12, hg12, ho12, hx12⟩
  have hxb := hx11.trans hx12
  go_wp2_with fail
  refine (c_eqInt64S _ _ _ _ _ _ (stmR acc ps).1 _ (ho12.slice intC_len hn12 hc12) ((ho2b.ext hxb).slice intC_len hn2 hc2)).mono ?_
  rintro e w13 ⟨rfl, hx13⟩
  go_wp2_with fail
  refine (c_heldInt64S _ _ _ 1 _ ((ho10.ext (hxb.trans hx13)).slice intC_len hn4 hc4) hn4' (by omega) (by omega)).mono ?_
  rintro e w' ⟨rfl, rfl⟩
  go_wp2_with fail
  go_ret
  exact Ret.bool rfl ((hx10.trans hxb).trans hx13)

set_option maxRecDepth 100000 in
theorem lifted_StatementOf (os : Os) (started : os.Started) (H : Type) (enc : TypeId × Value → H) :
    ReturnsInHanded {} Try.checked os 7 .any (Rows.fnExactStatementOfSpec.pre6 enc Try.prog Try.f7 Rows.fnExactStatementOfRow.domain false) (Rows.fnExactStatementOfSpec.post enc Try.prog Try.f7 false true false false) := by
  refine returnsInHanded_of_change (C := Try.checked) own started (by kernel_rfl) Try.func7
    (ChangeSpec.witness6 (enc := enc) (C := Try.checked) false ⟨#[], #[.slice none 0 0, .int .i64 0], []⟩ 8 (by kernel_rfl) (by kernel_rfl) (by kernel_rfl) (by kernel_rfl)) ?_
  intro W base args ds gs before hval0 hW _ _
  have hval : ∀ (j : Nat) t v, Try.f7.params[j]? = some t → args[j]? = some v → Value.okWide Try.prog W .any base t v := hval0
  have hW' := hW
  obtain ⟨p, q, hA0, hV, rfl, hfz, hnd⟩ := hW
  have hA : DataW.TrodAll enc Try.prog W 0 (fun _ => true) true Try.f7.params.toList args.toList ds p := hA0
  rw [Try.params7] at hA hval
  obtain ⟨v0, vs0, d0, ds0, p0, q0, hargs, rfl, rfl, h0, r0⟩ := trodAll_cons hA
  obtain ⟨v1, vs1, d1, ds1, p1, q1, rfl, rfl, rfl, h1, r1⟩ := trodAll_cons r0
  obtain ⟨rfl, rfl, rfl⟩ := trodAll_nil r1
  obtain rfl : args = #[v0, v1] := by cases args; simp_all
  obtain ⟨rfl, rfl⟩ := trodVars_none hV
  have k0 := h0
  have lt0 : ∀ x ∈ p0, x.block < W.heap.size := by obtain ⟨m, hm⟩ := k0; exact DataW.trod_lt m _ _ _ hm
  obtain ⟨A, n, c, ps, e0, hs⟩ := open_postings (hval 0 28 v0 rfl rfl) h0
  obtain ⟨a1, rfl, rfl, rfl, w1⟩ := open_int Try.underlying2 (hval 1 2 v1 rfl rfl) h1
  rw [e0]
  clear hA0 hval0
  refine (law_StatementOf a1 A n c ps W hs).mono fun e W' ⟨he, bel⟩ => ?_
  subst he
  rw [e0] at hW'
  exact ⟨_, rfl, _, _, _, [], _, [], hW', trodAll_mk1 (shut_bool Try.underlying4 _), (trodAll_cons_mk (Below.trod laidOut (by kernel_rfl) (of_decide_eq_true (by kernel_rfl)) (e0 ▸ k0) bel lt0) (trodAll_cons_mk (shut_int Try.underlying2 w1) trodAll_mk0)), rfl, bel.frame _, fun h => by cases h⟩

theorem holds_StatementOf : Rows.FnExactStatementOfSaid :=
  OpenClaim.holds_of_wide 7 Try.f7 rfl rfl rfl rfl rfl rfl rfl ⟨rfl, rfl, rfl, rfl, rfl⟩ rfl rfl rfl rfl rfl (by kernel_rfl) Try.func7 (by kernel_rfl)
    (of_decide_eq_true (by kernel_rfl)) (by unfold Func.isWrapper; first | (rw [if_pos (by decide +kernel)]; kernel_rfl) | (rw [if_neg (by decide +kernel)]; exact ⟨rfl, rfl⟩))
    (fun os started H enc _ => lifted_StatementOf os started H enc)
#print axioms holds_StatementOf
end Go.Proofs.Ytclnfjpjmelfpaa
