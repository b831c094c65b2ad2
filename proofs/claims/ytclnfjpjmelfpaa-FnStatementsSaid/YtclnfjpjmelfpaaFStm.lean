

/-
  FnStatements: for every code the law returns true and the code reads as before.
-/
import Derived.Test.YtclnfjpjmelfpaaDrawQ
import Derived.Test.YtclnfjpjmelfpaaLike
import Derived.Test.YtclnfjpjmelfpaaLedS
import Derived.Test.YtclnfjpjmelfpaaCode
namespace Go.Proofs.Ytclnfjpjmelfpaa
open Go.RowKit Go.ChangeShapes Go.WideShapes Go.ChangeAt Go.Deep Go.Joins
theorem stmF_count (acc : Int) (ps : List Posting) (s : Nat) : (stmF acc ps s).length = ps.countP (hitB acc) := by
  induction ps generalizing s with
  | nil => rfl
  | cons p r ih =>
    simp only [stmF, List.countP_cons]
    split <;> simp_all
/-- how many entries the first k accounts' statements hold -/
def cntF (ps : List Posting) : Nat → Nat
  | 0 => 0
  | k + 1 => cntF ps k + (stmF (k : Int) ps 0).length
theorem cntF_cons {p : Posting} {ps : List Posting} (hp : postB p = true) (k : Nat) : cntF (p :: ps) k = cntF ps k + (if p.debit < (k : Int) then 1 else 0) + (if p.credit < (k : Int) then 1 else 0) := by
  simp only [postB, Bool.and_eq_true, inB_true, bne_iff_ne, ne_eq] at hp
  obtain ⟨⟨⟨⟨h1, h2⟩, h3⟩, _⟩, _⟩ := hp
  induction k with
  | zero => simp only [cntF]; rw [if_neg (by omega), if_neg (by omega)]
  | succ k ih =>
    simp only [cntF]
    rw [ih, stmF_count, stmF_count, List.countP_cons]
    have e1 : (if hitB (k : Int) p = true then 1 else 0) + (if p.debit < (k : Int) then 1 else 0) + (if p.credit < (k : Int) then 1 else 0) = (if p.debit < ((k + 1 : Nat) : Int) then 1 else 0) + (if p.credit < ((k + 1 : Nat) : Int) then 1 else 0 : Nat) := by
      simp only [hitB, Bool.or_eq_true, beq_iff_eq]
      split <;> split <;> split <;> split <;> split <;> omega
    omega
theorem cntF_all {ps : List Posting} (h : ps.all postB = true) : cntF ps 24 = 2 * ps.length := by
  induction ps with
  | nil => rfl
  | cons p r ih =>
    rw [List.all_cons, Bool.and_eq_true] at h
    rw [cntF_cons h.1, ih h.2]
    have hp := h.1
    simp only [postB, Bool.and_eq_true, inB_true, bne_iff_ne, ne_eq] at hp
    obtain ⟨⟨⟨⟨h1, h2⟩, h3⟩, _⟩, _⟩ := hp
    rw [if_pos (by omega), if_pos (by omega), List.length_cons]
    omega
theorem stm_law (acc : Int) (ps : List Posting) : ∃ (R : List Int) (B : Int), stmR acc ps = (R, B) ∧ ((B != 0) = true ∨ (B = 0 ∧ ledB ps = true)) := by
  unfold stmR
  split
  · exact ⟨_, _, rfl, .inl (by decide)⟩
  · rename_i h
    split
    · exact ⟨_, _, rfl, .inl (by decide)⟩
    · exact ⟨_, _, rfl, .inr ⟨rfl, by simpa using h⟩⟩

set_option maxHeartbeats 2000000 in
theorem law_Statements (A : Option Addr) (n c : Nat) (bs : List Int) (w : World) (hbs : SliceOf w 1 byteC A n c bs) (hbd : ∀ z ∈ bs, 0 ≤ z ∧ z ≤ 255) :
    Calls Try.prog 5 #[.slice A n c] w (Ret (.bool true) w) := by
  have HD := hide hbd
  clear hbd
  by_cases hbig : (4096 : Int) < n
  · have hb : decide ((4096 : Int) < n) = true := by simpa using hbig
    go_enter Try.func5, Try.ntmps5
    go_wp2_with fail
    refine (c_big A n c _).mono ?_
    rw [hb]
    rintro e w' ⟨rfl, rfl⟩
    go_wp2_with fail
    go_ret
    exact Ret.bool rfl (Ext.refl _)
  have hb : decide ((4096 : Int) < n) = false := by simpa using hbig
  go_enter Try.func5, Try.ntmps5
  go_wp2_with fail
  refine (c_big A n c _).mono ?_
  rw [hb]
  rintro e w' ⟨rfl, rfl⟩
  clear hb
  go_wp2_with fail
  refine (c_DrawStatementOf A n c bs _ hbs HD.out (by omega)).mono ?_
  rintro e w1 ⟨A', n', c', ps, acc, rfl, hn', hs, hx1⟩
  obtain ⟨R, B, hR, hways⟩ := stm_law acc ps
  have HR := hide hR
  have HW := hide hways
  clear hR hways
  go_wp2_with fail
  refine (c_StatementOf acc A' n' c' ps _ hs).mono ?_
  rw [HR.out]
  rintro e w2 ⟨A2, n2, c2, g2, rfl, hn2, hc2, hg2, ho2, hx2⟩
  go_wp2_with fail
  refine (c_specStatementOf acc A' n' c' ps _ (hs.ext hx2)).mono ?_
  rw [HR.out]
  rintro e w3 ⟨A3, n3, c3, g3, rfl, hn3, hc3, hg3, ho3, hx3⟩
  have hx13 := hx2.trans hx3
  go_wp2_with fail
  refine (c_likeInts _ _ _ _ _ _ R _ ((ho2.ext hx3).slice intC_len hn2 hc2) (ho3.slice intC_len hn3 hc3)).mono ?_
  rintro e w4 ⟨rfl, hx4⟩
  have hx14 := hx13.trans hx4
  rcases HW.out with hB | ⟨rfl, hled⟩
  · go_wp2_with fail
    go_ret
    exact Ret.bool rfl (hx1.trans hx14)
  · obtain ⟨hl1, hl2⟩ := ledB_true hled
    have hlen := hs.len
    have hn3' : n' ≤ 300 := by omega
    have HLED := hide hled
    have HC := hide (cntF_all (List.all_eq_true.2 hl2))
    have HLEN := hide hlen
    have hmx := hs.max
    have hcp := hs.cap
    clear hled hl1 hl2 hlen
    go_wp2_with fail
    go_loopw [9, 10] (fun q i wr => ∃ (k m : Nat), k ≤ 24 ∧ q = .int .i64 m ∧ i = .int .i64 k ∧ m ≤ 300 * k ∧ Hid (m = cntF ps k) ∧ Ext w4 wr) (fun _ i _ => 24 - (intOf i).toNat)
    case atStart => exact ⟨0, 0, by omega, rfl, rfl, by omega, hide rfl, Ext.refl _⟩
    case round =>
      obtain ⟨k, m, hk, rfl, rfl, hm, HK, hx⟩ := hrel
      have hx0 := hx14.trans hx
      by_cases hlt : k < 24
      · have hst : stmR (k : Int) ps = (stmF (k : Int) ps 0, 0) := by
          unfold stmR
          rw [HLED.out, if_neg (by decide), inB_true.2 ⟨by omega, by omega⟩, if_neg (by decide)]
        have HS := hide hst
        have hlt' : decide ((k : Int) < 24) = true := by simp; omega
        have hsl := stmF_len (k : Int) ps 0
        have hsl' : (stmF (k : Int) ps 0).length ≤ 300 := by have := HLEN.out; omega
        clear hst hsl
        go_wp2_with fail
        refine (c_StatementOf (k : Int) A' n' c' ps _ (hs.ext hx0)).mono ?_
        rw [HS.out]
        rintro e w5 ⟨A5, n5, c5, g5, rfl, hn5, hc5, hg5, ho5, hx5⟩
        have hn5' := ho5.1
        have HN5 := hide hn5'
        have hb5 : n5 ≤ 300 := by rw [hn5']; exact hsl'
        clear hn5' hsl'
        have e1 : IntKind.i64.wrap ((m : Int) + (n5 : Int)) = (m : Int) + (n5 : Int) := IntWalk.i64_in _ (by omega)
        go_wp2_with fail
        go_roundw
        case rel => exact ⟨k + 1, m + n5, by omega, by first | rfl | go_num, by first | rfl | go_num, by omega, hide (by simp only [cntF]; rw [HK.out, HN5.out]), hx.trans hx5⟩
        case measure => simp [intOf]; omega
      · have hk24 : k = 24 := by omega
        subst hk24
        have hmm : m = 2 * n' := by rw [HK.out, HC.out, HLEN.out]
        subst hmm
        have hlt' : decide (((24 : Nat) : Int) < 24) = false := by decide
        clear HK
        go_wp2_with fail
        refine (c_DrawIsPosting A n c bs _ (hbs.ext (hx1.trans hx0)) HD.out (by omega)).mono ?_
        rintro e w6 ⟨d, q, g, z, rfl, hx6⟩
        have e2 : IntKind.i64.wrap (2 * (n' : Int)) = 2 * (n' : Int) := IntWalk.i64_in _ (by omega)
        have hR6 := Row.new w6 25 [.int .i64 d, .int .i64 q, .int .i64 g, .int .i64 z]
        have k0 := hR6.cell 0
        have k1 := hR6.cell 1
        have k2 := hR6.cell 2
        have k3 := hR6.cell 3
        simp at k0 k1 k2 k3
        have hl6 := hR6.lt
        clear hR6
        go_wp2_with fail
        refine wp_region_ph [([0, 1, 2, 3, 4, 5, 6, 8], 7), ([], 9)] [10, 11, 12] (by kernel_rfl) (by kernel_rfl) (by intro c a w d v h; cases d <;> exact h) ?_
        simp only [wpPh, pickL, nthO]
        repeat (go_big_quiet_step (fail))
        refine wpQuiet_nil ?_
        go_wp2_with fail
        refine (c_IsPosting ⟨d, q, g, z⟩ _).mono ?_
        rintro e w7 ⟨rfl, hx7⟩
        go_wp2_with fail
        refine ⟨hx7, wpQuiet_nil ?_⟩
        go_wp2_with fail
        refine (c_specIsPosting ⟨d, q, g, z⟩ _).mono ?_
        rintro e w8 ⟨rfl, hx8⟩
        go_wp2_with fail
        refine ⟨hx8, ?_⟩
        repeat (go_big_quiet_step (fail))
        refine wpQuiet_nil ?_
        go_wp2_with fail
        go_ret
        exact Ret.bool rfl ((hx1.trans hx0).trans (hx6.trans ((Ext.alloc _ _).drew.trans (hx7.trans hx8))))

set_option maxRecDepth 100000 in
theorem lifted_Statements (os : Os) (started : os.Started) (H : Type) (enc : TypeId × Value → H) :
    ReturnsInHanded {} Try.checked os 5 .any (Rows.fnStatementsSpec.pre6 enc Try.prog Try.f5 Rows.fnStatementsRow.domain false) (Rows.fnStatementsSpec.post enc Try.prog Try.f5 false true false false) := by
  refine returnsInHanded_of_change (C := Try.checked) own started (by kernel_rfl) Try.func5
    (ChangeSpec.witness6 (enc := enc) (C := Try.checked) false ⟨#[], #[.slice none 0 0], []⟩ 8 (by kernel_rfl) (by kernel_rfl) (by kernel_rfl) (by kernel_rfl)) ?_
  intro W base args ds gs before hval0 hW _ _
  have hval : ∀ (j : Nat) t v, Try.f5.params[j]? = some t → args[j]? = some v → Value.okWide Try.prog W .any base t v := hval0
  have hW' := hW
  obtain ⟨p, q, hA0, hV, rfl, hfz, hnd⟩ := hW
  have hA : DataW.TrodAll enc Try.prog W 0 (fun _ => true) true Try.f5.params.toList args.toList ds p := hA0
  rw [Try.params5] at hA hval
  obtain ⟨v0, vs0, d0, ds0, p0, q0, hargs, rfl, rfl, h0, r0⟩ := trodAll_cons hA
  obtain ⟨rfl, rfl, rfl⟩ := trodAll_nil r0
  obtain rfl : args = #[v0] := by cases args; simp_all
  obtain ⟨rfl, rfl⟩ := trodVars_none hV
  have k0 := h0
  have lt0 : ∀ x ∈ p0, x.block < W.heap.size := by obtain ⟨m, hm⟩ := k0; exact DataW.trod_lt m _ _ _ hm
  obtain ⟨A, n, c, bs, e0, hs, hbd⟩ := open_bytes (hval 0 35 v0 rfl rfl) h0
  rw [e0]
  clear hA0 hval0
  refine (law_Statements A n c bs W hs hbd).mono fun e W' ⟨he, bel⟩ => ?_
  subst he
  rw [e0] at hW'
  exact ⟨_, rfl, _, _, _, [], _, [], hW', trodAll_mk1 (shut_bool Try.underlying4 _), (trodAll_cons_mk (Below.trod laidOut (by kernel_rfl) (of_decide_eq_true (by kernel_rfl)) (e0 ▸ k0) bel lt0) trodAll_mk0), rfl, bel.frame _, fun h => by cases h⟩

theorem holds_Statements : Rows.FnStatementsSaid :=
  OpenClaim.holds_of_wide 5 Try.f5 rfl rfl rfl rfl rfl rfl rfl ⟨rfl, rfl, rfl, rfl, rfl⟩ rfl rfl rfl rfl rfl (by kernel_rfl) Try.func5 (by kernel_rfl)
    (of_decide_eq_true (by kernel_rfl)) (by unfold Func.isWrapper; first | (rw [if_pos (by decide +kernel)]; kernel_rfl) | (rw [if_neg (by decide +kernel)]; exact ⟨rfl, rfl⟩))
    (fun os started H enc _ => lifted_Statements os started H enc)
#print axioms holds_Statements
end Go.Proofs.Ytclnfjpjmelfpaa
