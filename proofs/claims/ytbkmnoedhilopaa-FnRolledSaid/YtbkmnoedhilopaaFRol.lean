

/-
  FnRolled: for every code the law returns true and the code reads as before.
-/
import Derived.Test.YtbkmnoedhilopaaDrawW
import Derived.Test.YtbkmnoedhilopaaTermsR
import Derived.Test.YtbkmnoedhilopaaTermsK
import Derived.Test.YtbkmnoedhilopaaCode
namespace Go.Proofs.Ytbkmnoedhilopaa
open Go.RowKit Go.ChangeShapes Go.WideShapes Go.ChangeAt Go.Deep Go.Joins
theorem roll_law (band percent price : Int) (ts : List Tier) (cs th : List Int) : ∃ R C B : Int, rollR band percent price ts cs th = (R, C, B) ∧ ((B != 0) = true ∨
    (B = 0 ∧ isTermsB band percent price ts = true ∧ cs.length ≤ 48 ∧ cs.length = th.length ∧ allB cs (-30000) 30000 = true ∧ allB th 0 1000000000 = true ∧ roll band percent price ts (cs.zip th) 0 0 = (R, C))) := by
  rcases roll_ways band percent price ts cs th with ⟨_, hr⟩ | ⟨_, _, hr⟩ | ⟨_, _, _, hr⟩ | ⟨_, _, _, _, hr⟩ | ⟨hT, h1, h2, h3, h4, hr⟩
  · exact ⟨_, _, _, hr, .inl (by decide)⟩
  · exact ⟨_, _, _, hr, .inl (by decide)⟩
  · exact ⟨_, _, _, hr, .inl (by decide)⟩
  · exact ⟨_, _, _, hr, .inl (by decide)⟩
  · exact ⟨_, _, _, hr, .inr ⟨rfl, hT, h1, h2, h3, h4, rfl⟩⟩
set_option maxHeartbeats 2000000 in
theorem law_Rolled (A : Option Addr) (n c : Nat) (bs : List Int) (w : World) (hbs : SliceOf w 1 byteC A n c bs) (hbd : ∀ z ∈ bs, 0 ≤ z ∧ z ≤ 255) :
    Calls Try.prog 12 #[.slice A n c] w (Ret (.bool true) w) := by
  have HD := hide hbd
  clear hbd
  by_cases hbig : (4096 : Int) < n
  · have hb : decide ((4096 : Int) < n) = true := by simpa using hbig
    go_enter Try.func12, Try.ntmps12
    go_wp2_with fail
    refine (c_big A n c _).mono ?_
    rw [hb]
    rintro e w' ⟨rfl, rfl⟩
    go_wp2_with fail
    go_ret
    exact Ret.bool rfl (Ext.refl _)
  have hb : decide ((4096 : Int) < n) = false := by simpa using hbig
  go_enter Try.func12, Try.ntmps12
  go_wp2_with fail
  refine (c_big A n c _).mono ?_
  rw [hb]
  rintro e w' ⟨rfl, rfl⟩
  clear hb
  go_wp2_with fail
  refine (c_DrawRollBalance A n c bs _ hbs HD.out (by omega)).mono ?_
  rintro e w1 ⟨band, percent, price, A', n', c', ts, A1, n1, c1, cs, A2, n2, c2, th, rfl, hs, hcs, hth, hx1⟩
  obtain ⟨R, C, B, hR1, hways⟩ := roll_law band percent price ts cs th
  have HR1 := hide hR1
  have HW := hide hways
  clear hR1 hways
  go_wp2_with fail
  refine (c_RollBalance band percent price A' n' c' ts _ (hs.ext (Ext.alloc _ _)) A1 A2 n1 c1 n2 c2 cs th (hcs.ext (Ext.alloc _ _)) (hth.ext (Ext.alloc _ _))).mono ?_
  rw [HR1.out]
  rintro e w2 ⟨rfl, hx2⟩
  have hz2 := hx2.size
  simp at hz2
  have hz2' : w1.heap.size < w2.heap.size := by omega
  have hb2 : ∀ j, w2.cell? ⟨w1.heap.size, j, none⟩ = (w1.alloc (.cells #[.int .i64 band, .int .i64 percent, .int .i64 price, .slice A' n' c'] 29)).cell? ⟨w1.heap.size, j, none⟩ := fun j => hx2.cell _ _ (by simp)
  go_wp2_with fail
  refine (c_specRollBalance band percent price A' n' c' ts _ (hs.ext hx2.box) A1 A2 n1 c1 n2 c2 cs th (hcs.ext hx2.box) (hth.ext hx2.box)).mono ?_
  rw [HR1.out]
  rintro e w3 ⟨rfl, hx3⟩
  have hx23 := hx2.trans hx3
  clear hb2
  rcases HW.out with hB | ⟨rfl, hT, hn1, hn2, h3, h4, hroll⟩
  · go_wp2_with fail
    go_ret
    exact Ret.bool rfl (hx1.trans hx23.box)
  · have V := valid_of hT
    have HT := hide hT
    have HR := hide hroll
    have H3 := hide h3
    have H4 := hide h4
    have hl1 := hcs.len
    have hl2 := hth.len
    have hn48 : n1 ≤ 48 := by omega
    have hn12 : n1 ≤ n2 := by omega
    have hn21 : n2 ≤ n1 := by omega
    have HL1 := hide hl1
    have HL2 := hide hl2
    clear hT hroll h3 h4 hn1 hn2 hl1 hl2
    go_wp2_with fail
    go_loopw [12, 13, 14] (fun b s i wr => ∃ (k : Nat) (B S : Int), k ≤ n1 ∧ b = .int .i64 B ∧ s = .int .i64 S ∧ i = .int .i64 k ∧ -(30000 * (k : Int)) ≤ B ∧ B ≤ 30000 * (k : Int) ∧ 0 ≤ S ∧ S ≤ 10000000000000001 * (k : Int) ∧ Hid (roll band percent price ts ((cs.zip th).drop k) B S = (R, C)) ∧ Ext w3 wr) (fun _ _ i _ => n1 - (intOf i).toNat)
    case atStart => exact ⟨0, 0, 0, Nat.zero_le _, rfl, rfl, rfl, by omega, by omega, by omega, by omega, hide (by simpa using HR.out), Ext.refl _⟩
    case round =>
      obtain ⟨k, B, S, hk, rfl, rfl, rfl, hB0, hB1, hS0, hS1, HK, hx⟩ := hrel
      have hx0 := hx23.trans hx
      have hzz := hx0.size
      have hz : w1.heap.size < wr.heap.size := by simp at hzz; omega
      clear hzz
      have hbx : ∀ j, wr.cell? ⟨w1.heap.size, j, none⟩ = (w1.alloc (.cells #[.int .i64 band, .int .i64 percent, .int .i64 price, .slice A' n' c'] 29)).cell? ⟨w1.heap.size, j, none⟩ := fun j => hx0.cell _ _ (by simp)
      by_cases hlt : k < n1
      · have hlt2 : k < n2 := by omega
        obtain ⟨b, off, x, rfl, hb, hxk, hc0⟩ := (hcs.ext hx0.box).get1 hlt
        obtain ⟨b', off', y, rfl, hb', hyk, hd0⟩ := (hth.ext hx0.box).get1 hlt2
        obtain ⟨hx00, hx01⟩ := allB_at H3.out hxk
        obtain ⟨hy0, hy1⟩ := allB_at H4.out hyk
        have HK2 := hide (show roll band percent price ts ((cs.zip th).drop (k + 1)) (B + x - excF band percent (B + x) y) (S + chargeF price ts (absI (excF band percent (B + x) y))) = (R, C) by
          have := HK.out
          rw [zip_drop hxk hyk] at this
          exact this)
        clear HK hxk hyk
        have ht := tolF_bd V.band0 V.band1 V.per0 V.per1 hy0 hy1
        obtain ⟨he0, he1⟩ := excF_bd (band := band) (percent := percent) (bal := B + x) (thr := y) (m := 30000 * ((k : Int) + 1)) ht.1 (by omega) (by omega)
        obtain ⟨hr0, hr1⟩ := excF_rest (band := band) (percent := percent) (bal := B + x) (thr := y) (m := 30000 * ((k : Int) + 1)) ht.1 (by omega) (by omega)
        obtain ⟨ha0, ha1⟩ := absI_le he0 he1
        obtain ⟨hq0, hq1⟩ := chargeF_bd V ha0 (by omega)
        have hcash : cashR band percent price ts (B + x) y = (B + x - excF band percent (B + x) y, chargeF price ts (absI (excF band percent (B + x) y)), 0) := by
          unfold cashR
          rw [HT.out, if_neg (by decide), inB_true.2 ⟨by omega, by omega⟩, inB_true.2 ⟨hy0, hy1⟩]
          simp
        have HC := hide hcash
        clear hcash
        have e1 : IntKind.i64.wrap (B + x) = B + x := IntWalk.i64_in _ (by omega)
        go_wp2_with fail
        refine wp_region_ph [([0, 1, 2, 3, 4, 5, 6, 7, 8, 9, 10], 11)] [12, 13, 14, 15, 16, 17, 18] (by kernel_rfl) (by kernel_rfl) (by intro c a w d v h; cases d <;> exact h) ?_
        simp only [wpPh, pickL, nthO]
        repeat (go_big_quiet_step (fail))
        refine wpQuiet_nil ?_
        clear e1
        go_wp2_with fail
        refine (c_CashOut band percent price (B + x) y A' n' c' ts _ (hs.ext hx0.box.drew)).mono ?_
        rw [HC.out]
        generalize excF band percent (B + x) y = E at *
        generalize chargeF price ts (absI E) = CH at *
        generalize B + x - E = B' at *
        rintro e w5 ⟨rfl, hx5⟩
        go_wp2_with fail
        refine ⟨hx5, ?_⟩
        repeat (go_big_quiet_step (fail))
        refine wpQuiet_nil ?_
        go_wp2_with fail
        go_roundw
        case rel => exact ⟨k + 1, _, _, by omega, rfl, rfl, by go_num, by omega, by omega, by omega, by omega, HK2, hx.drew.trans hx5⟩
        case measure => simp [intOf]; omega
      · have hfin := HK.out
        rw [List.drop_of_length_le (by rw [List.length_zip, ← HL1.out, ← HL2.out]; omega)] at hfin
        simp only [roll, Prod.mk.injEq] at hfin
        obtain ⟨rfl, rfl⟩ := hfin
        clear HK
        go_wp2_with fail
        go_ret
        exact Ret.bool rfl (hx1.trans hx0.box)

set_option maxRecDepth 100000 in
theorem lifted_Rolled (os : Os) (started : os.Started) (H : Type) (enc : TypeId × Value → H) :
    ReturnsInHanded {} Try.checked os 12 .any (Rows.fnRolledSpec.pre6 enc Try.prog Try.f12 Rows.fnRolledRow.domain false) (Rows.fnRolledSpec.post enc Try.prog Try.f12 false true false false) := by
  refine returnsInHanded_of_change (C := Try.checked) own started (by kernel_rfl) Try.func12
    (ChangeSpec.witness6 (enc := enc) (C := Try.checked) false ⟨#[], #[.slice none 0 0], []⟩ 8 (by kernel_rfl) (by kernel_rfl) (by kernel_rfl) (by kernel_rfl)) ?_
  intro W base args ds gs before hval0 hW _ _
  have hval : ∀ (j : Nat) t v, Try.f12.params[j]? = some t → args[j]? = some v → Value.okWide Try.prog W .any base t v := hval0
  have hW' := hW
  obtain ⟨p, q, hA0, hV, rfl, hfz, hnd⟩ := hW
  have hA : DataW.TrodAll enc Try.prog W 0 (fun _ => true) true Try.f12.params.toList args.toList ds p := hA0
  rw [Try.params12] at hA hval
  obtain ⟨v0, vs0, d0, ds0, p0, q0, hargs, rfl, rfl, h0, r0⟩ := trodAll_cons hA
  obtain ⟨rfl, rfl, rfl⟩ := trodAll_nil r0
  obtain rfl : args = #[v0] := by cases args; simp_all
  obtain ⟨rfl, rfl⟩ := trodVars_none hV
  have k0 := h0
  have lt0 : ∀ x ∈ p0, x.block < W.heap.size := by obtain ⟨m, hm⟩ := k0; exact DataW.trod_lt m _ _ _ hm
  obtain ⟨A, n, c, bs, e0, hs, hbd⟩ := open_bytes (hval 0 45 v0 rfl rfl) h0
  rw [e0]
  clear hA0 hval0
  refine (law_Rolled A n c bs W hs hbd).mono fun e W' ⟨he, bel⟩ => ?_
  subst he
  rw [e0] at hW'
  exact ⟨_, rfl, _, _, _, [], _, [], hW', trodAll_mk1 (shut_bool Try.underlying4 _), (trodAll_cons_mk (Below.trod laidOut (by kernel_rfl) (of_decide_eq_true (by kernel_rfl)) (e0 ▸ k0) bel lt0) trodAll_mk0), rfl, bel.frame _, fun h => by cases h⟩

theorem holds_Rolled : Rows.FnRolledSaid :=
  OpenClaim.holds_of_wide 12 Try.f12 rfl rfl rfl rfl rfl rfl rfl ⟨rfl, rfl, rfl, rfl, rfl⟩ rfl rfl rfl rfl rfl (by kernel_rfl) Try.func12 (by kernel_rfl)
    (of_decide_eq_true (by kernel_rfl)) (by unfold Func.isWrapper; first | (rw [if_pos (by decide +kernel)]; kernel_rfl) | (rw [if_neg (by decide +kernel)]; exact ⟨rfl, rfl⟩))
    (fun os started H enc _ => lifted_Rolled os started H enc)
#print axioms holds_Rolled
end Go.Proofs.Ytbkmnoedhilopaa
