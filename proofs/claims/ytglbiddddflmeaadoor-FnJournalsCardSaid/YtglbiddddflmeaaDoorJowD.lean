


/-
  FnCommon: the law on two journals.
-/
import Derived.Test.YtglbiddddflmeaaDoorJowC
import Derived.Test.YtglbiddddflmeaaDoorCode
namespace Go.Proofs.YtglbiddddflmeaaDoor
open Go.RowKit
open Go.Lib hiding intOf
theorem IsCommon.symm {es fs : List Event} {k : Nat} (h : IsCommon es fs k) : IsCommon fs es k := by
  obtain ⟨h1, h2, h3, h4⟩ := h
  refine ⟨h2, h1, fun j hj => (h3 j hj).symm, ?_⟩
  rcases h4 with h4 | h4 | h4
  · exact .inr (.inl h4)
  · exact .inl h4
  · exact .inr (.inr (Ne.symm h4))
theorem retRec_ok {l : List UInt8} {w w' : World} {e : Ending} (hl : ¬ 20000 < l.length) (h : RetRec l w e w') :
    ∃ A c, e = .returned (.tuple #[.slice A (recS l).length c, .int .i64 ((l.length : Int) - longL l), .int .i64 0]) ∧ SliceOf w' 5 Event.cells A (recS l).length c (recS l) ∧ Ext w w' := by
  obtain ⟨A, c, he, ho, _, hx⟩ := h
  have hr : recR l = (recS l, (l.length : Int) - longL l, 0) := by unfold recR; rw [if_neg hl]
  rw [hr] at he ho
  exact ⟨A, c, he, ho.slice event_len, hx⟩
set_option maxHeartbeats 2000000 in
set_option maxRecDepth 8000 in
theorem law_Common (A : Option Addr) (n c : Nat) (bs : List Int) (w : World) (hbs : SliceOf w 1 byteC A n c bs) (hbd : ∀ z ∈ bs, 0 ≤ z ∧ z ≤ 255) (hg : Glob w) :
    Calls Tryd.prog 10 #[.slice A n c] w (Ret (.bool true) w) := by
  have HD := hide hbd
  clear hbd
  by_cases hbig : (4096 : Int) < n
  · have hb : decide ((4096 : Int) < n) = true := by simpa using hbig
    go_enter Tryd.func10, Tryd.ntmps10
    go_wp2_with fail
    refine (c_big A n c _).mono ?_
    rw [hb]
    rintro e w' ⟨rfl, rfl⟩
    go_wp2_with fail
    go_ret
    exact Ret.bool rfl (Ext.refl _)
  have hb : decide ((4096 : Int) < n) = false := by simpa using hbig
  go_enter Tryd.func10, Tryd.ntmps10
  go_wp2_with fail
  refine (c_big A n c _).mono ?_
  rw [hb]
  rintro e w' ⟨rfl, rfl⟩
  clear hb
  go_wp2_with fail
  refine (c_DrawCommonEvents A n c bs _ hbs HD.out (by omega)).mono ?_
  rintro e w1 ⟨a, b, rfl, ha, hb, hx1⟩
  have hg1 := hg.ext hx1
  have ha' : a.length ≤ 1048576 := by omega
  have hb' : b.length ≤ 1048576 := by omega
  go_wp2_with fail
  refine (c_CommonEvents a b ha' hb' _ hg1).mono ?_
  intro e w2 h2
  rcases h2 with ⟨hbig, rfl, hx2⟩ | ⟨hsm, k, rfl, hk, hx2⟩
  · have HBIG := hide hbig
    clear hbig
    go_wp2_with fail
    refine (c_specCommonEvents a b ha' hb' _).mono ?_
    intro e w3 h3
    rcases h3 with ⟨_, rfl, hx3⟩ | ⟨hsm, _⟩
    · go_wp2_with fail
      go_ret
      exact Ret.bool rfl (hx1.trans (hx2.trans hx3))
    · exact absurd HBIG.out hsm
  have HSM := hide hsm
  have HK := hide hk
  have hna : ¬ 20000 < a.length := by omega
  have hnb : ¬ 20000 < b.length := by omega
  clear hsm hk
  go_wp2_with fail
  refine (c_specCommonEvents a b ha' hb' _).mono ?_
  intro e w3 h3
  rcases h3 with ⟨hbig, _⟩ | ⟨_, k', rfl, hk', hx3⟩
  · exact absurd hbig HSM.out
  obtain rfl := hk'.eq HK.out
  clear hk'
  have hX3 := hx1.trans (hx2.trans hx3)
  have hk9 : k' ≤ 300 := by have h := HK.out.1; have h2 : (recS a).length ≤ 300 := recL_len (splitL 10 a).dropLast maxEv 1; omega
  go_wp2_with fail
  refine (c_CommonEvents b a hb' ha' _ (hg.ext hX3)).mono ?_
  intro e w4 h4
  rcases h4 with ⟨hbig, _⟩ | ⟨_, k2, rfl, hk2, hx4⟩
  · exact absurd hbig (by omega)
  obtain rfl := hk2.eq HK.out.symm
  clear hk2
  have hX4 := hX3.trans hx4
  clear hx1 hx2 hx3 hx4
  go_wp2_with fail
  refine (c_RecoverEvents a ha' _ (hg.ext hX4)).mono ?_
  intro e w5 h5
  obtain ⟨A5, c5, rfl, hs5, hx5⟩ := retRec_ok hna h5
  clear h5
  have hX5 := hX4.trans hx5
  go_wp2_with fail
  refine (c_specRecoverEvents a ha' _).mono ?_
  intro e w6 h6
  obtain ⟨A6, c6, rfl, hs6, hx6⟩ := retRec_ok hna h6
  clear h6
  have hX6 := hX5.trans hx6
  go_wp2_with fail
  refine (c_likeOwnEvent _ _ _ _ _ _ (recS a) _ (hs5.ext hx6) hs6).mono ?_
  rintro e w7 ⟨rfl, hx7⟩
  have hX7 := hX6.trans hx7
  have hs7 := hs5.ext (hx6.trans hx7)
  clear hs5 hs6 hx5 hx6 hx7
  go_wp2_with fail
  refine (c_RecoverEvents b hb' _ (hg.ext hX7)).mono ?_
  intro e w8 h8
  obtain ⟨A8, c8, rfl, hs8, hx8⟩ := retRec_ok hnb h8
  clear h8
  have hX8 := hX7.trans hx8
  go_wp2_with fail
  refine (c_specRecoverEvents b hb' _).mono ?_
  intro e w9 h9
  obtain ⟨A9, c9, rfl, hs9, hx9⟩ := retRec_ok hnb h9
  clear h9
  have hX9 := hX8.trans hx9
  go_wp2_with fail
  refine (c_likeOwnEvent _ _ _ _ _ _ (recS b) _ (hs8.ext hx9) hs9).mono ?_
  rintro e w10 ⟨rfl, hx10⟩
  have hX10 := hX9.trans hx10
  have hs1 := hs7.ext (hx8.trans (hx9.trans hx10))
  have hs2 := hs8.ext (hx9.trans hx10)
  clear hs7 hs8 hs9 hx8 hx9 hx10 hX9 hX8 hX7 hX6 hX5 hX4 hX3 hg1 hg HSM
  generalize (longL a : Int) = la at *
  generalize (longL b : Int) = lb at *
  generalize recS a = es at *
  generalize recS b = fs at *
  have hcomm := HK.out
  obtain ⟨hk1, hk2, hk3, hk4⟩ := hcomm
  obtain ⟨np, hnp⟩ : ∃ np, es.length = np := ⟨_, rfl⟩
  obtain ⟨nq, hnq⟩ : ∃ nq, fs.length = nq := ⟨_, rfl⟩
  rw [hnp] at hs1 hk1 hk4 ⊢
  rw [hnq] at hs2 hk2 hk4 ⊢
  have HK3 := hide hk3
  have HK4 := hide hk4
  clear hk3 hk4 HK hnp hnq
  have d1 : decide ((np : Int) < (k2 : Int)) = false := decide_eq_false (by omega)
  have d2 : decide ((nq : Int) < (k2 : Int)) = false := decide_eq_false (by omega)
  go_wp2_with fail
  go_loopw [23] (fun i wr => ∃ j : Nat, j ≤ k2 ∧ i = .int .i64 j ∧ Ext w10 wr) (fun i _ => k2 - (intOf i).toNat)
  case atStart => exact ⟨0, Nat.zero_le _, rfl, Ext.refl _⟩
  case round =>
    obtain ⟨j, hj, rfl, hx⟩ := hrel
    have hXr := hX10.trans hx
    by_cases hlt : j < k2
    · have hef := HK3.out j hlt
      have hlt' : decide ((j : Int) < (k2 : Int)) = true := decide_eq_true (by omega)
      obtain ⟨g1, o1, x, rfl, hg1, hek, hc⟩ := (hs1.ext hx).get (show j < np by omega)
      have p0 := hc 0 _ rfl
      have p1 := hc 1 _ rfl
      have p2 := hc 2 _ rfl
      have p3 := hc 3 _ rfl
      have p4 := hc 4 _ rfl
      clear hc
      obtain ⟨g2, o2, y, rfl, hg2, hfk, hc⟩ := (hs2.ext hx).get (show j < nq by omega)
      have q0 := hc 0 _ rfl
      have q1 := hc 1 _ rfl
      have q2 := hc 2 _ rfl
      have q3 := hc 3 _ rfl
      have q4 := hc 4 _ rfl
      clear hc
      simp only [Nat.add_zero] at p0 q0
      obtain rfl : x = y := by rw [hek, hfk] at hef; injection hef
      clear hek hfk hef
      go_wp2_with fail
      refine wp_region_later (by kernel_rfl) (by kernel_rfl) ?_
      repeat (go_big_quiet_step (fail))
      refine wpQuiet_nil ?_
      intro w12 hx12
      go_wp2_with fail
      go_roundw
      case rel => exact ⟨j + 1, by omega, by go_num, hx.trans hx12⟩
      case measure => simp [intOf]; omega
    · obtain rfl : j = k2 := by omega
      have hlt' : decide ((j : Int) < (j : Int)) = false := decide_eq_false (by omega)
      by_cases e1 : j = np
      · subst e1
        go_wp2_with fail
        refine wp_region_ph [] [0, 1, 2, 3, 4, 5, 6, 7, 8, 9, 10, 11, 12, 13, 14, 15, 16, 17, 18, 19, 20, 21] (by kernel_rfl) (by kernel_rfl) (by intro c a w d v h; cases d <;> exact h) ?_
        simp only [wpPh, pickL, nthO]
        repeat (go_big_quiet_step (fail))
        refine wpQuiet_nil ?_
        go_wp2_with fail
        go_ret
        exact Ret.bool rfl (hXr.drew)
      · have e1' : ((j : Int) == (np : Int)) = false := by rw [beq_eq_false_iff_ne]; omega
        by_cases e2 : j = nq
        · subst e2
          go_wp2_with fail
          refine wp_region_ph [] [0, 1, 2, 3, 4, 5, 6, 7, 8, 9, 10, 11, 12, 13, 14, 15, 16, 17, 18, 19, 20, 21] (by kernel_rfl) (by kernel_rfl) (by intro c a w d v h; cases d <;> exact h) ?_
          simp only [wpPh, pickL, nthO]
          repeat (go_big_quiet_step (fail))
          refine wpQuiet_nil ?_
          go_wp2_with fail
          go_ret
          exact Ret.bool rfl (hXr.drew)
        · have e2' : ((j : Int) == (nq : Int)) = false := by rw [beq_eq_false_iff_ne]; omega
          have hne := (HK4.out.resolve_left e1).resolve_left e2
          have hk1 : j < np := by omega
          have hk2 : j < nq := by omega
          obtain ⟨g1, o1, e, rfl, hg1, hek, hc⟩ := (hs1.ext hx).get hk1
          have p0 := hc 0 _ rfl
          have p1 := hc 1 _ rfl
          have p2 := hc 2 _ rfl
          have p3 := hc 3 _ rfl
          have p4 := hc 4 _ rfl
          clear hc
          obtain ⟨g2, o2, f, rfl, hg2, hfk, hc⟩ := (hs2.ext hx).get hk2
          have q0 := hc 0 _ rfl
          have q1 := hc 1 _ rfl
          have q2 := hc 2 _ rfl
          have q3 := hc 3 _ rfl
          have q4 := hc 4 _ rfl
          clear hc
          simp only [Nat.add_zero] at p0 q0
          obtain ⟨a1, a2, a3, a4, a5⟩ := e
          obtain ⟨b1, b2, b3, b4, b5⟩ := f
          simp only at p0 p1 p2 p3 p4 q0 q1 q2 q3 q4
          rw [hek, hfk] at hne
          have HNE := hide hne
          clear hne hek hfk
          by_cases cc : a1 = b1
          · subst cc
            by_cases cc : a2 = b2
            · subst cc
              by_cases cc : a3 = b3
              · subst cc
                by_cases cc : a4 = b4
                · subst cc
                  by_cases cc : a5 = b5
                  · subst cc
                    exact absurd rfl HNE.out
                  · go_wp2_with fail
                    refine wp_region_ph [] [0, 1, 2, 3, 4, 5, 6, 7, 8, 9, 10, 11, 12, 13, 14, 15, 16, 17, 18, 19, 20, 21] (by kernel_rfl) (by kernel_rfl) (by intro c a w d v h; cases d <;> exact h) ?_
                    simp only [wpPh, pickL, nthO]
                    repeat (go_big_quiet_step (fail))
                    refine wpQuiet_nil ?_
                    go_wp2_with fail
                    go_ret
                    exact Ret.bool rfl (hXr.drew)
                · go_wp2_with fail
                  refine wp_region_ph [] [0, 1, 2, 3, 4, 5, 6, 7, 8, 9, 10, 11, 12, 13, 14, 15, 16, 17, 18, 19, 20, 21] (by kernel_rfl) (by kernel_rfl) (by intro c a w d v h; cases d <;> exact h) ?_
                  simp only [wpPh, pickL, nthO]
                  repeat (go_big_quiet_step (fail))
                  refine wpQuiet_nil ?_
                  go_wp2_with fail
                  go_ret
                  exact Ret.bool rfl (hXr.drew)
              · go_wp2_with fail
                refine wp_region_ph [] [0, 1, 2, 3, 4, 5, 6, 7, 8, 9, 10, 11, 12, 13, 14, 15, 16, 17, 18, 19, 20, 21] (by kernel_rfl) (by kernel_rfl) (by intro c a w d v h; cases d <;> exact h) ?_
                simp only [wpPh, pickL, nthO]
                repeat (go_big_quiet_step (fail))
                refine wpQuiet_nil ?_
                go_wp2_with fail
                go_ret
                exact Ret.bool rfl (hXr.drew)
            · go_wp2_with fail
              refine wp_region_ph [] [0, 1, 2, 3, 4, 5, 6, 7, 8, 9, 10, 11, 12, 13, 14, 15, 16, 17, 18, 19, 20, 21] (by kernel_rfl) (by kernel_rfl) (by intro c a w d v h; cases d <;> exact h) ?_
              simp only [wpPh, pickL, nthO]
              repeat (go_big_quiet_step (fail))
              refine wpQuiet_nil ?_
              go_wp2_with fail
              go_ret
              exact Ret.bool rfl (hXr.drew)
          · go_wp2_with fail
            refine wp_region_ph [] [0, 1, 2, 3, 4, 5, 6, 7, 8, 9, 10, 11, 12, 13, 14, 15, 16, 17, 18, 19, 20, 21] (by kernel_rfl) (by kernel_rfl) (by intro c a w d v h; cases d <;> exact h) ?_
            simp only [wpPh, pickL, nthO]
            repeat (go_big_quiet_step (fail))
            refine wpQuiet_nil ?_
            go_wp2_with fail
            go_ret
            exact Ret.bool rfl (hXr.drew)
end Go.Proofs.YtglbiddddflmeaaDoor
