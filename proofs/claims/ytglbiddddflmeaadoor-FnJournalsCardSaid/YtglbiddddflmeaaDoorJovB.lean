

/-
  CommonEvents, of the program and of the reference, and the law.
-/
import Derived.Test.YtglbiddddflmeaaDoorJouN
namespace Go.Proofs.YtglbiddddflmeaaDoor
open Go.RowKit
open Go.Lib hiding intOf
/-- with how many equal events two lists begin -/
def IsCommon (es fs : List Event) (k : Nat) : Prop := k ≤ es.length ∧ k ≤ fs.length ∧ (∀ j, j < k → es[j]? = fs[j]?) ∧ (k = es.length ∨ k = fs.length ∨ es[k]? ≠ fs[k]?)
theorem IsCommon.le {es fs : List Event} {k k' : Nat} (h : IsCommon es fs k) (h' : IsCommon es fs k') : k ≤ k' := by
  rcases Nat.lt_or_ge k' k with hlt | hge
  · obtain ⟨h1, h2, h3, _⟩ := h
    obtain ⟨_, _, _, h4⟩ := h'
    rcases h4 with h4 | h4 | h4
    · omega
    · omega
    · exact absurd (h3 k' hlt) h4
  · exact hge
theorem IsCommon.eq {es fs : List Event} {k k' : Nat} (h : IsCommon es fs k) (h' : IsCommon es fs k') : k = k' := Nat.le_antisymm (h.le h') (h'.le h)
def ComPost (a b : List UInt8) (w : World) (e : Ending) (w' : World) : Prop :=
  ((20000 < a.length ∨ 20000 < b.length) ∧ e = .returned (.tuple #[.int .i64 0, .int .i64 3]) ∧ Ext w w') ∨
  (¬ (20000 < a.length ∨ 20000 < b.length) ∧ ∃ k : Nat, e = .returned (.tuple #[.int .i64 (k : Int), .int .i64 0]) ∧ IsCommon (recS a) (recS b) k ∧ Ext w w')
set_option maxHeartbeats 1000000 in
set_option maxRecDepth 8000 in
theorem c_CommonEvents (a b : List UInt8) (ha : a.length ≤ 1048576) (hb : b.length ≤ 1048576) (w : World) (hg : Glob w) :
    Calls Tryd.prog 20 #[.string (mkB a), .string (mkB b)] w (ComPost a b w) := by
  have hsa : (mkB a).size = a.length := rfl
  have hsb : (mkB b).size = b.length := rfl
  by_cases h : 20000 < a.length
  · go_enter Tryd.func20, Tryd.ntmps20
    go_wp2_with fail
    exact bodyPost_ret (v := .tuple #[.int .i64 0, .int .i64 3]) (by simp [results, Tryd.results20, go_sem]) rfl (.inl ⟨.inl h, rfl, Ext.refl _⟩)
  by_cases h2 : 20000 < b.length
  · go_enter Tryd.func20, Tryd.ntmps20
    go_wp2_with fail
    exact bodyPost_ret (v := .tuple #[.int .i64 0, .int .i64 3]) (by simp [results, Tryd.results20, go_sem]) rfl (.inl ⟨.inr h2, rfl, Ext.refl _⟩)
  have HNO := hide (show ¬ (20000 < a.length ∨ 20000 < b.length) by omega)
  have hla : (recS a).length ≤ 300 := recL_len (splitL 10 a).dropLast maxEv 1
  have hlb : (recS b).length ≤ 300 := recL_len (splitL 10 b).dropLast maxEv 1
  go_enter Tryd.func20, Tryd.ntmps20
  go_wp2_with fail
  refine (c_readJournal a ha _ hg).mono ?_
  rintro e w1 ⟨A, c, rfl, oA, _, hx1⟩
  have hf1 := jour_events A (recS a).length c (textL (recS a) 1).length (sumEs (recS a) 1) w1
  go_wp2_with fail
  refine (c_readJournal b hb _ (hg.ext hx1)).mono ?_
  rintro e w2 ⟨B, d, rfl, oB, _, hx2⟩
  have hf2 := jour_events B (recS b).length d (textL (recS b) 1).length (sumEs (recS b) 1) w2
  have hs1 := (oA.ext hx2).slice event_len
  have hs2 := oB.slice event_len
  have hX2 := hx1.trans hx2
  generalize hes : recS a = es at *
  generalize hfs : recS b = fs at *
  obtain ⟨n, hn⟩ : ∃ n, es.length = n := ⟨_, rfl⟩
  obtain ⟨m, hm⟩ : ∃ m, fs.length = m := ⟨_, rfl⟩
  have HIC := hide (show ∀ k, IsCommon es fs k → IsCommon (recS a) (recS b) k by rw [hes, hfs]; exact fun _ h => h)
  have HN := hide hn
  have HM := hide hm
  rw [hn] at hla hs1 hf1 ⊢
  rw [hm] at hlb hs2 hf2 ⊢
  clear hn hm oA oB hes hfs
  go_wp2_with fail
  clear hf1 hf2
  go_loopw [8] (fun i wr => ∃ k : Nat, k ≤ n ∧ k ≤ m ∧ i = .int .i64 k ∧ Hid (∀ j, j < k → es[j]? = fs[j]?) ∧ Ext w2 wr) (fun i _ => n - (intOf i).toNat)
  case atStart => exact ⟨0, Nat.zero_le _, Nat.zero_le _, rfl, hide (fun j hj => absurd hj (by omega)), Ext.refl _⟩
  case round =>
    obtain ⟨k, hkn, hkm, rfl, HK, hx⟩ := hrel
    have hXr := hX2.trans hx
    by_cases hk1 : k < n
    · by_cases hk2 : k < m
      · have hlt : (k : Int) < min (n : Int) (m : Int) := by omega
        obtain ⟨g1, o1, e, rfl, hg1, hek, hc⟩ := (hs1.ext hx).get hk1
        have p0 := hc 0 _ rfl
        have p1 := hc 1 _ rfl
        have p2 := hc 2 _ rfl
        have p3 := hc 3 _ rfl
        have p4 := hc 4 _ rfl
        clear hc
        obtain ⟨g2, o2, f, rfl, hg2, hfk, hc⟩ := (hs2.ext hx).get hk2
        have q0 := hc 0 _ rfl
        have q1 := hc 1 _ rfl
        have q2 := hc 2 _ rfl
        have q3 := hc 3 _ rfl
        have q4 := hc 4 _ rfl
        clear hc
        simp only [Nat.add_zero] at p0 q0
        obtain ⟨a1, a2, a3, a4, a5⟩ := e
        obtain ⟨b1, b2, b3, b4, b5⟩ := f
        simp only at p0 p1 p2 p3 p4 q0 q1 q2 q3 q4
        have HEK := hide hek
        have HFK := hide hfk
        clear hek hfk
        by_cases cc : a1 = b1
        · subst cc
          by_cases cc : a2 = b2
          · subst cc
            by_cases cc : a3 = b3
            · subst cc
              by_cases cc : a4 = b4
              · subst cc
                by_cases cc : a5 = b5
                · subst cc
                  go_wp2_with fail
                  refine wp_region_ph [] [0, 1, 2, 3, 4, 5, 6, 7, 8, 9, 10, 11, 12, 13, 14, 15, 16, 17, 18, 19, 20] (by kernel_rfl) (by kernel_rfl) (by intro c a w d v h; cases d <;> exact h) ?_
                  simp only [wpPh, pickL, nthO]
                  repeat (go_big_quiet_step (fail))
                  refine wpQuiet_nil ?_
                  go_wp2_with fail
                  go_roundw
                  case rel =>
                    refine ⟨k + 1, by omega, by omega, by go_num, hide (fun j hj => ?_), hx.drew⟩
                    by_cases hjk : j = k
                    · subst hjk; rw [HEK.out, HFK.out]
                    · exact HK.out j (by omega)
                  case measure => simp [intOf]; omega
                · have HCK := hide (show IsCommon es fs k from ⟨by rw [HN.out]; omega, by rw [HM.out]; omega, HK.out, .inr (.inr (fun h => by rw [HEK.out, HFK.out] at h; simp [cc] at h))⟩)
                  go_wp2_with fail
                  refine wp_region_ph [] [0, 1, 2, 3, 4, 5, 6, 7, 8, 9, 10, 11, 12, 13, 14, 15, 16, 17, 18, 19, 20] (by kernel_rfl) (by kernel_rfl) (by intro c a w d v h; cases d <;> exact h) ?_
                  simp only [wpPh, pickL, nthO]
                  repeat (go_big_quiet_step (fail))
                  refine wpQuiet_nil ?_
                  go_wp2_with fail
                  exact bodyPost_ret (v := .tuple #[.int .i64 (k : Int), .int .i64 0]) (by simp [results, Tryd.results20, go_sem]) rfl (.inr ⟨HNO.out, k, rfl, HIC.out k HCK.out, hXr.drew⟩)
              · have HCK := hide (show IsCommon es fs k from ⟨by rw [HN.out]; omega, by rw [HM.out]; omega, HK.out, .inr (.inr (fun h => by rw [HEK.out, HFK.out] at h; simp [cc] at h))⟩)
                go_wp2_with fail
                refine wp_region_ph [] [0, 1, 2, 3, 4, 5, 6, 7, 8, 9, 10, 11, 12, 13, 14, 15, 16, 17, 18, 19, 20] (by kernel_rfl) (by kernel_rfl) (by intro c a w d v h; cases d <;> exact h) ?_
                simp only [wpPh, pickL, nthO]
                repeat (go_big_quiet_step (fail))
                refine wpQuiet_nil ?_
                go_wp2_with fail
                exact bodyPost_ret (v := .tuple #[.int .i64 (k : Int), .int .i64 0]) (by simp [results, Tryd.results20, go_sem]) rfl (.inr ⟨HNO.out, k, rfl, HIC.out k HCK.out, hXr.drew⟩)
            · have HCK := hide (show IsCommon es fs k from ⟨by rw [HN.out]; omega, by rw [HM.out]; omega, HK.out, .inr (.inr (fun h => by rw [HEK.out, HFK.out] at h; simp [cc] at h))⟩)
              go_wp2_with fail
              refine wp_region_ph [] [0, 1, 2, 3, 4, 5, 6, 7, 8, 9, 10, 11, 12, 13, 14, 15, 16, 17, 18, 19, 20] (by kernel_rfl) (by kernel_rfl) (by intro c a w d v h; cases d <;> exact h) ?_
              simp only [wpPh, pickL, nthO]
              repeat (go_big_quiet_step (fail))
              refine wpQuiet_nil ?_
              go_wp2_with fail
              exact bodyPost_ret (v := .tuple #[.int .i64 (k : Int), .int .i64 0]) (by simp [results, Tryd.results20, go_sem]) rfl (.inr ⟨HNO.out, k, rfl, HIC.out k HCK.out, hXr.drew⟩)
          · have HCK := hide (show IsCommon es fs k from ⟨by rw [HN.out]; omega, by rw [HM.out]; omega, HK.out, .inr (.inr (fun h => by rw [HEK.out, HFK.out] at h; simp [cc] at h))⟩)
            go_wp2_with fail
            refine wp_region_ph [] [0, 1, 2, 3, 4, 5, 6, 7, 8, 9, 10, 11, 12, 13, 14, 15, 16, 17, 18, 19, 20] (by kernel_rfl) (by kernel_rfl) (by intro c a w d v h; cases d <;> exact h) ?_
            simp only [wpPh, pickL, nthO]
            repeat (go_big_quiet_step (fail))
            refine wpQuiet_nil ?_
            go_wp2_with fail
            exact bodyPost_ret (v := .tuple #[.int .i64 (k : Int), .int .i64 0]) (by simp [results, Tryd.results20, go_sem]) rfl (.inr ⟨HNO.out, k, rfl, HIC.out k HCK.out, hXr.drew⟩)
        · have HCK := hide (show IsCommon es fs k from ⟨by rw [HN.out]; omega, by rw [HM.out]; omega, HK.out, .inr (.inr (fun h => by rw [HEK.out, HFK.out] at h; simp [cc] at h))⟩)
          go_wp2_with fail
          refine wp_region_ph [] [0, 1, 2, 3, 4, 5, 6, 7, 8, 9, 10, 11, 12, 13, 14, 15, 16, 17, 18, 19, 20] (by kernel_rfl) (by kernel_rfl) (by intro c a w d v h; cases d <;> exact h) ?_
          simp only [wpPh, pickL, nthO]
          repeat (go_big_quiet_step (fail))
          refine wpQuiet_nil ?_
          go_wp2_with fail
          exact bodyPost_ret (v := .tuple #[.int .i64 (k : Int), .int .i64 0]) (by simp [results, Tryd.results20, go_sem]) rfl (.inr ⟨HNO.out, k, rfl, HIC.out k HCK.out, hXr.drew⟩)
      · have hlt : ¬ (k : Int) < min (n : Int) (m : Int) := by omega
        have HCK := hide (show IsCommon es fs k from ⟨by rw [HN.out]; omega, by rw [HM.out]; omega, HK.out, .inr (.inl (by rw [HM.out]; omega))⟩)
        go_wp2_with fail
        refine wp_region_ph [] [0, 1, 2, 3, 4, 5, 6, 7, 8, 9, 10, 11, 12, 13, 14, 15, 16, 17, 18, 19, 20] (by kernel_rfl) (by kernel_rfl) (by intro c a w d v h; cases d <;> exact h) ?_
        simp only [wpPh, pickL, nthO]
        repeat (go_big_quiet_step (fail))
        refine wpQuiet_nil ?_
        go_wp2_with fail
        exact bodyPost_ret (v := .tuple #[.int .i64 (k : Int), .int .i64 0]) (by simp [results, Tryd.results20, go_sem]) rfl (.inr ⟨HNO.out, k, rfl, HIC.out k HCK.out, hXr.drew⟩)
    · have hlt : ¬ (k : Int) < min (n : Int) (m : Int) := by omega
      have HCK := hide (show IsCommon es fs k from ⟨by rw [HN.out]; omega, by rw [HM.out]; omega, HK.out, .inl (by rw [HN.out]; omega)⟩)
      go_wp2_with fail
      refine wp_region_ph [] [0, 1, 2, 3, 4, 5, 6, 7, 8, 9, 10, 11, 12, 13, 14, 15, 16, 17, 18, 19, 20] (by kernel_rfl) (by kernel_rfl) (by intro c a w d v h; cases d <;> exact h) ?_
      simp only [wpPh, pickL, nthO]
      repeat (go_big_quiet_step (fail))
      refine wpQuiet_nil ?_
      go_wp2_with fail
      exact bodyPost_ret (v := .tuple #[.int .i64 (k : Int), .int .i64 0]) (by simp [results, Tryd.results20, go_sem]) rfl (.inr ⟨HNO.out, k, rfl, HIC.out k HCK.out, hXr.drew⟩)
set_option maxHeartbeats 1000000 in
set_option maxRecDepth 8000 in
theorem c_specCommonEvents (a b : List UInt8) (ha : a.length ≤ 1048576) (hb : b.length ≤ 1048576) (w : World) :
    Calls Tryd.prog 19 #[.string (mkB a), .string (mkB b)] w (ComPost a b w) := by
  have hsa : (mkB a).size = a.length := rfl
  have hsb : (mkB b).size = b.length := rfl
  by_cases h : 20000 < a.length
  · go_enter Tryd.func19, Tryd.ntmps19
    go_wp2_with fail
    exact bodyPost_ret (v := .tuple #[.int .i64 0, .int .i64 3]) (by simp [results, Tryd.results19, go_sem]) rfl (.inl ⟨.inl h, rfl, Ext.refl _⟩)
  by_cases h2 : 20000 < b.length
  · go_enter Tryd.func19, Tryd.ntmps19
    go_wp2_with fail
    exact bodyPost_ret (v := .tuple #[.int .i64 0, .int .i64 3]) (by simp [results, Tryd.results19, go_sem]) rfl (.inl ⟨.inr h2, rfl, Ext.refl _⟩)
  have HNO := hide (show ¬ (20000 < a.length ∨ 20000 < b.length) by omega)
  have hla : (recS a).length ≤ 300 := recL_len (splitL 10 a).dropLast maxEv 1
  have hlb : (recS b).length ≤ 300 := recL_len (splitL 10 b).dropLast maxEv 1
  go_enter Tryd.func19, Tryd.ntmps19
  go_wp2_with fail
  refine (c_l32Recover a ha _).mono ?_
  rintro e w1 ⟨A, c, rfl, oA, _, hx1⟩
  generalize (textL (recS a) 1).length = ta at *
  go_wp2_with fail
  refine (c_l32Recover b hb _).mono ?_
  rintro e w2 ⟨B, d, rfl, oB, _, hx2⟩
  generalize (textL (recS b) 1).length = tb at *
  have hs1 := (oA.ext hx2).slice event_len
  have hs2 := oB.slice event_len
  have hX2 := hx1.trans hx2
  generalize hes : recS a = es at *
  generalize hfs : recS b = fs at *
  obtain ⟨n, hn⟩ : ∃ n, es.length = n := ⟨_, rfl⟩
  obtain ⟨m, hm⟩ : ∃ m, fs.length = m := ⟨_, rfl⟩
  have HIC := hide (show ∀ k, IsCommon es fs k → IsCommon (recS a) (recS b) k by rw [hes, hfs]; exact fun _ h => h)
  have HN := hide hn
  have HM := hide hm
  rw [hn] at hla hs1 ⊢
  rw [hm] at hlb hs2 ⊢
  clear hn hm oA oB hes hfs
  go_wp2_with fail
  go_loopw [10] (fun i wr => ∃ k : Nat, k ≤ n ∧ k ≤ m ∧ i = .int .i64 k ∧ Hid (∀ j, j < k → es[j]? = fs[j]?) ∧ Ext w2 wr) (fun i _ => n - (intOf i).toNat)
  case atStart => exact ⟨0, Nat.zero_le _, Nat.zero_le _, rfl, hide (fun j hj => absurd hj (by omega)), Ext.refl _⟩
  case round =>
    obtain ⟨k, hkn, hkm, rfl, HK, hx⟩ := hrel
    have hXr := hX2.trans hx
    by_cases hk1 : k < n
    · by_cases hk2 : k < m
      · have hlt : (k : Int) < min (n : Int) (m : Int) := by omega
        obtain ⟨g1, o1, e, rfl, hg1, hek, hc⟩ := (hs1.ext hx).get hk1
        have p0 := hc 0 _ rfl
        have p1 := hc 1 _ rfl
        have p2 := hc 2 _ rfl
        have p3 := hc 3 _ rfl
        have p4 := hc 4 _ rfl
        clear hc
        obtain ⟨g2, o2, f, rfl, hg2, hfk, hc⟩ := (hs2.ext hx).get hk2
        have q0 := hc 0 _ rfl
        have q1 := hc 1 _ rfl
        have q2 := hc 2 _ rfl
        have q3 := hc 3 _ rfl
        have q4 := hc 4 _ rfl
        clear hc
        simp only [Nat.add_zero] at p0 q0
        obtain ⟨a1, a2, a3, a4, a5⟩ := e
        obtain ⟨b1, b2, b3, b4, b5⟩ := f
        simp only at p0 p1 p2 p3 p4 q0 q1 q2 q3 q4
        have HEK := hide hek
        have HFK := hide hfk
        clear hek hfk
        by_cases cc : a1 = b1
        · subst cc
          by_cases cc : a2 = b2
          · subst cc
            by_cases cc : a3 = b3
            · subst cc
              by_cases cc : a4 = b4
              · subst cc
                by_cases cc : a5 = b5
                · subst cc
                  go_wp2_with fail
                  refine wp_region_ph [] [0, 1, 2, 3, 4, 5, 6, 7, 8, 9, 10, 11, 12, 13, 14, 15, 16, 17] (by kernel_rfl) (by kernel_rfl) (by intro c a w d v h; cases d <;> exact h) ?_
                  simp only [wpPh, pickL, nthO]
                  repeat (go_big_quiet_step (fail))
                  refine wpQuiet_nil ?_
                  go_wp2_with fail
                  go_roundw
                  case rel =>
                    refine ⟨k + 1, by omega, by omega, by go_num, hide (fun j hj => ?_), hx.drew⟩
                    by_cases hjk : j = k
                    · subst hjk; rw [HEK.out, HFK.out]
                    · exact HK.out j (by omega)
                  case measure => simp [intOf]; omega
                · have HCK := hide (show IsCommon es fs k from ⟨by rw [HN.out]; omega, by rw [HM.out]; omega, HK.out, .inr (.inr (fun h => by rw [HEK.out, HFK.out] at h; simp [cc] at h))⟩)
                  go_wp2_with fail
                  refine wp_region_ph [] [0, 1, 2, 3, 4, 5, 6, 7, 8, 9, 10, 11, 12, 13, 14, 15, 16, 17] (by kernel_rfl) (by kernel_rfl) (by intro c a w d v h; cases d <;> exact h) ?_
                  simp only [wpPh, pickL, nthO]
                  repeat (go_big_quiet_step (fail))
                  refine wpQuiet_nil ?_
                  go_wp2_with fail
                  exact bodyPost_ret (v := .tuple #[.int .i64 (k : Int), .int .i64 0]) (by simp [results, Tryd.results19, go_sem]) rfl (.inr ⟨HNO.out, k, rfl, HIC.out k HCK.out, hXr.drew⟩)
              · have HCK := hide (show IsCommon es fs k from ⟨by rw [HN.out]; omega, by rw [HM.out]; omega, HK.out, .inr (.inr (fun h => by rw [HEK.out, HFK.out] at h; simp [cc] at h))⟩)
                go_wp2_with fail
                refine wp_region_ph [] [0, 1, 2, 3, 4, 5, 6, 7, 8, 9, 10, 11, 12, 13, 14, 15, 16, 17] (by kernel_rfl) (by kernel_rfl) (by intro c a w d v h; cases d <;> exact h) ?_
                simp only [wpPh, pickL, nthO]
                repeat (go_big_quiet_step (fail))
                refine wpQuiet_nil ?_
                go_wp2_with fail
                exact bodyPost_ret (v := .tuple #[.int .i64 (k : Int), .int .i64 0]) (by simp [results, Tryd.results19, go_sem]) rfl (.inr ⟨HNO.out, k, rfl, HIC.out k HCK.out, hXr.drew⟩)
            · have HCK := hide (show IsCommon es fs k from ⟨by rw [HN.out]; omega, by rw [HM.out]; omega, HK.out, .inr (.inr (fun h => by rw [HEK.out, HFK.out] at h; simp [cc] at h))⟩)
              go_wp2_with fail
              refine wp_region_ph [] [0, 1, 2, 3, 4, 5, 6, 7, 8, 9, 10, 11, 12, 13, 14, 15, 16, 17] (by kernel_rfl) (by kernel_rfl) (by intro c a w d v h; cases d <;> exact h) ?_
              simp only [wpPh, pickL, nthO]
              repeat (go_big_quiet_step (fail))
              refine wpQuiet_nil ?_
              go_wp2_with fail
              exact bodyPost_ret (v := .tuple #[.int .i64 (k : Int), .int .i64 0]) (by simp [results, Tryd.results19, go_sem]) rfl (.inr ⟨HNO.out, k, rfl, HIC.out k HCK.out, hXr.drew⟩)
          · have HCK := hide (show IsCommon es fs k from ⟨by rw [HN.out]; omega, by rw [HM.out]; omega, HK.out, .inr (.inr (fun h => by rw [HEK.out, HFK.out] at h; simp [cc] at h))⟩)
            go_wp2_with fail
            refine wp_region_ph [] [0, 1, 2, 3, 4, 5, 6, 7, 8, 9, 10, 11, 12, 13, 14, 15, 16, 17] (by kernel_rfl) (by kernel_rfl) (by intro c a w d v h; cases d <;> exact h) ?_
            simp only [wpPh, pickL, nthO]
            repeat (go_big_quiet_step (fail))
            refine wpQuiet_nil ?_
            go_wp2_with fail
            exact bodyPost_ret (v := .tuple #[.int .i64 (k : Int), .int .i64 0]) (by simp [results, Tryd.results19, go_sem]) rfl (.inr ⟨HNO.out, k, rfl, HIC.out k HCK.out, hXr.drew⟩)
        · have HCK := hide (show IsCommon es fs k from ⟨by rw [HN.out]; omega, by rw [HM.out]; omega, HK.out, .inr (.inr (fun h => by rw [HEK.out, HFK.out] at h; simp [cc] at h))⟩)
          go_wp2_with fail
          refine wp_region_ph [] [0, 1, 2, 3, 4, 5, 6, 7, 8, 9, 10, 11, 12, 13, 14, 15, 16, 17] (by kernel_rfl) (by kernel_rfl) (by intro c a w d v h; cases d <;> exact h) ?_
          simp only [wpPh, pickL, nthO]
          repeat (go_big_quiet_step (fail))
          refine wpQuiet_nil ?_
          go_wp2_with fail
          exact bodyPost_ret (v := .tuple #[.int .i64 (k : Int), .int .i64 0]) (by simp [results, Tryd.results19, go_sem]) rfl (.inr ⟨HNO.out, k, rfl, HIC.out k HCK.out, hXr.drew⟩)
      · have hlt : min (n : Int) (m : Int) = (m : Int) := by omega
        have HCK := hide (show IsCommon es fs k from ⟨by rw [HN.out]; omega, by rw [HM.out]; omega, HK.out, .inr (.inl (by rw [HM.out]; omega))⟩)
        go_wp2_with fail
        refine wp_region_ph [] [0, 1, 2, 3, 4, 5, 6, 7, 8, 9, 10, 11, 12, 13, 14, 15, 16, 17] (by kernel_rfl) (by kernel_rfl) (by intro c a w d v h; cases d <;> exact h) ?_
        simp only [wpPh, pickL, nthO]
        repeat (go_big_quiet_step (fail))
        refine wpQuiet_nil ?_
        go_wp2_with fail
        exact bodyPost_ret (v := .tuple #[.int .i64 (k : Int), .int .i64 0]) (by simp [results, Tryd.results19, go_sem]) rfl (.inr ⟨HNO.out, k, rfl, HIC.out k HCK.out, hXr.drew⟩)
    · have hlt : min (n : Int) (m : Int) = (n : Int) := by omega
      have HCK := hide (show IsCommon es fs k from ⟨by rw [HN.out]; omega, by rw [HM.out]; omega, HK.out, .inl (by rw [HN.out]; omega)⟩)
      go_wp2_with fail
      refine wp_region_ph [] [0, 1, 2, 3, 4, 5, 6, 7, 8, 9, 10, 11, 12, 13, 14, 15, 16, 17] (by kernel_rfl) (by kernel_rfl) (by intro c a w d v h; cases d <;> exact h) ?_
      simp only [wpPh, pickL, nthO]
      repeat (go_big_quiet_step (fail))
      refine wpQuiet_nil ?_
      go_wp2_with fail
      exact bodyPost_ret (v := .tuple #[.int .i64 (k : Int), .int .i64 0]) (by simp [results, Tryd.results19, go_sem]) rfl (.inr ⟨HNO.out, k, rfl, HIC.out k HCK.out, hXr.drew⟩)
set_option maxHeartbeats 1000000 in
set_option maxRecDepth 8000 in
theorem law_CommonEvents (a b : List UInt8) (w : World) (hg : Glob w) :
    Calls Tryd.prog 5 #[.string (mkB a), .string (mkB b)] w (Ret (.bool true) w) := by
  have hsa : (mkB a).size = a.length := rfl
  have hsb : (mkB b).size = b.length := rfl
  by_cases h : 1048576 < a.length
  · go_enter Tryd.func5, Tryd.ntmps5
    go_wp2_with fail
    go_ret
    exact Ret.bool rfl (Ext.refl _)
  by_cases h2 : 1048576 < b.length
  · go_enter Tryd.func5, Tryd.ntmps5
    go_wp2_with fail
    go_ret
    exact Ret.bool rfl (Ext.refl _)
  have ha : a.length ≤ 1048576 := by omega
  have hb : b.length ≤ 1048576 := by omega
  go_enter Tryd.func5, Tryd.ntmps5
  go_wp2_with fail
  refine (c_specCommonEvents a b ha hb _).mono ?_
  intro e w1 h1
  rcases h1 with ⟨hbig, rfl, hx1⟩ | ⟨hsm, k, rfl, hk, hx1⟩
  · have HBIG := hide hbig
    clear hbig
    go_wp2_with fail
    refine (c_CommonEvents a b ha hb _ (hg.ext hx1)).mono ?_
    intro e w2 h2
    rcases h2 with ⟨_, rfl, hx2⟩ | ⟨hsm, _⟩
    · go_wp2_with fail
      go_ret
      exact Ret.bool rfl (hx1.trans hx2)
    · exact absurd HBIG.out hsm
  · have HSM := hide hsm
    have HK := hide hk
    clear hsm hk
    go_wp2_with fail
    refine (c_CommonEvents a b ha hb _ (hg.ext hx1)).mono ?_
    intro e w2 h2
    rcases h2 with ⟨hbig, _⟩ | ⟨_, k', rfl, hk', hx2⟩
    · exact absurd hbig HSM.out
    · obtain rfl := hk'.eq HK.out
      go_wp2_with fail
      go_ret
      exact Ret.bool rfl (hx1.trans hx2)
end Go.Proofs.YtglbiddddflmeaaDoor
