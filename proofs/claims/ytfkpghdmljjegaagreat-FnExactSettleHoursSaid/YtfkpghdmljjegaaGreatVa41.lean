/-
  FnExactSettleHours: for every input the law returns true and its arguments read as before. No condition.
-/
import Derived.Test.YtfkpghdmljjegaaGreatVa30
import Derived.Test.YtfkpghdmljjegaaGreatVa34
import Derived.Test.YtfkpghdmljjegaaGreatVa39
import Derived.Test.YtfkpghdmljjegaaGreatVa40
namespace Go.Proofs.YtfkpghdmljjegaaGreat
open Go.RowKit Go.ChangeShapes Go.WideShapes Go.ChangeAt Go.Deep Go.Joins
/-- postings and a code -/
def KPC (R : List Posting × Int) : Value → World → Prop := fun v w => ∃ a, v = .tuple #[a, .int .i64 R.2] ∧ KSl 4 Posting.cells R.1 a w
theorem stKPC (R : List Posting × Int) : stK (KPC R) := fun _ _ _ ⟨a, h, h1⟩ hx => ⟨a, h, stKSl _ _ _ _ _ _ h1 hx⟩
theorem retoc_k {R : List Posting × Int} {w w' : World} {e : Ending} (h : RetOC 188 4 Posting.cells R w e w') (hl : R.1.length ≤ 300) : ∃ v, e = .returned v ∧ KPC R v w' ∧ Ext w w' := by
  obtain ⟨v, l, z, rfl, ho, hx, HP⟩ := h
  have e := HP.out
  subst e
  obtain ⟨A, c, rfl, hs⟩ := ho.sl post_len (by have : l.length ≤ 300 := hl; omega)
  exact ⟨_, rfl, ⟨_, rfl, A, l.length, c, rfl, hs⟩, hx⟩
theorem k_spec {ns : List Node} {ps : List Pipe} {xs : List Contract} {L : List Nomination} {h : Int} {rs : List RS} {band percent price : Int} {ts : List Tier} {v1 v3 v5 v8 v10 : Value} {w : World} (k1 : KNet ns ps v1 w) (k3 : KSl 8 Contract.cells xs v3 w) (k5 : KSl 4 Nomination.cells L v5 w) (k8 : KRS rs v8 w) (k10 : KTm band percent price ts v10 w) (hnm : ∀ x ∈ ns, x.name.size ≤ 1048576) :
    Calls Tryz.prog 47 #[v1, v3, v5, .int .i64 h, v8, v10] w (fun e w' => ∃ v, e = .returned v ∧ KPC (hsV ns.length ns ps xs L h rs band percent price ts) v w' ∧ Ext w w') := by
  obtain ⟨B1, a1, b1, B2, a2, b2, rfl, s1, s2⟩ := k1
  obtain ⟨B3, a3, b3, rfl, s3⟩ := k3
  obtain ⟨B4, a4, b4, rfl, s4⟩ := k5
  obtain ⟨B5, a5, b5, rs', rfl, s5, hm, s5'⟩ := k8
  obtain ⟨B6, a6, b6, rfl, s6⟩ := k10
  obtain rfl := s1.len
  refine (c_specSettleHours B1 B2 _ b1 a2 b2 ns ps B3 a3 b3 xs B4 a4 b4 L h B5 a5 b5 rs' band percent price B6 a6 b6 ts w s1 s2 s3 s4 s5 s5' s6 hnm).mono fun e w' hr => ?_
  rw [hsV_like hm] at hr
  exact retoc_k hr hsV_len
theorem k_impl {ns : List Node} {ps : List Pipe} {xs : List Contract} {L : List Nomination} {h : Int} {rs : List RS} {band percent price : Int} {ts : List Tier} {v1 v3 v5 v8 v10 : Value} {w : World} (k1 : KNet ns ps v1 w) (k3 : KSl 8 Contract.cells xs v3 w) (k5 : KSl 4 Nomination.cells L v5 w) (k8 : KRS rs v8 w) (k10 : KTm band percent price ts v10 w) :
    Calls Tryz.prog 46 #[v1, v3, v5, .int .i64 h, v8, v10] w (fun e w' => ∃ v, e = .returned v ∧ KPC (hsV ns.length ns ps xs L h rs band percent price ts) v w' ∧ Ext w w') := by
  obtain ⟨B1, a1, b1, B2, a2, b2, rfl, s1, s2⟩ := k1
  obtain ⟨B3, a3, b3, rfl, s3⟩ := k3
  obtain ⟨B4, a4, b4, rfl, s4⟩ := k5
  obtain ⟨B5, a5, b5, rs', rfl, s5, hm, s5'⟩ := k8
  obtain ⟨B6, a6, b6, rfl, s6⟩ := k10
  obtain rfl := s1.len
  refine (c_SettleHours B1 B2 _ b1 a2 b2 ns ps B3 a3 b3 xs B4 a4 b4 L h B5 a5 b5 rs' band percent price B6 a6 b6 ts w s1 s2 s3 s4 s5 s5' s6).mono fun e w' hr => ?_
  rw [hsV_like hm] at hr
  exact retoc_k hr hsV_len
set_option maxRecDepth 20000 in
set_option maxHeartbeats 16000000 in
theorem law_SettleHours (A1 A2 : Option Addr) (n1 c1 n2 c2 : Nat) (ns : List Node) (ps : List Pipe) (A : Option Addr) (n c : Nat) (xs : List Contract) (B : Option Addr) (m d : Nat) (L : List Nomination) (h : Int) (R : Option Addr) (nr cr : Nat) (rs : List RS) (band percent price : Int) (K : Option Addr) (kn kc : Nat) (ts : List Tier) (w : World) (h1 : SliceOf w 3 Node.cells A1 n1 c1 ns) (h2 : SliceOf w 5 Pipe.cells A2 n2 c2 ps) (hs : SliceOf w 8 Contract.cells A n c xs) (hL : SliceOf w 4 Nomination.cells B m d L) (hR : SliceOf w 1 RS.cells R nr cr rs) (h6 : ∀ q ∈ rs, SliceOf w 2 Reading.cells q.A q.n q.c q.xs) (hK : SliceOf w 2 Tier.cells K kn kc ts) (hnm : Named0 ns) :
    Calls Tryz.prog 9 #[.agg #[.slice A1 n1 c1, .slice A2 n2 c2], .slice A n c, .slice B m d, .int .i64 h, .slice R nr cr, .agg #[.int .i64 band, .int .i64 percent, .int .i64 price, .slice K kn kc]] w (Ret (.bool true) w) := by
  obtain ⟨W0, HW0⟩ : ∃ W0, Hid ((w.alloc (.cells #[.slice A1 n1 c1, .slice A2 n2 c2] 34)).alloc (.cells #[.int .i64 band, .int .i64 percent, .int .i64 price, .slice K kn kc] 91) = W0) := ⟨_, hide rfl⟩
  have hN : Row W0 w.heap.size 34 [.slice A1 n1 c1, .slice A2 n2 c2] := by rw [← HW0.out]; exact (Row.new w 34 [.slice A1 n1 c1, .slice A2 n2 c2]).ext (Ext.alloc _ _)
  have hT : Row W0 (w.heap.size + 1) 91 [.int .i64 band, .int .i64 percent, .int .i64 price, .slice K kn kc] := by rw [← HW0.out]; exact Row.newG (W := w.alloc (.cells #[.slice A1 n1 c1, .slice A2 n2 c2] 34)) _ [.int .i64 band, .int .i64 percent, .int .i64 price, .slice K kn kc] (by simp)
  have hx0 : Ext w W0 := by rw [← HW0.out]; exact (Ext.alloc _ _).and_alloc _
  have HNM := hide hnm
  have HRS := hide h6
  have hcap := hs.cap
  have hmax := hs.max
  have hcapL := hL.cap
  have hmaxL := hL.max
  have hcapK := hK.cap
  have hmaxK := hK.max
  clear hnm h6
  have hNr := hN.ext ((Ext.refl W0))
  have hb0 := hNr.cell 0
  have hb1 := hNr.cell 1
  simp at hb0 hb1
  have hbl := hNr.lt
  go_enter Tryz.func9, Tryz.ntmps9
  go_wp2_with fail
  rw [HW0.out]
  refine (c_szNetwork A1 A2 n1 c1 n2 c2 ns 1048576 _ (h1.ext hx0) h2.cap h2.max HNM.out (by omega) (by omega)).mono ?_
  rintro e w1 ⟨z, rfl, hx1, rfl | ⟨hz0, hz1, ⟨m1, hnm⟩, m2⟩⟩
  · go_wp2_with fail
    go_ret
    exact Ret.bool rfl (hx0.trans hx1)
  have hz' : ¬ z < 0 := by omega
  clear hNr hb0 hb1 hbl
  go_wp2_with fail
  refine (c_szContractS A n c z _ hcap hmax (by omega) (by omega)).mono ?_
  by_cases hzn : z < (n : Int)
  · rw [if_pos hzn]
    rintro e w' ⟨rfl, rfl⟩
    go_wp2_with fail
    go_ret
    exact Ret.bool rfl (hx0.trans hx1)
  rw [if_neg hzn]
  rintro e w' ⟨rfl, rfl⟩
  have m3 : n ≤ 1048576 := by omega
  have hz'' : ¬ z - (n : Int) < 0 := by omega
  go_wp2_with fail
  refine (c_szNominationS B m d (z - n) _ hcapL hmaxL (by omega) (by omega)).mono ?_
  by_cases hzm : z - (n : Int) < (m : Int)
  · rw [if_pos hzm]
    rintro e w' ⟨rfl, rfl⟩
    go_wp2_with fail
    go_ret
    exact Ret.bool rfl (hx0.trans hx1)
  rw [if_neg hzm]
  rintro e w' ⟨rfl, rfl⟩
  have m4 : m ≤ 1048576 := by omega
  have hz3 : ¬ z - (n : Int) - (m : Int) < 0 := by omega
  have X1 := hx0.trans hx1
  go_wp2_with fail
  refine (c_szReadingSS R nr cr rs (z - n - m) _ (hR.ext X1) (fun q hq => (HRS.out q hq).ext X1) (by omega) (by omega)).mono ?_
  rintro e w2a ⟨z2, rfl, hx2a, rfl | ⟨hy0, hy1, m5, hqn, hsum⟩⟩
  · go_wp2_with fail
    go_ret
    exact Ret.bool rfl (X1.trans hx2a)
  have HQN := hide hqn
  have HSUM := hide hsum
  clear hqn hsum
  have hz4 : ¬ z2 < 0 := by omega
  have hx12 := hx1.trans hx2a
  have hTr := hT.ext (hx12)
  have y0 := hTr.cell 0
  have y1 := hTr.cell 1
  have y2 := hTr.cell 2
  have y3 := hTr.cell 3
  simp at y0 y1 y2 y3
  have hyl := hTr.lt
  go_wp2_with fail
  refine (c_szTerms band percent price z2 K kn kc _ hcapK hmaxK (by omega) (by omega)).mono ?_
  by_cases hzk : z2 < (kn : Int)
  · rw [if_pos hzk]
    rintro e w2 ⟨rfl, hx2⟩
    go_wp2_with fail
    go_ret
    exact Ret.bool rfl ((hx0.trans hx12).trans hx2)
  rw [if_neg hzk]
  rintro e w2 ⟨rfl, hx2⟩
  have m6 : kn ≤ 1048576 := by omega
  have hz5 : ¬ z2 - (kn : Int) < 0 := by omega
  clear hTr y0 y1 y2 y3 hyl
  have HNS := hide (show ∀ x ∈ ns, x.name.size ≤ 1048576 from fun x hx => named_sz hnm x hx)
  have HL1 := hide h1.len
  have HL2 := hide h2.len
  have HL3 := hide hs.len
  have HL4 := hide hL.len
  have HL5 := hide hR.len
  have HL6 := hide hK.len
  have l1 : ns.length ≤ 1048576 := by rw [← HL1.out]; exact m1
  have l2 : ps.length ≤ 1048576 := by rw [← HL2.out]; exact m2
  have l3 : xs.length ≤ 1048576 := by rw [← HL3.out]; exact m3
  have l4 : L.length ≤ 1048576 := by rw [← HL4.out]; exact m4
  have l5 : rs.length ≤ 1048576 := by rw [← HL5.out]; exact m5
  have l6 : ts.length ≤ 1048576 := by rw [← HL6.out]; exact m6
  obtain ⟨RR, HRR⟩ : ∃ RR, Hid (hsV ns.length ns ps xs L h rs band percent price ts = RR) := ⟨_, hide rfl⟩
  have hsm : RR.1.length ≤ 300 := by rw [← HRR.out]; exact hsV_len
  have hx02 := hx12.trans hx2
  have X2 := hx0.trans hx02
  clear hnm hz0 hz1 hz' hz'' hz3 hz4 hzn hzm hzk hy0 hy1 X1 hx12 hx1 hx2a hx2
  go_wp2_with fail
  refine wp_region_KP [KC (.agg #[.slice A1 n1 c1, .slice A2 n2 c2]), KNet ns ps, KC (.slice A n c), KSl 8 Contract.cells xs, KC (.slice B m d), KSl 4 Nomination.cells L, KC (.int .i64 h), KC (.slice R nr cr), KRS rs, KC (.agg #[.int .i64 band, .int .i64 percent, .int .i64 price, .slice K kn kc]), KTm band percent price ts, KPC RR, KPC RR, KSl 4 Posting.cells RR.1, KC (.int .i64 RR.2)]
    [0, 1, 2, 3, 4, 5, 6, 7, 8, 9, 10, 11, 12, 13] [14] [[], [0], [], [0, 1, 2], [], [0, 1, 2, 3, 4], [], [], [0, 1, 2, 3, 4, 5, 7], [], [0, 1, 2, 3, 4, 5, 7, 8, 9], [0, 1, 2, 3, 4, 5, 6, 7, 8, 9, 10], [0, 1, 2, 3, 4, 5, 6, 7, 8, 9, 10, 11], [0, 1, 2, 3, 4, 5, 6, 7, 8, 9, 10, 11, 12], [0, 1, 2, 3, 4, 5, 6, 7, 8, 9, 10, 11, 12], [0, 1, 2, 3, 4, 5, 6, 7, 8, 9, 10, 11, 12, 13], [0, 1, 2, 3, 4, 5, 6, 7, 8, 9, 10, 11, 12, 13, 14, 15]] [] (.last [15, 16]) (by kernel_rfl) (by kernel_rfl) (by intro c a w d v h; cases d <;> exact h) (by simp) ⟨stKC _, stKNet _ _, stKC _, stKSl _ _ _, stKC _, stKSl _ _ _, stKC _, stKC _, stKRS _, stKC _, stKTm _ _ _ _, stKPC _, stKPC _, stKSl _ _ _, stKC _, trivial⟩ ?_ ?_ ?_
  · refine ⟨?_, ?_, ?_, ?_, ?_, ?_, ?_, ?_, ?_, ?_, ?_, ?_, ?_, ?_, trivial⟩
    · intro ts wx hts hX hd
      obtain ⟨t0, ts0, rfl, hts0⟩ := vcons hts
      obtain ⟨t1, ts1, rfl, hts1⟩ := vcons hts0
      obtain ⟨t2, ts2, rfl, hts2⟩ := vcons hts1
      obtain ⟨t3, ts3, rfl, hts3⟩ := vcons hts2
      obtain ⟨t4, ts4, rfl, hts4⟩ := vcons hts3
      obtain ⟨t5, ts5, rfl, hts5⟩ := vcons hts4
      obtain ⟨t6, ts6, rfl, hts6⟩ := vcons hts5
      obtain ⟨t7, ts7, rfl, hts7⟩ := vcons hts6
      obtain ⟨t8, ts8, rfl, hts8⟩ := vcons hts7
      obtain ⟨t9, ts9, rfl, hts9⟩ := vcons hts8
      obtain ⟨t10, ts10, rfl, hts10⟩ := vcons hts9
      obtain ⟨t11, ts11, rfl, hts11⟩ := vcons hts10
      obtain ⟨t12, ts12, rfl, hts12⟩ := vcons hts11
      obtain ⟨t13, ts13, rfl, hts13⟩ := vcons hts12
      obtain ⟨t14, ts14, rfl, hts14⟩ := vcons hts13
      obtain ⟨t15, ts15, rfl, hts15⟩ := vcons hts14
      obtain ⟨t16, ts16, rfl, hts16⟩ := vcons hts15
      obtain rfl := vnil hts16
      clear hts hts0 hts1 hts2 hts3 hts4 hts5 hts6 hts7 hts8 hts9 hts10 hts11 hts12 hts13 hts14 hts15 hts16
      simp only [putAll, nthO, Act.put, List.setIfInBounds_toArray, List.set_cons_succ, List.set_cons_zero]
      have hNr := hN.ext ((hx02).trans hX)
      have hb0 := hNr.cell 0
      have hb1 := hNr.cell 1
      simp at hb0 hb1
      have hbl := hNr.lt
      go_wp2_with fail
      exact ⟨Ext.refl _, _, rfl, rfl⟩
    · intro ts wx hts hX hd
      obtain ⟨t0, ts0, rfl, hts0⟩ := vcons hts
      obtain ⟨t1, ts1, rfl, hts1⟩ := vcons hts0
      obtain ⟨t2, ts2, rfl, hts2⟩ := vcons hts1
      obtain ⟨t3, ts3, rfl, hts3⟩ := vcons hts2
      obtain ⟨t4, ts4, rfl, hts4⟩ := vcons hts3
      obtain ⟨t5, ts5, rfl, hts5⟩ := vcons hts4
      obtain ⟨t6, ts6, rfl, hts6⟩ := vcons hts5
      obtain ⟨t7, ts7, rfl, hts7⟩ := vcons hts6
      obtain ⟨t8, ts8, rfl, hts8⟩ := vcons hts7
      obtain ⟨t9, ts9, rfl, hts9⟩ := vcons hts8
      obtain ⟨t10, ts10, rfl, hts10⟩ := vcons hts9
      obtain ⟨t11, ts11, rfl, hts11⟩ := vcons hts10
      obtain ⟨t12, ts12, rfl, hts12⟩ := vcons hts11
      obtain ⟨t13, ts13, rfl, hts13⟩ := vcons hts12
      obtain ⟨t14, ts14, rfl, hts14⟩ := vcons hts13
      obtain ⟨t15, ts15, rfl, hts15⟩ := vcons hts14
      obtain ⟨t16, ts16, rfl, hts16⟩ := vcons hts15
      obtain rfl := vnil hts16
      clear hts hts0 hts1 hts2 hts3 hts4 hts5 hts6 hts7 hts8 hts9 hts10 hts11 hts12 hts13 hts14 hts15 hts16
      simp only [putAll, nthO, Act.put, List.setIfInBounds_toArray, List.set_cons_succ, List.set_cons_zero]
      obtain ⟨rfl, -⟩ := hd
      go_wp2_with fail
      refine (k_toNet A1 A2 n1 c1 n2 c2 ns ps _ (h1.ext ((X2).trans hX)) (h2.ext ((X2).trans hX)) m1 m2).mono ?_
      rintro e wy ⟨v, rfl, hk, hxy⟩
      go_wp2_with fail
      exact ⟨hxy, _, rfl, hk⟩
    · intro ts wx hts hX hd
      obtain ⟨t0, ts0, rfl, hts0⟩ := vcons hts
      obtain ⟨t1, ts1, rfl, hts1⟩ := vcons hts0
      obtain ⟨t2, ts2, rfl, hts2⟩ := vcons hts1
      obtain ⟨t3, ts3, rfl, hts3⟩ := vcons hts2
      obtain ⟨t4, ts4, rfl, hts4⟩ := vcons hts3
      obtain ⟨t5, ts5, rfl, hts5⟩ := vcons hts4
      obtain ⟨t6, ts6, rfl, hts6⟩ := vcons hts5
      obtain ⟨t7, ts7, rfl, hts7⟩ := vcons hts6
      obtain ⟨t8, ts8, rfl, hts8⟩ := vcons hts7
      obtain ⟨t9, ts9, rfl, hts9⟩ := vcons hts8
      obtain ⟨t10, ts10, rfl, hts10⟩ := vcons hts9
      obtain ⟨t11, ts11, rfl, hts11⟩ := vcons hts10
      obtain ⟨t12, ts12, rfl, hts12⟩ := vcons hts11
      obtain ⟨t13, ts13, rfl, hts13⟩ := vcons hts12
      obtain ⟨t14, ts14, rfl, hts14⟩ := vcons hts13
      obtain ⟨t15, ts15, rfl, hts15⟩ := vcons hts14
      obtain ⟨t16, ts16, rfl, hts16⟩ := vcons hts15
      obtain rfl := vnil hts16
      clear hts hts0 hts1 hts2 hts3 hts4 hts5 hts6 hts7 hts8 hts9 hts10 hts11 hts12 hts13 hts14 hts15 hts16
      simp only [putAll, nthO, Act.put, List.setIfInBounds_toArray, List.set_cons_succ, List.set_cons_zero]
      go_wp2_with fail
      exact ⟨Ext.refl _, _, rfl, rfl⟩
    · intro ts wx hts hX hd
      obtain ⟨t0, ts0, rfl, hts0⟩ := vcons hts
      obtain ⟨t1, ts1, rfl, hts1⟩ := vcons hts0
      obtain ⟨t2, ts2, rfl, hts2⟩ := vcons hts1
      obtain ⟨t3, ts3, rfl, hts3⟩ := vcons hts2
      obtain ⟨t4, ts4, rfl, hts4⟩ := vcons hts3
      obtain ⟨t5, ts5, rfl, hts5⟩ := vcons hts4
      obtain ⟨t6, ts6, rfl, hts6⟩ := vcons hts5
      obtain ⟨t7, ts7, rfl, hts7⟩ := vcons hts6
      obtain ⟨t8, ts8, rfl, hts8⟩ := vcons hts7
      obtain ⟨t9, ts9, rfl, hts9⟩ := vcons hts8
      obtain ⟨t10, ts10, rfl, hts10⟩ := vcons hts9
      obtain ⟨t11, ts11, rfl, hts11⟩ := vcons hts10
      obtain ⟨t12, ts12, rfl, hts12⟩ := vcons hts11
      obtain ⟨t13, ts13, rfl, hts13⟩ := vcons hts12
      obtain ⟨t14, ts14, rfl, hts14⟩ := vcons hts13
      obtain ⟨t15, ts15, rfl, hts15⟩ := vcons hts14
      obtain ⟨t16, ts16, rfl, hts16⟩ := vcons hts15
      obtain rfl := vnil hts16
      clear hts hts0 hts1 hts2 hts3 hts4 hts5 hts6 hts7 hts8 hts9 hts10 hts11 hts12 hts13 hts14 hts15 hts16
      simp only [putAll, nthO, Act.put, List.setIfInBounds_toArray, List.set_cons_succ, List.set_cons_zero]
      obtain ⟨-, -, rfl, -⟩ := hd
      go_wp2_with fail
      refine (k_toBook A n c xs _ (hs.ext ((X2).trans hX)) m3).mono ?_
      rintro e wy ⟨v, rfl, hk, hxy⟩
      go_wp2_with fail
      exact ⟨hxy, _, rfl, hk⟩
    · intro ts wx hts hX hd
      obtain ⟨t0, ts0, rfl, hts0⟩ := vcons hts
      obtain ⟨t1, ts1, rfl, hts1⟩ := vcons hts0
      obtain ⟨t2, ts2, rfl, hts2⟩ := vcons hts1
      obtain ⟨t3, ts3, rfl, hts3⟩ := vcons hts2
      obtain ⟨t4, ts4, rfl, hts4⟩ := vcons hts3
      obtain ⟨t5, ts5, rfl, hts5⟩ := vcons hts4
      obtain ⟨t6, ts6, rfl, hts6⟩ := vcons hts5
      obtain ⟨t7, ts7, rfl, hts7⟩ := vcons hts6
      obtain ⟨t8, ts8, rfl, hts8⟩ := vcons hts7
      obtain ⟨t9, ts9, rfl, hts9⟩ := vcons hts8
      obtain ⟨t10, ts10, rfl, hts10⟩ := vcons hts9
      obtain ⟨t11, ts11, rfl, hts11⟩ := vcons hts10
      obtain ⟨t12, ts12, rfl, hts12⟩ := vcons hts11
      obtain ⟨t13, ts13, rfl, hts13⟩ := vcons hts12
      obtain ⟨t14, ts14, rfl, hts14⟩ := vcons hts13
      obtain ⟨t15, ts15, rfl, hts15⟩ := vcons hts14
      obtain ⟨t16, ts16, rfl, hts16⟩ := vcons hts15
      obtain rfl := vnil hts16
      clear hts hts0 hts1 hts2 hts3 hts4 hts5 hts6 hts7 hts8 hts9 hts10 hts11 hts12 hts13 hts14 hts15 hts16
      simp only [putAll, nthO, Act.put, List.setIfInBounds_toArray, List.set_cons_succ, List.set_cons_zero]
      go_wp2_with fail
      exact ⟨Ext.refl _, _, rfl, rfl⟩
    · intro ts wx hts hX hd
      obtain ⟨t0, ts0, rfl, hts0⟩ := vcons hts
      obtain ⟨t1, ts1, rfl, hts1⟩ := vcons hts0
      obtain ⟨t2, ts2, rfl, hts2⟩ := vcons hts1
      obtain ⟨t3, ts3, rfl, hts3⟩ := vcons hts2
      obtain ⟨t4, ts4, rfl, hts4⟩ := vcons hts3
      obtain ⟨t5, ts5, rfl, hts5⟩ := vcons hts4
      obtain ⟨t6, ts6, rfl, hts6⟩ := vcons hts5
      obtain ⟨t7, ts7, rfl, hts7⟩ := vcons hts6
      obtain ⟨t8, ts8, rfl, hts8⟩ := vcons hts7
      obtain ⟨t9, ts9, rfl, hts9⟩ := vcons hts8
      obtain ⟨t10, ts10, rfl, hts10⟩ := vcons hts9
      obtain ⟨t11, ts11, rfl, hts11⟩ := vcons hts10
      obtain ⟨t12, ts12, rfl, hts12⟩ := vcons hts11
      obtain ⟨t13, ts13, rfl, hts13⟩ := vcons hts12
      obtain ⟨t14, ts14, rfl, hts14⟩ := vcons hts13
      obtain ⟨t15, ts15, rfl, hts15⟩ := vcons hts14
      obtain ⟨t16, ts16, rfl, hts16⟩ := vcons hts15
      obtain rfl := vnil hts16
      clear hts hts0 hts1 hts2 hts3 hts4 hts5 hts6 hts7 hts8 hts9 hts10 hts11 hts12 hts13 hts14 hts15 hts16
      simp only [putAll, nthO, Act.put, List.setIfInBounds_toArray, List.set_cons_succ, List.set_cons_zero]
      obtain ⟨-, -, -, -, rfl, -⟩ := hd
      go_wp2_with fail
      refine (k_toNoms B m d L _ (hL.ext ((X2).trans hX)) m4).mono ?_
      rintro e wy ⟨v, rfl, hk, hxy⟩
      go_wp2_with fail
      exact ⟨hxy, _, rfl, hk⟩
    · intro ts wx hts hX hd
      obtain ⟨t0, ts0, rfl, hts0⟩ := vcons hts
      obtain ⟨t1, ts1, rfl, hts1⟩ := vcons hts0
      obtain ⟨t2, ts2, rfl, hts2⟩ := vcons hts1
      obtain ⟨t3, ts3, rfl, hts3⟩ := vcons hts2
      obtain ⟨t4, ts4, rfl, hts4⟩ := vcons hts3
      obtain ⟨t5, ts5, rfl, hts5⟩ := vcons hts4
      obtain ⟨t6, ts6, rfl, hts6⟩ := vcons hts5
      obtain ⟨t7, ts7, rfl, hts7⟩ := vcons hts6
      obtain ⟨t8, ts8, rfl, hts8⟩ := vcons hts7
      obtain ⟨t9, ts9, rfl, hts9⟩ := vcons hts8
      obtain ⟨t10, ts10, rfl, hts10⟩ := vcons hts9
      obtain ⟨t11, ts11, rfl, hts11⟩ := vcons hts10
      obtain ⟨t12, ts12, rfl, hts12⟩ := vcons hts11
      obtain ⟨t13, ts13, rfl, hts13⟩ := vcons hts12
      obtain ⟨t14, ts14, rfl, hts14⟩ := vcons hts13
      obtain ⟨t15, ts15, rfl, hts15⟩ := vcons hts14
      obtain ⟨t16, ts16, rfl, hts16⟩ := vcons hts15
      obtain rfl := vnil hts16
      clear hts hts0 hts1 hts2 hts3 hts4 hts5 hts6 hts7 hts8 hts9 hts10 hts11 hts12 hts13 hts14 hts15 hts16
      simp only [putAll, nthO, Act.put, List.setIfInBounds_toArray, List.set_cons_succ, List.set_cons_zero]
      go_wp2_with fail
      exact ⟨Ext.refl _, _, rfl, rfl⟩
    · intro ts wx hts hX hd
      obtain ⟨t0, ts0, rfl, hts0⟩ := vcons hts
      obtain ⟨t1, ts1, rfl, hts1⟩ := vcons hts0
      obtain ⟨t2, ts2, rfl, hts2⟩ := vcons hts1
      obtain ⟨t3, ts3, rfl, hts3⟩ := vcons hts2
      obtain ⟨t4, ts4, rfl, hts4⟩ := vcons hts3
      obtain ⟨t5, ts5, rfl, hts5⟩ := vcons hts4
      obtain ⟨t6, ts6, rfl, hts6⟩ := vcons hts5
      obtain ⟨t7, ts7, rfl, hts7⟩ := vcons hts6
      obtain ⟨t8, ts8, rfl, hts8⟩ := vcons hts7
      obtain ⟨t9, ts9, rfl, hts9⟩ := vcons hts8
      obtain ⟨t10, ts10, rfl, hts10⟩ := vcons hts9
      obtain ⟨t11, ts11, rfl, hts11⟩ := vcons hts10
      obtain ⟨t12, ts12, rfl, hts12⟩ := vcons hts11
      obtain ⟨t13, ts13, rfl, hts13⟩ := vcons hts12
      obtain ⟨t14, ts14, rfl, hts14⟩ := vcons hts13
      obtain ⟨t15, ts15, rfl, hts15⟩ := vcons hts14
      obtain ⟨t16, ts16, rfl, hts16⟩ := vcons hts15
      obtain rfl := vnil hts16
      clear hts hts0 hts1 hts2 hts3 hts4 hts5 hts6 hts7 hts8 hts9 hts10 hts11 hts12 hts13 hts14 hts15 hts16
      simp only [putAll, nthO, Act.put, List.setIfInBounds_toArray, List.set_cons_succ, List.set_cons_zero]
      go_wp2_with fail
      exact ⟨Ext.refl _, _, rfl, rfl⟩
    · intro ts wx hts hX hd
      obtain ⟨t0, ts0, rfl, hts0⟩ := vcons hts
      obtain ⟨t1, ts1, rfl, hts1⟩ := vcons hts0
      obtain ⟨t2, ts2, rfl, hts2⟩ := vcons hts1
      obtain ⟨t3, ts3, rfl, hts3⟩ := vcons hts2
      obtain ⟨t4, ts4, rfl, hts4⟩ := vcons hts3
      obtain ⟨t5, ts5, rfl, hts5⟩ := vcons hts4
      obtain ⟨t6, ts6, rfl, hts6⟩ := vcons hts5
      obtain ⟨t7, ts7, rfl, hts7⟩ := vcons hts6
      obtain ⟨t8, ts8, rfl, hts8⟩ := vcons hts7
      obtain ⟨t9, ts9, rfl, hts9⟩ := vcons hts8
      obtain ⟨t10, ts10, rfl, hts10⟩ := vcons hts9
      obtain ⟨t11, ts11, rfl, hts11⟩ := vcons hts10
      obtain ⟨t12, ts12, rfl, hts12⟩ := vcons hts11
      obtain ⟨t13, ts13, rfl, hts13⟩ := vcons hts12
      obtain ⟨t14, ts14, rfl, hts14⟩ := vcons hts13
      obtain ⟨t15, ts15, rfl, hts15⟩ := vcons hts14
      obtain ⟨t16, ts16, rfl, hts16⟩ := vcons hts15
      obtain rfl := vnil hts16
      clear hts hts0 hts1 hts2 hts3 hts4 hts5 hts6 hts7 hts8 hts9 hts10 hts11 hts12 hts13 hts14 hts15 hts16
      simp only [putAll, nthO, Act.put, List.setIfInBounds_toArray, List.set_cons_succ, List.set_cons_zero]
      obtain ⟨-, -, -, -, -, -, rfl, -⟩ := hd
      go_wp2_with fail
      refine (k_toReadSS R nr cr rs _ (hR.ext ((X2).trans hX)) (fun q hq => (HRS.out q hq).ext ((X2).trans hX)) m5 HQN.out).mono ?_
      rintro e wy ⟨v, rfl, hk, hxy⟩
      go_wp2_with fail
      exact ⟨hxy, _, rfl, hk⟩
    · intro ts wx hts hX hd
      obtain ⟨t0, ts0, rfl, hts0⟩ := vcons hts
      obtain ⟨t1, ts1, rfl, hts1⟩ := vcons hts0
      obtain ⟨t2, ts2, rfl, hts2⟩ := vcons hts1
      obtain ⟨t3, ts3, rfl, hts3⟩ := vcons hts2
      obtain ⟨t4, ts4, rfl, hts4⟩ := vcons hts3
      obtain ⟨t5, ts5, rfl, hts5⟩ := vcons hts4
      obtain ⟨t6, ts6, rfl, hts6⟩ := vcons hts5
      obtain ⟨t7, ts7, rfl, hts7⟩ := vcons hts6
      obtain ⟨t8, ts8, rfl, hts8⟩ := vcons hts7
      obtain ⟨t9, ts9, rfl, hts9⟩ := vcons hts8
      obtain ⟨t10, ts10, rfl, hts10⟩ := vcons hts9
      obtain ⟨t11, ts11, rfl, hts11⟩ := vcons hts10
      obtain ⟨t12, ts12, rfl, hts12⟩ := vcons hts11
      obtain ⟨t13, ts13, rfl, hts13⟩ := vcons hts12
      obtain ⟨t14, ts14, rfl, hts14⟩ := vcons hts13
      obtain ⟨t15, ts15, rfl, hts15⟩ := vcons hts14
      obtain ⟨t16, ts16, rfl, hts16⟩ := vcons hts15
      obtain rfl := vnil hts16
      clear hts hts0 hts1 hts2 hts3 hts4 hts5 hts6 hts7 hts8 hts9 hts10 hts11 hts12 hts13 hts14 hts15 hts16
      simp only [putAll, nthO, Act.put, List.setIfInBounds_toArray, List.set_cons_succ, List.set_cons_zero]
      have hTr := hT.ext ((hx02).trans hX)
      have y0 := hTr.cell 0
      have y1 := hTr.cell 1
      have y2 := hTr.cell 2
      have y3 := hTr.cell 3
      simp at y0 y1 y2 y3
      have hyl := hTr.lt
      go_wp2_with fail
      exact ⟨Ext.refl _, _, rfl, rfl⟩
    · intro ts wx hts hX hd
      obtain ⟨t0, ts0, rfl, hts0⟩ := vcons hts
      obtain ⟨t1, ts1, rfl, hts1⟩ := vcons hts0
      obtain ⟨t2, ts2, rfl, hts2⟩ := vcons hts1
      obtain ⟨t3, ts3, rfl, hts3⟩ := vcons hts2
      obtain ⟨t4, ts4, rfl, hts4⟩ := vcons hts3
      obtain ⟨t5, ts5, rfl, hts5⟩ := vcons hts4
      obtain ⟨t6, ts6, rfl, hts6⟩ := vcons hts5
      obtain ⟨t7, ts7, rfl, hts7⟩ := vcons hts6
      obtain ⟨t8, ts8, rfl, hts8⟩ := vcons hts7
      obtain ⟨t9, ts9, rfl, hts9⟩ := vcons hts8
      obtain ⟨t10, ts10, rfl, hts10⟩ := vcons hts9
      obtain ⟨t11, ts11, rfl, hts11⟩ := vcons hts10
      obtain ⟨t12, ts12, rfl, hts12⟩ := vcons hts11
      obtain ⟨t13, ts13, rfl, hts13⟩ := vcons hts12
      obtain ⟨t14, ts14, rfl, hts14⟩ := vcons hts13
      obtain ⟨t15, ts15, rfl, hts15⟩ := vcons hts14
      obtain ⟨t16, ts16, rfl, hts16⟩ := vcons hts15
      obtain rfl := vnil hts16
      clear hts hts0 hts1 hts2 hts3 hts4 hts5 hts6 hts7 hts8 hts9 hts10 hts11 hts12 hts13 hts14 hts15 hts16
      simp only [putAll, nthO, Act.put, List.setIfInBounds_toArray, List.set_cons_succ, List.set_cons_zero]
      obtain ⟨-, -, -, -, -, -, -, -, rfl, -⟩ := hd
      go_wp2_with fail
      refine (k_toTerms band percent price K kn kc ts _ (hK.ext ((X2).trans hX)) m6).mono ?_
      rintro e wy ⟨v, rfl, hk, hxy⟩
      go_wp2_with fail
      exact ⟨hxy, _, rfl, hk⟩
    · intro ts wx hts hX hd
      obtain ⟨t0, ts0, rfl, hts0⟩ := vcons hts
      obtain ⟨t1, ts1, rfl, hts1⟩ := vcons hts0
      obtain ⟨t2, ts2, rfl, hts2⟩ := vcons hts1
      obtain ⟨t3, ts3, rfl, hts3⟩ := vcons hts2
      obtain ⟨t4, ts4, rfl, hts4⟩ := vcons hts3
      obtain ⟨t5, ts5, rfl, hts5⟩ := vcons hts4
      obtain ⟨t6, ts6, rfl, hts6⟩ := vcons hts5
      obtain ⟨t7, ts7, rfl, hts7⟩ := vcons hts6
      obtain ⟨t8, ts8, rfl, hts8⟩ := vcons hts7
      obtain ⟨t9, ts9, rfl, hts9⟩ := vcons hts8
      obtain ⟨t10, ts10, rfl, hts10⟩ := vcons hts9
      obtain ⟨t11, ts11, rfl, hts11⟩ := vcons hts10
      obtain ⟨t12, ts12, rfl, hts12⟩ := vcons hts11
      obtain ⟨t13, ts13, rfl, hts13⟩ := vcons hts12
      obtain ⟨t14, ts14, rfl, hts14⟩ := vcons hts13
      obtain ⟨t15, ts15, rfl, hts15⟩ := vcons hts14
      obtain ⟨t16, ts16, rfl, hts16⟩ := vcons hts15
      obtain rfl := vnil hts16
      clear hts hts0 hts1 hts2 hts3 hts4 hts5 hts6 hts7 hts8 hts9 hts10 hts11 hts12 hts13 hts14 hts15 hts16
      simp only [putAll, nthO, Act.put, List.setIfInBounds_toArray, List.set_cons_succ, List.set_cons_zero]
      obtain ⟨-, k1, -, k3, -, k5, rfl, -, k8, -, k10, -⟩ := hd
      go_wp2_with fail
      refine (k_spec k1 k3 k5 k8 k10 HNS.out).mono ?_
      rw [HRR.out]
      rintro e wy ⟨v, rfl, hk, hxy⟩
      go_wp2_with fail
      exact ⟨hxy, _, rfl, hk⟩
    · intro ts wx hts hX hd
      obtain ⟨t0, ts0, rfl, hts0⟩ := vcons hts
      obtain ⟨t1, ts1, rfl, hts1⟩ := vcons hts0
      obtain ⟨t2, ts2, rfl, hts2⟩ := vcons hts1
      obtain ⟨t3, ts3, rfl, hts3⟩ := vcons hts2
      obtain ⟨t4, ts4, rfl, hts4⟩ := vcons hts3
      obtain ⟨t5, ts5, rfl, hts5⟩ := vcons hts4
      obtain ⟨t6, ts6, rfl, hts6⟩ := vcons hts5
      obtain ⟨t7, ts7, rfl, hts7⟩ := vcons hts6
      obtain ⟨t8, ts8, rfl, hts8⟩ := vcons hts7
      obtain ⟨t9, ts9, rfl, hts9⟩ := vcons hts8
      obtain ⟨t10, ts10, rfl, hts10⟩ := vcons hts9
      obtain ⟨t11, ts11, rfl, hts11⟩ := vcons hts10
      obtain ⟨t12, ts12, rfl, hts12⟩ := vcons hts11
      obtain ⟨t13, ts13, rfl, hts13⟩ := vcons hts12
      obtain ⟨t14, ts14, rfl, hts14⟩ := vcons hts13
      obtain ⟨t15, ts15, rfl, hts15⟩ := vcons hts14
      obtain ⟨t16, ts16, rfl, hts16⟩ := vcons hts15
      obtain rfl := vnil hts16
      clear hts hts0 hts1 hts2 hts3 hts4 hts5 hts6 hts7 hts8 hts9 hts10 hts11 hts12 hts13 hts14 hts15 hts16
      simp only [putAll, nthO, Act.put, List.setIfInBounds_toArray, List.set_cons_succ, List.set_cons_zero]
      obtain ⟨-, -, -, -, -, -, -, -, -, -, -, hk, -⟩ := hd
      go_wp2_with fail
      exact ⟨Ext.refl _, _, rfl, hk⟩
    · intro ts wx hts hX hd
      obtain ⟨t0, ts0, rfl, hts0⟩ := vcons hts
      obtain ⟨t1, ts1, rfl, hts1⟩ := vcons hts0
      obtain ⟨t2, ts2, rfl, hts2⟩ := vcons hts1
      obtain ⟨t3, ts3, rfl, hts3⟩ := vcons hts2
      obtain ⟨t4, ts4, rfl, hts4⟩ := vcons hts3
      obtain ⟨t5, ts5, rfl, hts5⟩ := vcons hts4
      obtain ⟨t6, ts6, rfl, hts6⟩ := vcons hts5
      obtain ⟨t7, ts7, rfl, hts7⟩ := vcons hts6
      obtain ⟨t8, ts8, rfl, hts8⟩ := vcons hts7
      obtain ⟨t9, ts9, rfl, hts9⟩ := vcons hts8
      obtain ⟨t10, ts10, rfl, hts10⟩ := vcons hts9
      obtain ⟨t11, ts11, rfl, hts11⟩ := vcons hts10
      obtain ⟨t12, ts12, rfl, hts12⟩ := vcons hts11
      obtain ⟨t13, ts13, rfl, hts13⟩ := vcons hts12
      obtain ⟨t14, ts14, rfl, hts14⟩ := vcons hts13
      obtain ⟨t15, ts15, rfl, hts15⟩ := vcons hts14
      obtain ⟨t16, ts16, rfl, hts16⟩ := vcons hts15
      obtain rfl := vnil hts16
      clear hts hts0 hts1 hts2 hts3 hts4 hts5 hts6 hts7 hts8 hts9 hts10 hts11 hts12 hts13 hts14 hts15 hts16
      simp only [putAll, nthO, Act.put, List.setIfInBounds_toArray, List.set_cons_succ, List.set_cons_zero]
      obtain ⟨-, -, -, -, -, -, -, -, -, -, -, -, ⟨a, rfl, hk⟩, -⟩ := hd
      go_wp2_with fail
      exact ⟨Ext.refl _, _, rfl, hk⟩
  · refine ⟨?_, trivial⟩
    intro ts wx hts hX hd
    obtain ⟨t0, ts0, rfl, hts0⟩ := vcons hts
    obtain ⟨t1, ts1, rfl, hts1⟩ := vcons hts0
    obtain ⟨t2, ts2, rfl, hts2⟩ := vcons hts1
    obtain ⟨t3, ts3, rfl, hts3⟩ := vcons hts2
    obtain ⟨t4, ts4, rfl, hts4⟩ := vcons hts3
    obtain ⟨t5, ts5, rfl, hts5⟩ := vcons hts4
    obtain ⟨t6, ts6, rfl, hts6⟩ := vcons hts5
    obtain ⟨t7, ts7, rfl, hts7⟩ := vcons hts6
    obtain ⟨t8, ts8, rfl, hts8⟩ := vcons hts7
    obtain ⟨t9, ts9, rfl, hts9⟩ := vcons hts8
    obtain ⟨t10, ts10, rfl, hts10⟩ := vcons hts9
    obtain ⟨t11, ts11, rfl, hts11⟩ := vcons hts10
    obtain ⟨t12, ts12, rfl, hts12⟩ := vcons hts11
    obtain ⟨t13, ts13, rfl, hts13⟩ := vcons hts12
    obtain ⟨t14, ts14, rfl, hts14⟩ := vcons hts13
    obtain ⟨t15, ts15, rfl, hts15⟩ := vcons hts14
    obtain ⟨t16, ts16, rfl, hts16⟩ := vcons hts15
    obtain rfl := vnil hts16
    clear hts hts0 hts1 hts2 hts3 hts4 hts5 hts6 hts7 hts8 hts9 hts10 hts11 hts12 hts13 hts14 hts15 hts16
    simp only [putAll, nthO, Act.put, List.setIfInBounds_toArray, List.set_cons_succ, List.set_cons_zero]
    obtain ⟨-, -, -, -, -, -, -, -, -, -, -, -, ⟨a, rfl, hk⟩, -⟩ := hd
    repeat (go_big_quiet_step (fail))
    exact wpQuiet_nil ⟨_, rfl, rfl⟩
  ·
    intro ts wx hts hX hd
    obtain ⟨t0, ts0, rfl, hts0⟩ := vcons hts
    obtain ⟨t1, ts1, rfl, hts1⟩ := vcons hts0
    obtain ⟨t2, ts2, rfl, hts2⟩ := vcons hts1
    obtain ⟨t3, ts3, rfl, hts3⟩ := vcons hts2
    obtain ⟨t4, ts4, rfl, hts4⟩ := vcons hts3
    obtain ⟨t5, ts5, rfl, hts5⟩ := vcons hts4
    obtain ⟨t6, ts6, rfl, hts6⟩ := vcons hts5
    obtain ⟨t7, ts7, rfl, hts7⟩ := vcons hts6
    obtain ⟨t8, ts8, rfl, hts8⟩ := vcons hts7
    obtain ⟨t9, ts9, rfl, hts9⟩ := vcons hts8
    obtain ⟨t10, ts10, rfl, hts10⟩ := vcons hts9
    obtain ⟨t11, ts11, rfl, hts11⟩ := vcons hts10
    obtain ⟨t12, ts12, rfl, hts12⟩ := vcons hts11
    obtain ⟨t13, ts13, rfl, hts13⟩ := vcons hts12
    obtain ⟨t14, ts14, rfl, hts14⟩ := vcons hts13
    obtain ⟨t15, ts15, rfl, hts15⟩ := vcons hts14
    obtain ⟨t16, ts16, rfl, hts16⟩ := vcons hts15
    obtain rfl := vnil hts16
    clear hts hts0 hts1 hts2 hts3 hts4 hts5 hts6 hts7 hts8 hts9 hts10 hts11 hts12 hts13 hts14 hts15 hts16
    simp only [putAll, Act.put, List.setIfInBounds_toArray, List.set_cons_succ, List.set_cons_zero]
    obtain ⟨-, -, -, -, -, -, -, -, -, -, -, -, -, h13, h14, -⟩ := hd
    obtain ⟨SP, sn, sc, rfl, hsp⟩ := h13
    obtain rfl := h14
    simp only [wpPhT, pickL, nthO]
    repeat (go_big_quiet_step (fail))
    refine wpQuiet_nil ?_
    have HSB := hide (show ∀ b, blkOf SP sn = some b → b < wx.heap.size from fun b hb => hsp.blk hb)
    have hx03 := hx02.trans hX
    have X3 := hx0.trans hx03
    obtain ⟨w3, HW3⟩ : ∃ w3, w3 = wx := ⟨_, rfl⟩
    subst HW3
    have hNr := hN.ext (hx03)
    have hb0 := hNr.cell 0
    have hb1 := hNr.cell 1
    simp at hb0 hb1
    have hbl := hNr.lt
    go_wp2_with fail
    refine (c_toNetwork A1 A2 n1 c1 n2 c2 ns ps _ (h1.ext X3) (h2.ext X3) m1 m2).mono ?_
    rintro e w4 ⟨p1, p2, rfl, hp1, hp12, u1, u2, hx4⟩
    clear hNr hb0 hb1 hbl
    obtain ⟨w5, HW5⟩ : ∃ w5, Hid (w4.alloc (.cells #[.slice (some ⟨p1, 0, none⟩) ns.length ns.length, .slice (some ⟨p2, 0, none⟩) ps.length ps.length] 45) = w5) := ⟨_, hide rfl⟩
    have bN : Row w5 w4.heap.size 45 [.slice (some ⟨p1, 0, none⟩) ns.length ns.length, .slice (some ⟨p2, 0, none⟩) ps.length ps.length] := by rw [← HW5.out]; exact Row.new w4 _ _
    have hx5 : Ext w4 w5 := by rw [← HW5.out]; exact Ext.alloc _ _
    have hz5 : w4.heap.size + 1 = w5.heap.size := by rw [← HW5.out]; simp
    have X5 := X3.trans (hx4.trans hx5)
    go_wp2_with fail
    rw [HW5.out]
    refine (c_toContractS A n c xs _ (hs.ext X5) m3).mono ?_
    rintro e w6 ⟨p3, rfl, hp3, u3, hx6⟩
    go_wp2_with fail
    refine (c_toNominationS B m d L _ (hL.ext (X5.trans hx6)) m4).mono ?_
    rintro e w7 ⟨p4, rfl, hp4, u4, hx7⟩
    have hx57 := hx6.trans hx7
    go_wp2_with fail
    refine (c_toReadingSS R nr cr rs _ (hR.ext (X5.trans hx57)) (fun q hq => (HRS.out q hq).ext (X5.trans hx57)) m5 HQN.out).mono ?_
    rintro e w8 ⟨p5, rs', rfl, hp5, u5, hmx, hor, hap, hx8⟩
    have hrl : rs'.length = rs.length := by have := congrArg List.length hmx; simpa using this
    have HMX := hide hmx
    have HRB := hide (rs_blk_in hor)
    have HRA := hide (rs_sep hor hap)
    have HSU := hide (rs_sum hor hmx (fun q hq => (HRS.out q hq).len) HSUM.out)
    have hx58 := hx57.trans hx8
    have X8 := X5.trans hx58
    have hTr := hT.ext (hx03.trans ((hx4.trans hx5).trans hx58))
    have y0 := hTr.cell 0
    have y1 := hTr.cell 1
    have y2 := hTr.cell 2
    have y3 := hTr.cell 3
    simp at y0 y1 y2 y3
    have hyl := hTr.lt
    go_wp2_with fail
    refine (c_toTerms band percent price K kn kc ts _ (hK.ext X8) m6).mono ?_
    rintro e w9 ⟨p6, rfl, hp6, u6, hx9⟩
    clear hTr y0 y1 y2 y3 hyl
    obtain ⟨w10, HW10⟩ : ∃ w10, Hid (w9.alloc (.cells #[.int .i64 band, .int .i64 percent, .int .i64 price, .slice (some ⟨p6, 0, none⟩) ts.length ts.length] 73) = w10) := ⟨_, hide rfl⟩
    have bT : Row w10 w9.heap.size 73 [.int .i64 band, .int .i64 percent, .int .i64 price, .slice (some ⟨p6, 0, none⟩) ts.length ts.length] := by rw [← HW10.out]; exact Row.new w9 _ _
    have hx10 : Ext w9 w10 := by rw [← HW10.out]; exact Ext.alloc _ _
    have hz10 : w9.heap.size + 1 = w10.heap.size := by rw [← HW10.out]; simp
    have sz3 := X3.size
    have sz4 := hx4.size
    have sz58 := hx58.size
    have sz6 := hx6.size
    have sz7 := hx7.size
    have sz8 := hx8.size
    have sz9 := hx9.size
    have lp1 := u1.lt
    have lp2 := u2.lt
    have lp3 := u3.lt
    have lp4 := u4.lt
    have lp5 := u5.lt
    have lp6 := u6.lt
    have HPL := hide (show ∀ b, (b = p1 ∨ b = p2 ∨ b = p3 ∨ b = p4 ∨ rsBlk rs' b ∨ b = p6) → w3.heap.size ≤ b ∧ b < w9.heap.size from fun b hb => by
      rcases hb with hb | hb | hb | hb | hb | hb
      · omega
      · omega
      · omega
      · omega
      · have := HRB.out b hb; omega
      · omega)
    have HPT := hide (show ∀ b, (b = p1 ∨ b = p2 ∨ b = p3 ∨ b = p4 ∨ rsBlk rs' b) → b ≠ w9.heap.size ∧ b ≠ p6 ∧ b ≠ w4.heap.size from fun b hb => by
      rcases hb with hb | hb | hb | hb | hb
      · omega
      · omega
      · omega
      · omega
      · have := HRB.out b hb; omega)
    have HPD := hide (show p1 ≠ p2 ∧ p3 ≠ p1 ∧ p3 ≠ p2 ∧ p4 ≠ p1 ∧ p4 ≠ p2 ∧ p4 ≠ p3 ∧ p5 ≠ p1 ∧ p5 ≠ p2 ∧ p5 ≠ p3 ∧ p5 ≠ p4 from by omega)
    have HPQ := hide (show ∀ b, rsBlk rs' b → b ≠ p1 ∧ b ≠ p2 ∧ b ≠ p3 ∧ b ≠ p4 ∧ b ≠ p5 from fun b hb => by have := HRB.out b hb; omega)
    have hx810 := hx9.trans hx10
    have hx510 := hx58.trans hx810
    have U1 := (u1.ext hx5).ext hx510
    have U2 := (u2.ext hx5).ext hx510
    have U3 := ((u3.ext hx7).ext hx8).ext hx810
    have U4 := (u4.ext hx8).ext hx810
    have U5 := u5.ext hx810
    have U6 := u6.ext hx10
    have HOR := hide (show ∀ q ∈ rs', OwnRS w10 p5 q from fun q hq => (hor q hq).ext hx810)
    have bNr := bN.ext (hx58.trans hx9)
    have i0 := bNr.cell 0
    have i1 := bNr.cell 1
    simp at i0 i1
    have il := bNr.lt
    have bN := bN.ext hx510
    have hx310 := (hx4.trans hx5).trans hx510
    have hx010 := hx03.trans hx310
    have X10 := hx0.trans hx010
    have sz310 := hx310.size
    clear u1 u2 u3 u4 u5 u6 lp1 lp2 lp3 lp4 lp5 lp6 sz4 sz58 sz6 sz7 sz8 sz9 hp1 hp12 hp3 hp4 hp5 hp6 hx4 hx5 hx6 hx7 hx8 hx9 hx57 hx58 hx810 hz5 hor hap hmx
    go_wp2_with fail
    rw [HW10.out]
    refine (c_SettleHours _ _ _ _ _ _ ns ps _ _ _ xs _ _ _ L h _ _ _ rs' band percent price _ _ _ ts _ (U1.slice node_len rfl (by omega)) (U2.slice pipe_len rfl (by omega)) (U3.slice contract_len rfl (by omega)) (U4.slice nomination_len rfl (by omega)) (hrl ▸ U5.slice rs_len rfl (by omega)) (fun q hq => (HOR.out q hq).slice) (U6.slice (fun _ => rfl) rfl (by omega))).mono ?_
    rw [hsV_like HMX.out, HRR.out]
    rintro e w11 ⟨vG, gl, zG, rfl, hG0, hx11, HP⟩
    obtain ⟨rfl, rfl⟩ : gl = RR.1 ∧ zG = RR.2 := by have := HP.out; exact ⟨congrArg Prod.fst this, congrArg Prod.snd this⟩
    clear bNr i0 i1 il
    obtain ⟨GA, gc, rfl, -⟩ := hG0.sl post_len (by omega)
    have HGB := hide (show ∀ b, blkOf GA RR.1.length = some b → w10.heap.size ≤ b ∧ b < w11.heap.size from fun b hb => ⟨hG0.block_le (own_blk hb), (hG0.ltG (own_blk hb)).2⟩)
    have hG := hG0.toAS post_len (by omega)
    clear hG0
    have hsp := hsp.ext (hx310.trans hx11)
    go_wp2_with fail
    refine (c_eqPostingS _ _ _ _ _ _ RR.1 _ (hG.slice post_len) hsp).mono ?_
    rintro e w13 ⟨rfl, hx13⟩
    have E13 := hx13
    have U1 := U1.ext hx11
    have U2 := U2.ext hx11
    have U3 := U3.ext hx11
    have U4 := U4.ext hx11
    have U5 := U5.ext hx11
    have U6 := U6.ext hx11
    have HOR := hide (show ∀ q ∈ rs', OwnRS w11 p5 q from fun q hq => (HOR.out q hq).ext hx11)
    have bN := bN.ext hx11
    have bT := bT.ext hx11
    have X12 := X10.trans hx11
    have hx012 := hx010.trans hx11
    have hx312 := hx310.trans hx11
    have hNr := hN.ext (hx012.trans E13)
    have hb0 := hNr.cell 0
    have hb1 := hNr.cell 1
    simp at hb0 hb1
    have hbl := hNr.lt
    have bNr := bN.ext (E13)
    have i0 := bNr.cell 0
    have i1 := bNr.cell 1
    simp at i0 i1
    have il := bNr.lt
    go_wp2_with fail
    refine wp_region_ph [([0, 1], 2), ([], 3)] [4] (by kernel_rfl) (by kernel_rfl) (by intro c a w d v h; cases d <;> exact h) ?_
    simp only [wpPh, pickL, nthO]
    repeat (go_big_quiet_step (fail))
    refine wpQuiet_nil ?_
    have X13 := X12.trans E13
    go_wp2_with fail
    refine (c_toNetwork A1 A2 n1 c1 n2 c2 ns ps _ (h1.ext X13.drew) (h2.ext X13.drew) m1 m2).mono ?_
    rintro e w14 ⟨_, _, rfl, _, _, t1, t2, hx14⟩
    have E14 := E13.drew.trans hx14
    go_wp2_with fail
    refine ⟨hx14, wpQuiet_nil ?_⟩
    go_wp2_with fail
    refine (c_eqNetwork _ _ _ _ _ _ _ _ _ _ _ _ ns ps _ ((U1.ext E14).slice node_len rfl (by omega)) ((U2.ext E14).slice pipe_len rfl (by omega)) (t1.slice node_len rfl (by omega)) (t2.slice pipe_len rfl (by omega))).mono ?_
    rintro e w15 ⟨rfl, hx15⟩
    have E15 := E14.trans hx15
    clear hNr hb0 hb1 hbl
    clear bNr i0 i1 il
    go_wp2_with fail
    refine ⟨hx15, ?_⟩
    repeat (go_big_quiet_step (fail))
    refine wpQuiet_nil ?_
    go_wp2_with fail
    refine (c_toContractS A n c xs _ (hs.ext (X12.trans E15)) m3).mono ?_
    rintro e w16 ⟨_, rfl, _, t3, hx16⟩
    go_wp2_with fail
    refine (c_eqContractS _ _ _ _ _ _ xs _ ((U3.ext (E15.trans hx16)).slice contract_len rfl (by omega)) (t3.slice contract_len rfl (by omega))).mono ?_
    rintro e w17 ⟨rfl, hx17⟩
    have E17 := E15.trans (hx16.trans hx17)
    go_wp2_with fail
    refine (c_toNominationS B m d L _ (hL.ext (X12.trans E17)) m4).mono ?_
    rintro e w18 ⟨_, rfl, _, t4, hx18⟩
    go_wp2_with fail
    refine (c_eqNominationS _ _ _ _ _ _ L _ ((U4.ext (E17.trans hx18)).slice nomination_len rfl (by omega)) (t4.slice nomination_len rfl (by omega))).mono ?_
    rintro e w19 ⟨rfl, hx19⟩
    have E19 := E17.trans (hx18.trans hx19)
    go_wp2_with fail
    refine (k_toReadSS R nr cr rs _ (hR.ext (X12.trans E19)) (fun q hq => (HRS.out q hq).ext (X12.trans E19)) m5 HQN.out).mono ?_
    rintro e w20 ⟨v20, rfl, ⟨B20, k20, d20, rs20, rfl, t5, hm20, t5'⟩, hx20⟩
    go_wp2_with fail
    refine (c_eqReadingSS _ _ _ _ _ _ rs' rs20 _ (hrl ▸ (U5.ext (E19.trans hx20)).slice rs_len rfl (by omega)) (fun q hq => ((HOR.out q hq).ext (E19.trans hx20)).slice) t5 t5' (HMX.out.trans hm20.symm)).mono ?_
    rintro e w21 ⟨rfl, hx21⟩
    have E21 := E19.trans (hx20.trans hx21)
    have hTr := hT.ext (hx012.trans E21)
    have y0 := hTr.cell 0
    have y1 := hTr.cell 1
    have y2 := hTr.cell 2
    have y3 := hTr.cell 3
    simp at y0 y1 y2 y3
    have hyl := hTr.lt
    have bTr := bT.ext (E21)
    have j0 := bTr.cell 0
    have j1 := bTr.cell 1
    have j2 := bTr.cell 2
    have j3 := bTr.cell 3
    simp at j0 j1 j2 j3
    have jl := bTr.lt
    go_wp2_with fail
    refine wp_region_ph [([0, 1], 2), ([], 3)] [4] (by kernel_rfl) (by kernel_rfl) (by intro c a w d v h; cases d <;> exact h) ?_
    simp only [wpPh, pickL, nthO]
    repeat (go_big_quiet_step (fail))
    refine wpQuiet_nil ?_
    go_wp2_with fail
    refine (c_toTerms band percent price K kn kc ts _ (hK.ext (X12.trans E21).drew) m6).mono ?_
    rintro e w22 ⟨_, rfl, _, t6, hx22⟩
    have E22 := E21.drew.trans hx22
    go_wp2_with fail
    refine ⟨hx22, wpQuiet_nil ?_⟩
    go_wp2_with fail
    refine (c_eqTerms band percent price _ _ _ _ _ _ ts _ ((U6.ext E22).slice (fun _ => rfl) rfl (by omega)) (t6.slice (fun _ => rfl) rfl (by omega))).mono ?_
    rintro e w23 ⟨rfl, hx23⟩
    have E23 := E22.trans hx23
    clear hTr y0 y1 y2 y3 hyl
    clear bTr j0 j1 j2 j3 jl
    clear t1 t2 t3 t4 t5 t5' hm20 t6 hx14 hx15 hx16 hx17 hx18 hx19 hx20 hx21 E14 E15 E17 E19
    go_wp2_with fail
    refine ⟨hx23, ?_⟩
    repeat (go_big_quiet_step (fail))
    refine wpQuiet_nil ?_
    clear hx22 hx23 E21 E22
    have bNr := bN.ext (E23)
    have i0 := bNr.cell 0
    have i1 := bNr.cell 1
    simp at i0 i1
    have il := bNr.lt
    go_wp2_with fail
    refine (c_markNetwork _ _ _ _ _ _ ns ps 1 _ ((U1.ext E23).toA rfl (Nat.le_refl _) (by omega)) ((U2.ext E23).toA rfl (Nat.le_refl _) (by omega)) (fun b hb hb' => by have := blk_is hb; have := blk_is hb'; have := HPD.out; omega) l1 l2 (by omega) (by omega)).mono ?_
    rintro e w24 ⟨rfl, _, _, tr24⟩
    clear bNr i0 i1 il
    have t24 : Turn (fun b => b = p1 ∨ b = p2) w23 w24 := tr24.mono (fun b hb => by
      rcases hb with hb | hb
      · exact .inl (blk_is hb)
      · exact .inr (blk_is hb))
    have V3 := ((U3.ext E23).toA rfl (Nat.le_refl _) (by omega)).turn t24 (fun b hb hS => by have := blk_is hb; have := HPD.out; omega)
    have V4 := ((U4.ext E23).toA rfl (Nat.le_refl _) (by omega)).turn t24 (fun b hb hS => by have := blk_is hb; have := HPD.out; omega)
    go_wp2_with fail
    refine (m_markContractS _ _ _ xs _ _ V3 (by omega) (by omega) (by omega)).mono ?_
    rintro e w25 ⟨rfl, _, tr25⟩
    have t25 : Turn (fun b => b = p3) w24 w25 := tr25.mono (fun b hb => blk_is hb)
    have V4 := V4.turn t25 (fun b hb hS => by have := blk_is hb; have := HPD.out; omega)
    go_wp2_with fail
    refine (m_markNominationS _ _ _ L _ _ V4 (by omega) (by omega) (by omega)).mono ?_
    rintro e w26 ⟨rfl, _, tr26⟩
    have t26 : Turn (fun b => b = p4) w25 w26 := tr26.mono (fun b hb => blk_is hb)
    have T4 : Turn (fun b => b = p1 ∨ b = p2 ∨ b = p3 ∨ b = p4) w23 w26 := (t24.mono (fun b hb => by omega)).trans ((t25.mono (fun b hb => by omega)).trans (t26.mono (fun b hb => by omega)))
    have V5 := ((U5.ext E23).toA hrl.symm (Nat.le_refl _) (by omega)).turn T4 (fun b hb hS => by have := blk_is hb; have := HPD.out; omega)
    have V5q : ∀ q ∈ rs', OwnA w26 176 Reading.cells q.A q.n q.c q.xs := fun q hq => ((ownRS_A ((HOR.out q hq).ext E23))).turn T4 (fun b hb hS => by have := HPQ.out b ⟨q, hq, hb⟩; omega)
    go_wp2_with fail
    refine (c_markReadingSS _ _ _ rs' _ _ (V5.slice rs_len) V5q HRA.out (fun b hb hq => by have := blk_is hb; have := HPQ.out b hq; omega) HSU.out (by omega) (by omega)).mono ?_
    rintro e w27 ⟨rfl, _, t27⟩
    have T5 : Turn (fun b => b = p1 ∨ b = p2 ∨ b = p3 ∨ b = p4 ∨ rsBlk rs' b) w23 w27 := (T4.mono (fun b hb => by omega)).trans (t27.mono (fun b hb => .inr (.inr (.inr (.inr hb)))))
    have V6 := ((U6.ext E23).toA rfl (Nat.le_refl _) (by omega)).turn T5 (fun b hb hS => by have := blk_is hb; have := HPT.out b hS; omega)
    have bT := (bT.ext E23).turn T5 (fun hb => (HPT.out _ hb).1 rfl)
    have bTr := bT.ext ((Ext.refl w27))
    have j0 := bTr.cell 0
    have j1 := bTr.cell 1
    have j2 := bTr.cell 2
    have j3 := bTr.cell 3
    simp at j0 j1 j2 j3
    have jl := bTr.lt
    have hsu := HSU.out
    go_wp2_with fail
    refine (c_markTerms band percent price _ _ _ ts _ _ V6 (by omega) (by omega) (by omega)).mono ?_
    rintro e w28 ⟨rfl, _, tr28⟩
    clear bTr j0 j1 j2 j3 jl
    have t28 : Turn (fun b => b = p6) w27 w28 := tr28.mono (fun b hb => blk_is hb)
    have TP : Turn (fun b => b = p1 ∨ b = p2 ∨ b = p3 ∨ b = p4 ∨ rsBlk rs' b ∨ b = p6) w23 w28 := (T5.mono (fun b hb => by rcases hb with hb | hb | hb | hb | hb <;> simp [hb])).trans (t28.mono (fun b hb => by simp [hb]))
    clear V3 V4 V5 V5q V6 T4 T5 t24 t25 t26 t27 t28 tr24 tr25 tr26 tr28 bT bN U1 U2 U3 U4 U5 U6
    generalize (rs'.map RS.n).sum = su at *
    have hk0 : decide ((1 : Int) + 3 * (ns.length : Int) + 5 * (ps.length : Int) + 8 * (xs.length : Int) + 4 * (L.length : Int) + 2 * (su : Int) + 2 * (ts.length : Int) < 0) = false := by rw [decide_eq_false_iff_not]; omega
    have F28 : Ext w3 w28 := (hx312.trans E23).turn TP (fun b hb => (HPL.out b hb).1)
    have hG := (hG.ext E23).turn TP (fun b hb hS => by have := HPL.out b hS; have := HGB.out b hb; omega)
    have hsp := (hsp.ext E23).turn TP (fun b hb hS => by have := HPL.out b hS; have := HSB.out b hb; omega)
    clear TP E23
    go_wp2_with fail
    refine (c_eqPostingS _ _ _ _ _ _ RR.1 _ (hG.slice post_len) hsp).mono ?_
    rintro e w29 ⟨rfl, hx29⟩
    have hG := hG.ext hx29
    have hsp := hsp.ext hx29
    have F29 := F28.trans hx29
    clear hk0 hsu
    go_wp2_with fail
    refine (n_markPosting _ _ _ RR.1 1 _ hG (by omega) (by omega) (by omega)).mono ?_
    obtain ⟨mk, HMK⟩ : ∃ mk, Hid ((1 : Int) + 4 * ((RR.1.length : Nat) : Int) = mk) := ⟨_, hide rfl⟩
    have hm0 : ¬ mk < 0 := by rw [← HMK.out]; omega
    unfold MarkA
    rw [HMK.out]
    rintro e w30 ⟨rfl, hM, trM⟩
    have F30 := F29.turn trM (fun b hb => by have := HGB.out b hb; have := sz310; omega)
    have hsp := hsp.turn trM (fun b hb hS => by have := HSB.out b hb; have := HGB.out b hS; omega)
    clear trM hG
    go_wp2_with fail
    refine (c_heldPostingS _ _ _ 1 _ (hM.slice post_len) (by omega) (by omega) (by omega)).mono ?_
    rw [HMK.out]
    rintro e w31 ⟨rfl, rfl⟩
    have hx031 := hx03.trans F30
    have X31 := X3.trans F30
    have hsp31 := hsp
    have HSB31 := HSB
    clear F28 hx29 F29 HSB hsp
    go_wp2_with fail
    refine wp_region_KP [KC (.agg #[.slice A1 n1 c1, .slice A2 n2 c2]), KNet ns ps, KC (.slice A n c), KSl 8 Contract.cells xs, KC (.slice B m d), KSl 4 Nomination.cells L, KC (.int .i64 h), KC (.slice R nr cr), KRS rs, KC (.agg #[.int .i64 band, .int .i64 percent, .int .i64 price, .slice K kn kc]), KTm band percent price ts, KPC RR, KPC RR, KSl 4 Posting.cells RR.1, KC (.int .i64 RR.2)]
      [0, 1, 2, 3, 4, 5, 6, 7, 8, 9, 10, 11, 12, 13] [14] [[], [0], [], [0, 1, 2], [], [0, 1, 2, 3, 4], [], [], [0, 1, 2, 3, 4, 5, 7], [], [0, 1, 2, 3, 4, 5, 7, 8, 9], [0, 1, 2, 3, 4, 5, 6, 7, 8, 9, 10], [0, 1, 2, 3, 4, 5, 6, 7, 8, 9, 10, 11], [0, 1, 2, 3, 4, 5, 6, 7, 8, 9, 10, 11, 12], [0, 1, 2, 3, 4, 5, 6, 7, 8, 9, 10, 11, 12], [0, 1, 2, 3, 4, 5, 6, 7, 8, 9, 10, 11, 12, 13], [0, 1, 2, 3, 4, 5, 6, 7, 8, 9, 10, 11, 12, 13, 14, 15]] [] (.last [15, 16]) (by kernel_rfl) (by kernel_rfl) (by intro c a w d v h; cases d <;> exact h) (by simp) ⟨stKC _, stKNet _ _, stKC _, stKSl _ _ _, stKC _, stKSl _ _ _, stKC _, stKC _, stKRS _, stKC _, stKTm _ _ _ _, stKPC _, stKPC _, stKSl _ _ _, stKC _, trivial⟩ ?_ ?_ ?_
    · refine ⟨?_, ?_, ?_, ?_, ?_, ?_, ?_, ?_, ?_, ?_, ?_, ?_, ?_, ?_, trivial⟩
      · intro ts wx hts hX hd
        obtain ⟨t0, ts0, rfl, hts0⟩ := vcons hts
        obtain ⟨t1, ts1, rfl, hts1⟩ := vcons hts0
        obtain ⟨t2, ts2, rfl, hts2⟩ := vcons hts1
        obtain ⟨t3, ts3, rfl, hts3⟩ := vcons hts2
        obtain ⟨t4, ts4, rfl, hts4⟩ := vcons hts3
        obtain ⟨t5, ts5, rfl, hts5⟩ := vcons hts4
        obtain ⟨t6, ts6, rfl, hts6⟩ := vcons hts5
        obtain ⟨t7, ts7, rfl, hts7⟩ := vcons hts6
        obtain ⟨t8, ts8, rfl, hts8⟩ := vcons hts7
        obtain ⟨t9, ts9, rfl, hts9⟩ := vcons hts8
        obtain ⟨t10, ts10, rfl, hts10⟩ := vcons hts9
        obtain ⟨t11, ts11, rfl, hts11⟩ := vcons hts10
        obtain ⟨t12, ts12, rfl, hts12⟩ := vcons hts11
        obtain ⟨t13, ts13, rfl, hts13⟩ := vcons hts12
        obtain ⟨t14, ts14, rfl, hts14⟩ := vcons hts13
        obtain ⟨t15, ts15, rfl, hts15⟩ := vcons hts14
        obtain ⟨t16, ts16, rfl, hts16⟩ := vcons hts15
        obtain rfl := vnil hts16
        clear hts hts0 hts1 hts2 hts3 hts4 hts5 hts6 hts7 hts8 hts9 hts10 hts11 hts12 hts13 hts14 hts15 hts16
        simp only [putAll, nthO, Act.put, List.setIfInBounds_toArray, List.set_cons_succ, List.set_cons_zero]
        have hNr := hN.ext ((hx031).trans hX)
        have hb0 := hNr.cell 0
        have hb1 := hNr.cell 1
        simp at hb0 hb1
        have hbl := hNr.lt
        go_wp2_with fail
        exact ⟨Ext.refl _, _, rfl, rfl⟩
      · intro ts wx hts hX hd
        obtain ⟨t0, ts0, rfl, hts0⟩ := vcons hts
        obtain ⟨t1, ts1, rfl, hts1⟩ := vcons hts0
        obtain ⟨t2, ts2, rfl, hts2⟩ := vcons hts1
        obtain ⟨t3, ts3, rfl, hts3⟩ := vcons hts2
        obtain ⟨t4, ts4, rfl, hts4⟩ := vcons hts3
        obtain ⟨t5, ts5, rfl, hts5⟩ := vcons hts4
        obtain ⟨t6, ts6, rfl, hts6⟩ := vcons hts5
        obtain ⟨t7, ts7, rfl, hts7⟩ := vcons hts6
        obtain ⟨t8, ts8, rfl, hts8⟩ := vcons hts7
        obtain ⟨t9, ts9, rfl, hts9⟩ := vcons hts8
        obtain ⟨t10, ts10, rfl, hts10⟩ := vcons hts9
        obtain ⟨t11, ts11, rfl, hts11⟩ := vcons hts10
        obtain ⟨t12, ts12, rfl, hts12⟩ := vcons hts11
        obtain ⟨t13, ts13, rfl, hts13⟩ := vcons hts12
        obtain ⟨t14, ts14, rfl, hts14⟩ := vcons hts13
        obtain ⟨t15, ts15, rfl, hts15⟩ := vcons hts14
        obtain ⟨t16, ts16, rfl, hts16⟩ := vcons hts15
        obtain rfl := vnil hts16
        clear hts hts0 hts1 hts2 hts3 hts4 hts5 hts6 hts7 hts8 hts9 hts10 hts11 hts12 hts13 hts14 hts15 hts16
        simp only [putAll, nthO, Act.put, List.setIfInBounds_toArray, List.set_cons_succ, List.set_cons_zero]
        obtain ⟨rfl, -⟩ := hd
        go_wp2_with fail
        refine (k_toNet A1 A2 n1 c1 n2 c2 ns ps _ (h1.ext ((X31).trans hX)) (h2.ext ((X31).trans hX)) m1 m2).mono ?_
        rintro e wy ⟨v, rfl, hk, hxy⟩
        go_wp2_with fail
        exact ⟨hxy, _, rfl, hk⟩
      · intro ts wx hts hX hd
        obtain ⟨t0, ts0, rfl, hts0⟩ := vcons hts
        obtain ⟨t1, ts1, rfl, hts1⟩ := vcons hts0
        obtain ⟨t2, ts2, rfl, hts2⟩ := vcons hts1
        obtain ⟨t3, ts3, rfl, hts3⟩ := vcons hts2
        obtain ⟨t4, ts4, rfl, hts4⟩ := vcons hts3
        obtain ⟨t5, ts5, rfl, hts5⟩ := vcons hts4
        obtain ⟨t6, ts6, rfl, hts6⟩ := vcons hts5
        obtain ⟨t7, ts7, rfl, hts7⟩ := vcons hts6
        obtain ⟨t8, ts8, rfl, hts8⟩ := vcons hts7
        obtain ⟨t9, ts9, rfl, hts9⟩ := vcons hts8
        obtain ⟨t10, ts10, rfl, hts10⟩ := vcons hts9
        obtain ⟨t11, ts11, rfl, hts11⟩ := vcons hts10
        obtain ⟨t12, ts12, rfl, hts12⟩ := vcons hts11
        obtain ⟨t13, ts13, rfl, hts13⟩ := vcons hts12
        obtain ⟨t14, ts14, rfl, hts14⟩ := vcons hts13
        obtain ⟨t15, ts15, rfl, hts15⟩ := vcons hts14
        obtain ⟨t16, ts16, rfl, hts16⟩ := vcons hts15
        obtain rfl := vnil hts16
        clear hts hts0 hts1 hts2 hts3 hts4 hts5 hts6 hts7 hts8 hts9 hts10 hts11 hts12 hts13 hts14 hts15 hts16
        simp only [putAll, nthO, Act.put, List.setIfInBounds_toArray, List.set_cons_succ, List.set_cons_zero]
        go_wp2_with fail
        exact ⟨Ext.refl _, _, rfl, rfl⟩
      · intro ts wx hts hX hd
        obtain ⟨t0, ts0, rfl, hts0⟩ := vcons hts
        obtain ⟨t1, ts1, rfl, hts1⟩ := vcons hts0
        obtain ⟨t2, ts2, rfl, hts2⟩ := vcons hts1
        obtain ⟨t3, ts3, rfl, hts3⟩ := vcons hts2
        obtain ⟨t4, ts4, rfl, hts4⟩ := vcons hts3
        obtain ⟨t5, ts5, rfl, hts5⟩ := vcons hts4
        obtain ⟨t6, ts6, rfl, hts6⟩ := vcons hts5
        obtain ⟨t7, ts7, rfl, hts7⟩ := vcons hts6
        obtain ⟨t8, ts8, rfl, hts8⟩ := vcons hts7
        obtain ⟨t9, ts9, rfl, hts9⟩ := vcons hts8
        obtain ⟨t10, ts10, rfl, hts10⟩ := vcons hts9
        obtain ⟨t11, ts11, rfl, hts11⟩ := vcons hts10
        obtain ⟨t12, ts12, rfl, hts12⟩ := vcons hts11
        obtain ⟨t13, ts13, rfl, hts13⟩ := vcons hts12
        obtain ⟨t14, ts14, rfl, hts14⟩ := vcons hts13
        obtain ⟨t15, ts15, rfl, hts15⟩ := vcons hts14
        obtain ⟨t16, ts16, rfl, hts16⟩ := vcons hts15
        obtain rfl := vnil hts16
        clear hts hts0 hts1 hts2 hts3 hts4 hts5 hts6 hts7 hts8 hts9 hts10 hts11 hts12 hts13 hts14 hts15 hts16
        simp only [putAll, nthO, Act.put, List.setIfInBounds_toArray, List.set_cons_succ, List.set_cons_zero]
        obtain ⟨-, -, rfl, -⟩ := hd
        go_wp2_with fail
        refine (k_toBook A n c xs _ (hs.ext ((X31).trans hX)) m3).mono ?_
        rintro e wy ⟨v, rfl, hk, hxy⟩
        go_wp2_with fail
        exact ⟨hxy, _, rfl, hk⟩
      · intro ts wx hts hX hd
        obtain ⟨t0, ts0, rfl, hts0⟩ := vcons hts
        obtain ⟨t1, ts1, rfl, hts1⟩ := vcons hts0
        obtain ⟨t2, ts2, rfl, hts2⟩ := vcons hts1
        obtain ⟨t3, ts3, rfl, hts3⟩ := vcons hts2
        obtain ⟨t4, ts4, rfl, hts4⟩ := vcons hts3
        obtain ⟨t5, ts5, rfl, hts5⟩ := vcons hts4
        obtain ⟨t6, ts6, rfl, hts6⟩ := vcons hts5
        obtain ⟨t7, ts7, rfl, hts7⟩ := vcons hts6
        obtain ⟨t8, ts8, rfl, hts8⟩ := vcons hts7
        obtain ⟨t9, ts9, rfl, hts9⟩ := vcons hts8
        obtain ⟨t10, ts10, rfl, hts10⟩ := vcons hts9
        obtain ⟨t11, ts11, rfl, hts11⟩ := vcons hts10
        obtain ⟨t12, ts12, rfl, hts12⟩ := vcons hts11
        obtain ⟨t13, ts13, rfl, hts13⟩ := vcons hts12
        obtain ⟨t14, ts14, rfl, hts14⟩ := vcons hts13
        obtain ⟨t15, ts15, rfl, hts15⟩ := vcons hts14
        obtain ⟨t16, ts16, rfl, hts16⟩ := vcons hts15
        obtain rfl := vnil hts16
        clear hts hts0 hts1 hts2 hts3 hts4 hts5 hts6 hts7 hts8 hts9 hts10 hts11 hts12 hts13 hts14 hts15 hts16
        simp only [putAll, nthO, Act.put, List.setIfInBounds_toArray, List.set_cons_succ, List.set_cons_zero]
        go_wp2_with fail
        exact ⟨Ext.refl _, _, rfl, rfl⟩
      · intro ts wx hts hX hd
        obtain ⟨t0, ts0, rfl, hts0⟩ := vcons hts
        obtain ⟨t1, ts1, rfl, hts1⟩ := vcons hts0
        obtain ⟨t2, ts2, rfl, hts2⟩ := vcons hts1
        obtain ⟨t3, ts3, rfl, hts3⟩ := vcons hts2
        obtain ⟨t4, ts4, rfl, hts4⟩ := vcons hts3
        obtain ⟨t5, ts5, rfl, hts5⟩ := vcons hts4
        obtain ⟨t6, ts6, rfl, hts6⟩ := vcons hts5
        obtain ⟨t7, ts7, rfl, hts7⟩ := vcons hts6
        obtain ⟨t8, ts8, rfl, hts8⟩ := vcons hts7
        obtain ⟨t9, ts9, rfl, hts9⟩ := vcons hts8
        obtain ⟨t10, ts10, rfl, hts10⟩ := vcons hts9
        obtain ⟨t11, ts11, rfl, hts11⟩ := vcons hts10
        obtain ⟨t12, ts12, rfl, hts12⟩ := vcons hts11
        obtain ⟨t13, ts13, rfl, hts13⟩ := vcons hts12
        obtain ⟨t14, ts14, rfl, hts14⟩ := vcons hts13
        obtain ⟨t15, ts15, rfl, hts15⟩ := vcons hts14
        obtain ⟨t16, ts16, rfl, hts16⟩ := vcons hts15
        obtain rfl := vnil hts16
        clear hts hts0 hts1 hts2 hts3 hts4 hts5 hts6 hts7 hts8 hts9 hts10 hts11 hts12 hts13 hts14 hts15 hts16
        simp only [putAll, nthO, Act.put, List.setIfInBounds_toArray, List.set_cons_succ, List.set_cons_zero]
        obtain ⟨-, -, -, -, rfl, -⟩ := hd
        go_wp2_with fail
        refine (k_toNoms B m d L _ (hL.ext ((X31).trans hX)) m4).mono ?_
        rintro e wy ⟨v, rfl, hk, hxy⟩
        go_wp2_with fail
        exact ⟨hxy, _, rfl, hk⟩
      · intro ts wx hts hX hd
        obtain ⟨t0, ts0, rfl, hts0⟩ := vcons hts
        obtain ⟨t1, ts1, rfl, hts1⟩ := vcons hts0
        obtain ⟨t2, ts2, rfl, hts2⟩ := vcons hts1
        obtain ⟨t3, ts3, rfl, hts3⟩ := vcons hts2
        obtain ⟨t4, ts4, rfl, hts4⟩ := vcons hts3
        obtain ⟨t5, ts5, rfl, hts5⟩ := vcons hts4
        obtain ⟨t6, ts6, rfl, hts6⟩ := vcons hts5
        obtain ⟨t7, ts7, rfl, hts7⟩ := vcons hts6
        obtain ⟨t8, ts8, rfl, hts8⟩ := vcons hts7
        obtain ⟨t9, ts9, rfl, hts9⟩ := vcons hts8
        obtain ⟨t10, ts10, rfl, hts10⟩ := vcons hts9
        obtain ⟨t11, ts11, rfl, hts11⟩ := vcons hts10
        obtain ⟨t12, ts12, rfl, hts12⟩ := vcons hts11
        obtain ⟨t13, ts13, rfl, hts13⟩ := vcons hts12
        obtain ⟨t14, ts14, rfl, hts14⟩ := vcons hts13
        obtain ⟨t15, ts15, rfl, hts15⟩ := vcons hts14
        obtain ⟨t16, ts16, rfl, hts16⟩ := vcons hts15
        obtain rfl := vnil hts16
        clear hts hts0 hts1 hts2 hts3 hts4 hts5 hts6 hts7 hts8 hts9 hts10 hts11 hts12 hts13 hts14 hts15 hts16
        simp only [putAll, nthO, Act.put, List.setIfInBounds_toArray, List.set_cons_succ, List.set_cons_zero]
        go_wp2_with fail
        exact ⟨Ext.refl _, _, rfl, rfl⟩
      · intro ts wx hts hX hd
        obtain ⟨t0, ts0, rfl, hts0⟩ := vcons hts
        obtain ⟨t1, ts1, rfl, hts1⟩ := vcons hts0
        obtain ⟨t2, ts2, rfl, hts2⟩ := vcons hts1
        obtain ⟨t3, ts3, rfl, hts3⟩ := vcons hts2
        obtain ⟨t4, ts4, rfl, hts4⟩ := vcons hts3
        obtain ⟨t5, ts5, rfl, hts5⟩ := vcons hts4
        obtain ⟨t6, ts6, rfl, hts6⟩ := vcons hts5
        obtain ⟨t7, ts7, rfl, hts7⟩ := vcons hts6
        obtain ⟨t8, ts8, rfl, hts8⟩ := vcons hts7
        obtain ⟨t9, ts9, rfl, hts9⟩ := vcons hts8
        obtain ⟨t10, ts10, rfl, hts10⟩ := vcons hts9
        obtain ⟨t11, ts11, rfl, hts11⟩ := vcons hts10
        obtain ⟨t12, ts12, rfl, hts12⟩ := vcons hts11
        obtain ⟨t13, ts13, rfl, hts13⟩ := vcons hts12
        obtain ⟨t14, ts14, rfl, hts14⟩ := vcons hts13
        obtain ⟨t15, ts15, rfl, hts15⟩ := vcons hts14
        obtain ⟨t16, ts16, rfl, hts16⟩ := vcons hts15
        obtain rfl := vnil hts16
        clear hts hts0 hts1 hts2 hts3 hts4 hts5 hts6 hts7 hts8 hts9 hts10 hts11 hts12 hts13 hts14 hts15 hts16
        simp only [putAll, nthO, Act.put, List.setIfInBounds_toArray, List.set_cons_succ, List.set_cons_zero]
        go_wp2_with fail
        exact ⟨Ext.refl _, _, rfl, rfl⟩
      · intro ts wx hts hX hd
        obtain ⟨t0, ts0, rfl, hts0⟩ := vcons hts
        obtain ⟨t1, ts1, rfl, hts1⟩ := vcons hts0
        obtain ⟨t2, ts2, rfl, hts2⟩ := vcons hts1
        obtain ⟨t3, ts3, rfl, hts3⟩ := vcons hts2
        obtain ⟨t4, ts4, rfl, hts4⟩ := vcons hts3
        obtain ⟨t5, ts5, rfl, hts5⟩ := vcons hts4
        obtain ⟨t6, ts6, rfl, hts6⟩ := vcons hts5
        obtain ⟨t7, ts7, rfl, hts7⟩ := vcons hts6
        obtain ⟨t8, ts8, rfl, hts8⟩ := vcons hts7
        obtain ⟨t9, ts9, rfl, hts9⟩ := vcons hts8
        obtain ⟨t10, ts10, rfl, hts10⟩ := vcons hts9
        obtain ⟨t11, ts11, rfl, hts11⟩ := vcons hts10
        obtain ⟨t12, ts12, rfl, hts12⟩ := vcons hts11
        obtain ⟨t13, ts13, rfl, hts13⟩ := vcons hts12
        obtain ⟨t14, ts14, rfl, hts14⟩ := vcons hts13
        obtain ⟨t15, ts15, rfl, hts15⟩ := vcons hts14
        obtain ⟨t16, ts16, rfl, hts16⟩ := vcons hts15
        obtain rfl := vnil hts16
        clear hts hts0 hts1 hts2 hts3 hts4 hts5 hts6 hts7 hts8 hts9 hts10 hts11 hts12 hts13 hts14 hts15 hts16
        simp only [putAll, nthO, Act.put, List.setIfInBounds_toArray, List.set_cons_succ, List.set_cons_zero]
        obtain ⟨-, -, -, -, -, -, rfl, -⟩ := hd
        go_wp2_with fail
        refine (k_toReadSS R nr cr rs _ (hR.ext ((X31).trans hX)) (fun q hq => (HRS.out q hq).ext ((X31).trans hX)) m5 HQN.out).mono ?_
        rintro e wy ⟨v, rfl, hk, hxy⟩
        go_wp2_with fail
        exact ⟨hxy, _, rfl, hk⟩
      · intro ts wx hts hX hd
        obtain ⟨t0, ts0, rfl, hts0⟩ := vcons hts
        obtain ⟨t1, ts1, rfl, hts1⟩ := vcons hts0
        obtain ⟨t2, ts2, rfl, hts2⟩ := vcons hts1
        obtain ⟨t3, ts3, rfl, hts3⟩ := vcons hts2
        obtain ⟨t4, ts4, rfl, hts4⟩ := vcons hts3
        obtain ⟨t5, ts5, rfl, hts5⟩ := vcons hts4
        obtain ⟨t6, ts6, rfl, hts6⟩ := vcons hts5
        obtain ⟨t7, ts7, rfl, hts7⟩ := vcons hts6
        obtain ⟨t8, ts8, rfl, hts8⟩ := vcons hts7
        obtain ⟨t9, ts9, rfl, hts9⟩ := vcons hts8
        obtain ⟨t10, ts10, rfl, hts10⟩ := vcons hts9
        obtain ⟨t11, ts11, rfl, hts11⟩ := vcons hts10
        obtain ⟨t12, ts12, rfl, hts12⟩ := vcons hts11
        obtain ⟨t13, ts13, rfl, hts13⟩ := vcons hts12
        obtain ⟨t14, ts14, rfl, hts14⟩ := vcons hts13
        obtain ⟨t15, ts15, rfl, hts15⟩ := vcons hts14
        obtain ⟨t16, ts16, rfl, hts16⟩ := vcons hts15
        obtain rfl := vnil hts16
        clear hts hts0 hts1 hts2 hts3 hts4 hts5 hts6 hts7 hts8 hts9 hts10 hts11 hts12 hts13 hts14 hts15 hts16
        simp only [putAll, nthO, Act.put, List.setIfInBounds_toArray, List.set_cons_succ, List.set_cons_zero]
        have hTr := hT.ext ((hx031).trans hX)
        have y0 := hTr.cell 0
        have y1 := hTr.cell 1
        have y2 := hTr.cell 2
        have y3 := hTr.cell 3
        simp at y0 y1 y2 y3
        have hyl := hTr.lt
        go_wp2_with fail
        exact ⟨Ext.refl _, _, rfl, rfl⟩
      · intro ts wx hts hX hd
        obtain ⟨t0, ts0, rfl, hts0⟩ := vcons hts
        obtain ⟨t1, ts1, rfl, hts1⟩ := vcons hts0
        obtain ⟨t2, ts2, rfl, hts2⟩ := vcons hts1
        obtain ⟨t3, ts3, rfl, hts3⟩ := vcons hts2
        obtain ⟨t4, ts4, rfl, hts4⟩ := vcons hts3
        obtain ⟨t5, ts5, rfl, hts5⟩ := vcons hts4
        obtain ⟨t6, ts6, rfl, hts6⟩ := vcons hts5
        obtain ⟨t7, ts7, rfl, hts7⟩ := vcons hts6
        obtain ⟨t8, ts8, rfl, hts8⟩ := vcons hts7
        obtain ⟨t9, ts9, rfl, hts9⟩ := vcons hts8
        obtain ⟨t10, ts10, rfl, hts10⟩ := vcons hts9
        obtain ⟨t11, ts11, rfl, hts11⟩ := vcons hts10
        obtain ⟨t12, ts12, rfl, hts12⟩ := vcons hts11
        obtain ⟨t13, ts13, rfl, hts13⟩ := vcons hts12
        obtain ⟨t14, ts14, rfl, hts14⟩ := vcons hts13
        obtain ⟨t15, ts15, rfl, hts15⟩ := vcons hts14
        obtain ⟨t16, ts16, rfl, hts16⟩ := vcons hts15
        obtain rfl := vnil hts16
        clear hts hts0 hts1 hts2 hts3 hts4 hts5 hts6 hts7 hts8 hts9 hts10 hts11 hts12 hts13 hts14 hts15 hts16
        simp only [putAll, nthO, Act.put, List.setIfInBounds_toArray, List.set_cons_succ, List.set_cons_zero]
        obtain ⟨-, -, -, -, -, -, -, -, rfl, -⟩ := hd
        go_wp2_with fail
        refine (k_toTerms band percent price K kn kc ts _ (hK.ext ((X31).trans hX)) m6).mono ?_
        rintro e wy ⟨v, rfl, hk, hxy⟩
        go_wp2_with fail
        exact ⟨hxy, _, rfl, hk⟩
      · intro ts wx hts hX hd
        obtain ⟨t0, ts0, rfl, hts0⟩ := vcons hts
        obtain ⟨t1, ts1, rfl, hts1⟩ := vcons hts0
        obtain ⟨t2, ts2, rfl, hts2⟩ := vcons hts1
        obtain ⟨t3, ts3, rfl, hts3⟩ := vcons hts2
        obtain ⟨t4, ts4, rfl, hts4⟩ := vcons hts3
        obtain ⟨t5, ts5, rfl, hts5⟩ := vcons hts4
        obtain ⟨t6, ts6, rfl, hts6⟩ := vcons hts5
        obtain ⟨t7, ts7, rfl, hts7⟩ := vcons hts6
        obtain ⟨t8, ts8, rfl, hts8⟩ := vcons hts7
        obtain ⟨t9, ts9, rfl, hts9⟩ := vcons hts8
        obtain ⟨t10, ts10, rfl, hts10⟩ := vcons hts9
        obtain ⟨t11, ts11, rfl, hts11⟩ := vcons hts10
        obtain ⟨t12, ts12, rfl, hts12⟩ := vcons hts11
        obtain ⟨t13, ts13, rfl, hts13⟩ := vcons hts12
        obtain ⟨t14, ts14, rfl, hts14⟩ := vcons hts13
        obtain ⟨t15, ts15, rfl, hts15⟩ := vcons hts14
        obtain ⟨t16, ts16, rfl, hts16⟩ := vcons hts15
        obtain rfl := vnil hts16
        clear hts hts0 hts1 hts2 hts3 hts4 hts5 hts6 hts7 hts8 hts9 hts10 hts11 hts12 hts13 hts14 hts15 hts16
        simp only [putAll, nthO, Act.put, List.setIfInBounds_toArray, List.set_cons_succ, List.set_cons_zero]
        obtain ⟨-, k1, -, k3, -, k5, rfl, -, k8, -, k10, -⟩ := hd
        go_wp2_with fail
        refine (k_impl k1 k3 k5 k8 k10).mono ?_
        rw [HRR.out]
        rintro e wy ⟨v, rfl, hk, hxy⟩
        go_wp2_with fail
        exact ⟨hxy, _, rfl, hk⟩
      · intro ts wx hts hX hd
        obtain ⟨t0, ts0, rfl, hts0⟩ := vcons hts
        obtain ⟨t1, ts1, rfl, hts1⟩ := vcons hts0
        obtain ⟨t2, ts2, rfl, hts2⟩ := vcons hts1
        obtain ⟨t3, ts3, rfl, hts3⟩ := vcons hts2
        obtain ⟨t4, ts4, rfl, hts4⟩ := vcons hts3
        obtain ⟨t5, ts5, rfl, hts5⟩ := vcons hts4
        obtain ⟨t6, ts6, rfl, hts6⟩ := vcons hts5
        obtain ⟨t7, ts7, rfl, hts7⟩ := vcons hts6
        obtain ⟨t8, ts8, rfl, hts8⟩ := vcons hts7
        obtain ⟨t9, ts9, rfl, hts9⟩ := vcons hts8
        obtain ⟨t10, ts10, rfl, hts10⟩ := vcons hts9
        obtain ⟨t11, ts11, rfl, hts11⟩ := vcons hts10
        obtain ⟨t12, ts12, rfl, hts12⟩ := vcons hts11
        obtain ⟨t13, ts13, rfl, hts13⟩ := vcons hts12
        obtain ⟨t14, ts14, rfl, hts14⟩ := vcons hts13
        obtain ⟨t15, ts15, rfl, hts15⟩ := vcons hts14
        obtain ⟨t16, ts16, rfl, hts16⟩ := vcons hts15
        obtain rfl := vnil hts16
        clear hts hts0 hts1 hts2 hts3 hts4 hts5 hts6 hts7 hts8 hts9 hts10 hts11 hts12 hts13 hts14 hts15 hts16
        simp only [putAll, nthO, Act.put, List.setIfInBounds_toArray, List.set_cons_succ, List.set_cons_zero]
        obtain ⟨-, -, -, -, -, -, -, -, -, -, -, hk, -⟩ := hd
        go_wp2_with fail
        exact ⟨Ext.refl _, _, rfl, hk⟩
      · intro ts wx hts hX hd
        obtain ⟨t0, ts0, rfl, hts0⟩ := vcons hts
        obtain ⟨t1, ts1, rfl, hts1⟩ := vcons hts0
        obtain ⟨t2, ts2, rfl, hts2⟩ := vcons hts1
        obtain ⟨t3, ts3, rfl, hts3⟩ := vcons hts2
        obtain ⟨t4, ts4, rfl, hts4⟩ := vcons hts3
        obtain ⟨t5, ts5, rfl, hts5⟩ := vcons hts4
        obtain ⟨t6, ts6, rfl, hts6⟩ := vcons hts5
        obtain ⟨t7, ts7, rfl, hts7⟩ := vcons hts6
        obtain ⟨t8, ts8, rfl, hts8⟩ := vcons hts7
        obtain ⟨t9, ts9, rfl, hts9⟩ := vcons hts8
        obtain ⟨t10, ts10, rfl, hts10⟩ := vcons hts9
        obtain ⟨t11, ts11, rfl, hts11⟩ := vcons hts10
        obtain ⟨t12, ts12, rfl, hts12⟩ := vcons hts11
        obtain ⟨t13, ts13, rfl, hts13⟩ := vcons hts12
        obtain ⟨t14, ts14, rfl, hts14⟩ := vcons hts13
        obtain ⟨t15, ts15, rfl, hts15⟩ := vcons hts14
        obtain ⟨t16, ts16, rfl, hts16⟩ := vcons hts15
        obtain rfl := vnil hts16
        clear hts hts0 hts1 hts2 hts3 hts4 hts5 hts6 hts7 hts8 hts9 hts10 hts11 hts12 hts13 hts14 hts15 hts16
        simp only [putAll, nthO, Act.put, List.setIfInBounds_toArray, List.set_cons_succ, List.set_cons_zero]
        obtain ⟨-, -, -, -, -, -, -, -, -, -, -, -, ⟨a, rfl, hk⟩, -⟩ := hd
        go_wp2_with fail
        exact ⟨Ext.refl _, _, rfl, hk⟩
    · refine ⟨?_, trivial⟩
      intro ts wx hts hX hd
      obtain ⟨t0, ts0, rfl, hts0⟩ := vcons hts
      obtain ⟨t1, ts1, rfl, hts1⟩ := vcons hts0
      obtain ⟨t2, ts2, rfl, hts2⟩ := vcons hts1
      obtain ⟨t3, ts3, rfl, hts3⟩ := vcons hts2
      obtain ⟨t4, ts4, rfl, hts4⟩ := vcons hts3
      obtain ⟨t5, ts5, rfl, hts5⟩ := vcons hts4
      obtain ⟨t6, ts6, rfl, hts6⟩ := vcons hts5
      obtain ⟨t7, ts7, rfl, hts7⟩ := vcons hts6
      obtain ⟨t8, ts8, rfl, hts8⟩ := vcons hts7
      obtain ⟨t9, ts9, rfl, hts9⟩ := vcons hts8
      obtain ⟨t10, ts10, rfl, hts10⟩ := vcons hts9
      obtain ⟨t11, ts11, rfl, hts11⟩ := vcons hts10
      obtain ⟨t12, ts12, rfl, hts12⟩ := vcons hts11
      obtain ⟨t13, ts13, rfl, hts13⟩ := vcons hts12
      obtain ⟨t14, ts14, rfl, hts14⟩ := vcons hts13
      obtain ⟨t15, ts15, rfl, hts15⟩ := vcons hts14
      obtain ⟨t16, ts16, rfl, hts16⟩ := vcons hts15
      obtain rfl := vnil hts16
      clear hts hts0 hts1 hts2 hts3 hts4 hts5 hts6 hts7 hts8 hts9 hts10 hts11 hts12 hts13 hts14 hts15 hts16
      simp only [putAll, nthO, Act.put, List.setIfInBounds_toArray, List.set_cons_succ, List.set_cons_zero]
      obtain ⟨-, -, -, -, -, -, -, -, -, -, -, -, ⟨a, rfl, hk⟩, -⟩ := hd
      repeat (go_big_quiet_step (fail))
      exact wpQuiet_nil ⟨_, rfl, rfl⟩
    ·
      intro ts wx hts hX hd
      obtain ⟨t0, ts0, rfl, hts0⟩ := vcons hts
      obtain ⟨t1, ts1, rfl, hts1⟩ := vcons hts0
      obtain ⟨t2, ts2, rfl, hts2⟩ := vcons hts1
      obtain ⟨t3, ts3, rfl, hts3⟩ := vcons hts2
      obtain ⟨t4, ts4, rfl, hts4⟩ := vcons hts3
      obtain ⟨t5, ts5, rfl, hts5⟩ := vcons hts4
      obtain ⟨t6, ts6, rfl, hts6⟩ := vcons hts5
      obtain ⟨t7, ts7, rfl, hts7⟩ := vcons hts6
      obtain ⟨t8, ts8, rfl, hts8⟩ := vcons hts7
      obtain ⟨t9, ts9, rfl, hts9⟩ := vcons hts8
      obtain ⟨t10, ts10, rfl, hts10⟩ := vcons hts9
      obtain ⟨t11, ts11, rfl, hts11⟩ := vcons hts10
      obtain ⟨t12, ts12, rfl, hts12⟩ := vcons hts11
      obtain ⟨t13, ts13, rfl, hts13⟩ := vcons hts12
      obtain ⟨t14, ts14, rfl, hts14⟩ := vcons hts13
      obtain ⟨t15, ts15, rfl, hts15⟩ := vcons hts14
      obtain ⟨t16, ts16, rfl, hts16⟩ := vcons hts15
      obtain rfl := vnil hts16
      clear hts hts0 hts1 hts2 hts3 hts4 hts5 hts6 hts7 hts8 hts9 hts10 hts11 hts12 hts13 hts14 hts15 hts16
      simp only [putAll, Act.put, List.setIfInBounds_toArray, List.set_cons_succ, List.set_cons_zero]
      obtain ⟨-, -, -, -, -, -, -, -, -, -, -, -, -, h13, h14, -⟩ := hd
      obtain ⟨JP, jn, jc, rfl, hsp⟩ := h13
      obtain rfl := h14
      simp only [wpPhT, pickL, nthO]
      repeat (go_big_quiet_step (fail))
      refine wpQuiet_nil ?_
      go_wp2_with fail
      refine (c_eqPostingS _ _ _ _ _ _ RR.1 _ hsp (hsp31.ext hX)).mono ?_
      rintro e w33 ⟨rfl, hx33⟩
      go_wp2_with fail
      refine (c_heldPostingS _ _ _ 1 _ ((hM.ext (hX.trans hx33)).slice post_len) (by omega) (by omega) (by omega)).mono ?_
      rw [HMK.out]
      rintro e w34 ⟨rfl, rfl⟩
      go_wp2_with fail
      go_ret
      exact Ret.bool rfl (X31.trans (hX.trans hx33))
end Go.Proofs.YtfkpghdmljjegaaGreat
