/-
  The readings that fit orders, and the planned readings of an hour, of the program; exactly.
-/
import Derived.Test.YtpgbmhpddgjccaaGreatSa38
import Derived.Test.YtpgbmhpddgjccaaGreatSb00
namespace Go.Proofs.YtpgbmhpddgjccaaGreat
open Go.RowKit
theorem rdAt_take {os : List Order} {k j : Nat} {s : Int} {o : Order} (h : os[j]? = some o) : rdAt (os.take (j + 1)) k s = rdAt (os.take j) k s + wt ⟨k, s⟩ o := by
  unfold rdAt
  rw [wts_take h, sumZ_append]; simp [sumZ]
theorem rdAt_bd {os : List Order} (h : Amt os) (hl : os.length ≤ 40) (j k : Nat) (s : Int) : 0 ≤ rdAt (os.take j) k s ∧ rdAt (os.take j) k s ≤ 1200000 :=
  rd_bd (fun o ho => h o (List.mem_of_mem_take ho)) (by rw [List.length_take]; omega) k s
set_option maxHeartbeats 4000000 in
theorem c_ReadingsFor (A1 A2 : Option Addr) (n1 c1 n2 c2 : Nat) (ns : List Node) (ps : List Pipe) (A : Option Addr) (n c : Nat) (os : List Order) (w : World) (hs1 : SliceOf w 3 Node.cells A1 n1 c1 ns) (hs2 : SliceOf w 5 Pipe.cells A2 n2 c2 ps) (hs : SliceOf w 4 Order.cells A n c os) : Calls Tryz.prog 116 #[.agg #[.slice A1 n1 c1, .slice A2 n2 c2], .slice A n c] w (RetRZ (rfV n1 ns ps os) w) := by
  have hm1 := hs1.max
  have hp1 := hs1.cap
  have hB := Row.new w 45 [.slice A1 n1 c1, .slice A2 n2 c2]
  have hx0 : Ext w (w.alloc (.cells #[.slice A1 n1 c1, .slice A2 n2 c2] 45)) := Ext.alloc _ _
  by_cases hC : ordC n1 ns ps os = 0
  · have HC := hide hC
    obtain ⟨hnet, hob⟩ := ordC_ok hC
    unfold ordersB at hob
    rw [Bool.and_eq_true, decide_eq_true_eq, List.all_eq_true] at hob
    have HAM := hide (show Amt os from fun o ho => by have := hob.2 o ho; simp only [orderB, Bool.and_eq_true, inB_true] at this; exact this.1.2)
    have hn40 : n ≤ 40 := by rw [hs.len]; exact hob.1
    have HL40 := hide hob.1
    have hn24 : n1 ≤ 24 := by rw [hs1.len]; simp only [netB, Bool.and_eq_true, decide_eq_true_eq] at hnet; exact hnet.1.1.1.2
    clear hnet
    have HLN := hide hs.len
    clear hob hC
    go_enter Tryz.func116, Tryz.ntmps116
    go_wp2_with fail
    refine (c_checkOrders A1 A2 n1 c1 n2 c2 ns ps A n c os _ (hs1.ext hx0) (hs2.ext hx0) (hs.ext hx0)).mono ?_
    rw [HC.out]
    rintro e w1 ⟨rfl, hx1⟩
    have hb0 := (hB.ext hx1).cell 0
    have hb1 := (hB.ext hx1).cell 1
    simp at hb0 hb1
    have hbl := (hB.ext hx1).lt
    have hX1 := hx0.trans hx1
    go_wp2_with fail
    clear hb0 hb1 hbl
    go_loopw [7, 22] (fun u i wr => ∃ (k : Nat) (r : List Reading), k ≤ n1 ∧ i = .int .i64 k ∧ OwnL wr w.heap.size 169 2 Reading.cells u r ∧ Ext w wr ∧ Hid (rfR os k = some r)) (fun _ i _ => n1 - (intOf i).toNat)
    case atStart => exact ⟨0, [], Nat.zero_le _, rfl, OwnL.nil_ _ _ _ _ _, hX1, hide rfl⟩
    case round =>
      clear hX1
      obtain ⟨k, r, hk, rfl, hown, hX, HR⟩ := hrel
      have HLR := hide (rfR_len HR.out)
      by_cases hlt : k < n1
      · go_wp2_with fail
        go_loopw [9, 10, 27] (fun a b i wr => ∃ j : Nat, j ≤ n ∧ i = .int .i64 j ∧ a = .int .i64 (rdAt (os.take j) k 1) ∧ b = .int .i64 (-(rdAt (os.take j) k (-1))) ∧ OwnL wr w.heap.size 169 2 Reading.cells u7 r ∧ Ext w wr) (fun _ _ i _ => n - (intOf i).toNat)
        case atStart => exact ⟨0, Nat.zero_le _, rfl, rfl, rfl, hown, hX⟩
        case round =>
          clear hown hX
          obtain ⟨j, hj, rfl, rfl, rfl, hown, hX⟩ := hrel
          have hp := rdAt_bd HAM.out HL40.out j k 1
          have hq := rdAt_bd HAM.out HL40.out j k (-1)
          obtain ⟨p, hpe⟩ : ∃ p, rdAt (os.take j) k 1 = p := ⟨_, rfl⟩
          obtain ⟨q, hqe⟩ : ∃ q, rdAt (os.take j) k (-1) = q := ⟨_, rfl⟩
          rw [hpe] at hp
          rw [hqe] at hq
          have HP := hide hpe
          have HQ := hide hqe
          rw [hpe, hqe]
          clear hpe hqe
          by_cases hjn : j < n
          · obtain ⟨b, off, o, rfl, hb, hok, hc⟩ := (hs.ext hX).get hjn
            have hc0 := hc 0 _ rfl
            have hc1 := hc 1 _ rfl
            have hc2 := hc 2 _ rfl
            have hc3 := hc 3 _ rfl
            clear hc
            simp only [Nat.add_zero] at hc0
            have hob := HAM.out o (List.mem_of_getElem? hok)
            have HTP := hide (rdAt_take (k := k) (s := 1) hok)
            have HTQ := hide (rdAt_take (k := k) (s := -1) hok)
            clear hok
            cases e0 : (o.node == (k : Int))
            · have hne : ¬ o.node = (k : Int) := by simpa using e0
              have HP2 : Hid (rdAt (os.take (j + 1)) k 1 = p) := hide (by rw [HTP.out, HP.out]; unfold wt; rw [if_neg hne]; omega)
              have HQ2 : Hid (rdAt (os.take (j + 1)) k (-1) = q) := hide (by rw [HTQ.out, HQ.out]; unfold wt; rw [if_neg hne]; omega)
              clear hne
              go_wp2_with fail
              go_roundw
              case rel => exact ⟨j + 1, by omega, by go_num, by rw [HP2.out], by rw [HQ2.out], hown.ext (Ext.alloc _ _), hX.and_alloc _⟩
              case measure => simp [intOf]; omega
            · have hne : o.node = (k : Int) := by simpa using e0
              obtain ⟨u1, hu1⟩ : ∃ u1, (if 0 < o.amount then o.amount else 0) = u1 := ⟨_, rfl⟩
              obtain ⟨u2, hu2⟩ : ∃ u2, (if o.amount < 0 then o.amount else 0) = u2 := ⟨_, rfl⟩
              have hu1b : 0 ≤ u1 ∧ u1 ≤ 30000 := by rw [← hu1]; split <;> omega
              have hu2b : -30000 ≤ u2 ∧ u2 ≤ 0 := by rw [← hu2]; split <;> omega
              have e1 : IntKind.i64.wrap (p + u1) = p + u1 := IntWalk.i64_in _ (by omega)
              have e2 : IntKind.i64.wrap (-q + u2) = -q + u2 := IntWalk.i64_in _ (by omega)
              have HP2 : Hid (rdAt (os.take (j + 1)) k 1 = p + u1) := hide (by
                rw [HTP.out, HP.out, ← hu1]; unfold wt; rw [if_pos hne, sgn_one (.inl rfl), Int.one_mul])
              have HQ2 : Hid (-(rdAt (os.take (j + 1)) k (-1)) = -q + u2) := hide (by
                rw [HTQ.out, HQ.out, ← hu2]; unfold wt; rw [if_pos hne, sgn_one (.inr rfl)]
                by_cases h0 : o.amount < 0
                · rw [if_pos (by omega), if_pos h0]; omega
                · rw [if_neg (by omega), if_neg h0]; omega)
              clear hne
              go_wp2_with fail
              go_roundw
              case rel => exact ⟨j + 1, by omega, by go_num, by rw [HP2.out], by rw [HQ2.out], hown.ext (Ext.alloc _ _), hX.and_alloc _⟩
              case measure => simp [intOf]; omega
          · have hall : os.take j = os := List.take_of_length_le (by rw [← HLN.out]; omega)
            rw [hall] at HP HQ
            clear hall
            by_cases hbig : 30000 < p
            · have HBR := hide (show rfR os (k + 1) = none by simp only [rfR, HR.out]; rw [HP.out, if_pos hbig])
              go_wp2_with fail
              go_ret2
              exact ⟨_, [], 7, rfl, OwnL.nil_ _ _ _ _ _, hX, hide (rfV_bad HC.out HBR.out hlt).symm⟩
            by_cases hbig2 : 30000 < q
            · have HBR := hide (show rfR os (k + 1) = none by simp only [rfR, HR.out]; rw [HP.out, if_neg hbig, HQ.out, if_pos hbig2])
              have hd : decide (-q < -30000) = true := decide_eq_true (by omega)
              go_wp2_with fail
              go_ret2
              exact ⟨_, [], 7, rfl, OwnL.nil_ _ _ _ _ _, hX, hide (rfV_bad HC.out HBR.out hlt).symm⟩
            have hd : decide (-q < -30000) = false := decide_eq_false (by omega)
            have HRN : Hid (rfR os (k + 1) = some (stepR os k (-1) (stepR os k 1 r))) := hide (by simp only [rfR, HR.out]; rw [HP.out, if_neg hbig, HQ.out, if_neg hbig2])
            have hlr := HLR.out
            by_cases hp0 : 0 < p
            · have hpb : ((p : Int) != 0) = true := by rw [bne_iff_ne]; omega
              have HS1 : Hid (stepR os k 1 r = r ++ [⟨k, p⟩]) := hide (by unfold stepR; rw [HP.out, if_pos hp0, Int.one_mul])
              have hzx := hX.size
              go_wp2_with (at_builtin; go_must (refine wpList_append_where rfl _ _ 60 rfl w.heap.size 169 _ 2 16 Tryz.underlying60 reading_info rfl (by decide) Reading.cells reading_len reading_one' _ (r) rfl (hown.ext (Ext.alloc _ _)) wr.heap.size 0 1 1 [⟨k, p⟩] rfl (new_rd wr ⟨k, p⟩ rfl) (by first | omega | (simp; omega)) (by omega) (by first | omega | (simp; omega)) ?_))
              intro v4 w4 ho4 hg4 _
              have hx4 := (hX.and_alloc (.cells #[.int .i64 (k : Int), .int .i64 p] 169)).grown hg4 (fun z hz => hown.block_le hz)
              have hlr1 : (r ++ [(⟨k, p⟩ : Reading)]).length ≤ 2 * k + 1 := by simp; omega
              clear hg4 hown hX hzx
              by_cases hq0 : 0 < q
              · have hqb : ((-q : Int) != 0) = true := by rw [bne_iff_ne]; omega
                have HS2 : Hid (stepR os k (-1) (r ++ [⟨k, p⟩]) = r ++ [⟨k, p⟩] ++ [⟨k, -q⟩]) := hide (by unfold stepR; rw [HQ.out, if_pos hq0, show (-1 : Int) * q = -q by omega])
                have hzz := hx4.size
                go_wp2_with (at_builtin; go_must (refine wpList_append_where rfl _ _ 60 rfl w.heap.size 169 _ 2 16 Tryz.underlying60 reading_info rfl (by decide) Reading.cells reading_len reading_one' _ (r ++ [⟨k, p⟩]) rfl (ho4.ext (Ext.alloc _ _)) w4.heap.size 0 1 1 [⟨k, -q⟩] rfl (new_rd w4 ⟨k, -q⟩ rfl) (by first | omega | (simp; omega)) (by omega) (by first | omega | (simp; omega)) ?_))
                intro v5 w5 ho5 hg5 _
                have hx5 := (hx4.and_alloc (.cells #[.int .i64 (k : Int), .int .i64 (-q)] 169)).grown hg5 (fun z hz => ho4.block_le hz)
                have HRF : Hid (rfR os (k + 1) = some (r ++ [⟨k, p⟩] ++ [⟨k, -q⟩])) := hide (by rw [HRN.out, HS1.out, HS2.out])
                go_wp2_with fail
                go_roundw
                case rel => exact ⟨k + 1, _, by omega, by go_num, ho5, hx5, by first | exact HRF | exact hide (by rw [HRF.out]; simp)⟩
                case measure => simp [intOf]; omega
              · have hqb : ((-q : Int) != 0) = false := by rw [bne_eq_false_iff_eq]; omega
                have HS2 : Hid (stepR os k (-1) (r ++ [⟨k, p⟩]) = r ++ [⟨k, p⟩]) := hide (by unfold stepR; rw [HQ.out, if_neg hq0])
                have HRF : Hid (rfR os (k + 1) = some (r ++ [⟨k, p⟩])) := hide (by rw [HRN.out, HS1.out, HS2.out])
                go_wp2_with fail
                go_roundw
                case rel => exact ⟨k + 1, _, by omega, by go_num, ho4, hx4, HRF⟩
                case measure => simp [intOf]; omega
            · have hpb : ((p : Int) != 0) = false := by rw [bne_eq_false_iff_eq]; omega
              have HS1 : Hid (stepR os k 1 r = r) := hide (by unfold stepR; rw [HP.out, if_neg hp0])
              by_cases hq0 : 0 < q
              · have hqb : ((-q : Int) != 0) = true := by rw [bne_iff_ne]; omega
                have HS2 : Hid (stepR os k (-1) (r) = r ++ [⟨k, -q⟩]) := hide (by unfold stepR; rw [HQ.out, if_pos hq0, show (-1 : Int) * q = -q by omega])
                have hzz := hX.size
                go_wp2_with (at_builtin; go_must (refine wpList_append_where rfl _ _ 60 rfl w.heap.size 169 _ 2 16 Tryz.underlying60 reading_info rfl (by decide) Reading.cells reading_len reading_one' _ (r) rfl (hown.ext (Ext.alloc _ _)) wr.heap.size 0 1 1 [⟨k, -q⟩] rfl (new_rd wr ⟨k, -q⟩ rfl) (by first | omega | (simp; omega)) (by omega) (by first | omega | (simp; omega)) ?_))
                intro v5 w5 ho5 hg5 _
                have hx5 := (hX.and_alloc (.cells #[.int .i64 (k : Int), .int .i64 (-q)] 169)).grown hg5 (fun z hz => hown.block_le hz)
                have HRF : Hid (rfR os (k + 1) = some (r ++ [⟨k, -q⟩])) := hide (by rw [HRN.out, HS1.out, HS2.out])
                go_wp2_with fail
                go_roundw
                case rel => exact ⟨k + 1, _, by omega, by go_num, ho5, hx5, by first | exact HRF | exact hide (by rw [HRF.out]; simp)⟩
                case measure => simp [intOf]; omega
              · have hqb : ((-q : Int) != 0) = false := by rw [bne_eq_false_iff_eq]; omega
                have HS2 : Hid (stepR os k (-1) (r) = r) := hide (by unfold stepR; rw [HQ.out, if_neg hq0])
                have HRF : Hid (rfR os (k + 1) = some (r)) := hide (by rw [HRN.out, HS1.out, HS2.out])
                go_wp2_with fail
                go_roundw
                case rel => exact ⟨k + 1, _, by omega, by go_num, hown, hX, HRF⟩
                case measure => simp [intOf]; omega
      · obtain rfl : n1 = k := by omega
        go_wp2_with fail
        go_ret2
        exact ⟨_, r, 0, rfl, hown, hX, hide (rfV_good HC.out HR.out).symm⟩
  · have HR := hide (show rfV n1 ns ps os = ([], ordC n1 ns ps os) by unfold rfV; rw [if_neg hC])
    have hb : (ordC n1 ns ps os != 0) = true := by rw [bne_iff_ne]; exact hC
    clear hC
    go_enter Tryz.func116, Tryz.ntmps116
    go_wp2_with fail
    refine (c_checkOrders A1 A2 n1 c1 n2 c2 ns ps A n c os _ (hs1.ext hx0) (hs2.ext hx0) (hs.ext hx0)).mono ?_
    generalize ordC n1 ns ps os = Z at *
    rintro e w1 ⟨rfl, hx1⟩
    go_wp2_with fail
    go_ret2
    exact ⟨_, [], Z, rfl, OwnL.nil_ _ _ _ _ _, hx0.trans hx1, hide HR.out.symm⟩
set_option maxHeartbeats 1000000 in
theorem c_PlannedReadings (A1 A2 : Option Addr) (n1 c1 n2 c2 : Nat) (ns : List Node) (ps : List Pipe) (A : Option Addr) (n c : Nat) (xs : List Contract) (B : Option Addr) (m d : Nat) (L : List Nomination) (h : Int) (w : World) (hs1 : SliceOf w 3 Node.cells A1 n1 c1 ns) (hs2 : SliceOf w 5 Pipe.cells A2 n2 c2 ps) (hs : SliceOf w 8 Contract.cells A n c xs) (hL : SliceOf w 4 Nomination.cells B m d L) : Calls Tryz.prog 35 #[.agg #[.slice A1 n1 c1, .slice A2 n2 c2], .slice A n c, .slice B m d, .int .i64 h] w (RetLS 169 Reading.cells (prV n1 ns ps xs L h) w) := by
  have hB := Row.new w 45 [.slice A1 n1 c1, .slice A2 n2 c2]
  have hx0 : Ext w (w.alloc (.cells #[.slice A1 n1 c1, .slice A2 n2 c2] 45)) := Ext.alloc _ _
  have HLN := hide hs.len
  obtain ⟨z, HZ⟩ : ∃ z, Hid (setC n1 ns ps xs L h = z) := ⟨_, hide rfl⟩
  go_enter Tryz.func35, Tryz.ntmps35
  go_wp2_with fail
  refine (c_IsNetwork A1 A2 n1 c1 n2 c2 ns ps _ (hs1.ext hx0) (hs2.ext hx0)).mono ?_
  cases hnet : netB ns ps
  · have HR : Hid (prV n1 ns ps xs L h = ([], 1)) := hide (by unfold prV; rw [if_neg (by rw [setC_net hnet]; decide), setC_net hnet])
    clear hnet
    rintro e w1 ⟨rfl, hx1⟩
    go_wp2_with fail
    go_ret2
    exact RetLS.nil0 (hx0.trans hx1) HR.out.symm
  rintro e w1 ⟨rfl, hx1⟩
  have HNT := hide hnet
  clear hnet
  have hX1 := hx0.trans hx1
  have hb0 := (hB.ext hx1).cell 0
  have hb1 := (hB.ext hx1).cell 1
  simp at hb0 hb1
  have hbl := (hB.ext hx1).lt
  go_wp2_with fail
  refine (c_checkSettle A1 A2 n1 c1 n2 c2 ns ps A n c xs B m d L h _ (hs1.ext hX1) (hs2.ext hX1) (hs.ext hX1) (hL.ext hX1) HNT.out none 0 0 [] (SliceOf.nil.2 (by decide)) (fun q hq => by cases hq)).mono ?_
  rw [show rdB n1 [] = true from rfl, setV_C HNT.out, HZ.out]
  rintro e w2 ⟨rfl, hx2⟩
  clear hb0 hb1 hbl
  have hx02 := hx1.trans hx2
  have hX2 := hx0.trans hx02
  have hb0 := (hB.ext hx02).cell 0
  have hb1 := (hB.ext hx02).cell 1
  simp at hb0 hb1
  have hbl := (hB.ext hx02).lt
  by_cases h0 : z = 0
  · subst h0
    have HK := hide (setC_ok HZ.out)
    have HR : Hid (prV n1 ns ps xs L h = rfV n1 ns ps (hrOrd ps n1 xs L h)) := hide (by unfold prV; rw [if_pos HZ.out])
    have hn20 : n ≤ 20 := by rw [HLN.out]; exact HK.out.le
    go_wp2_with fail
    refine (c_curtailedIn A1 A2 n1 c1 n2 c2 ns ps A n c xs B m d L h _ (hs1.ext hX2) (hs2.ext hX2) (hs.ext hX2) (hL.ext hX2) HK.out).mono ?_
    rintro e w3 ⟨v1, v2, rfl, ho1, ho2, hx3⟩
    have HLO := hide (less_ok HK.out.bk HK.out.nm (ps := ps) h)
    obtain ⟨le, HLE⟩ : ∃ le, Hid (lessT ps n1 xs L h = le) := ⟨_, hide rfl⟩
    have hlel : le.length = n := by rw [← HLE.out, lessT_len, HLN.out]
    rw [HLE.out] at ho1 HLO
    obtain ⟨A4, c4, rfl, hs4⟩ := ho1.sl trn_len (by omega)
    obtain ⟨A5, c5, rfl, -⟩ := ho2.sl intC_len (by omega)
    rw [hlel] at hs4
    rw [hlel]
    clear hb0 hb1 hbl ho1 ho2
    have hx03 := hx02.trans hx3
    have hX3 := hx0.trans hx03
    have hb0 := (hB.ext hx03).cell 0
    have hb1 := (hB.ext hx03).cell 1
    simp at hb0 hb1
    have hbl := (hB.ext hx03).lt
    go_wp2_with fail
    refine wp_region_ph [([0, 1, 2], 3), ([], 4)] [5, 6, 7, 8] (by kernel_rfl) (by kernel_rfl) (by intro c a w d v h; cases d <;> exact h) ?_
    simp only [wpPh, pickL, nthO]
    repeat (go_big_quiet_step (fail))
    refine wpQuiet_nil ?_
    have hXd := hX3.drew
    go_wp2_with fail
    refine (c_hourOrders A n c xs A4 c4 le _ (hs.ext hXd) (hs4.ext (Ext.refl _).drew) (by omega) (fun x hx => (HLO.out x hx).2.2.1)).mono ?_
    rintro e w4 ⟨v4, E4, rfl, ho4, HE4, hx4⟩
    have HO4 : Hid (E4 = hrOrd ps n1 xs L h) := hide (by rw [HE4.out, ← HLE.out]; rfl)
    obtain ⟨A7, c7, rfl, hs7⟩ := ho4.sl order_len (by omega)
    have hX4 := hXd.trans hx4
    go_wp2_with fail
    refine ⟨hx4, ?_⟩
    repeat (go_big_quiet_step (fail))
    refine wpQuiet_nil ?_
    go_wp2_with fail
    refine (c_ReadingsFor A1 A2 n1 c1 n2 c2 ns ps A7 _ c7 E4 _ (hs1.ext hX4) (hs2.ext hX4) hs7).mono ?_
    rintro e w5 ⟨v5, l, z, rfl, ho5, hx5, HP⟩
    have hz4 := hX4.size
    go_wp2_with fail
    refine ⟨hx5, ?_⟩
    repeat (go_big_quiet_step (fail))
    refine wpQuiet_nil ?_
    go_wp2_with fail
    go_ret2
    exact RetLS.of (ho5.lowG hz4) reading_len (by omega) (hX4.trans hx5) (by rw [HP.out, HR.out, HO4.out])
  · have HR : Hid (prV n1 ns ps xs L h = ([], z)) := hide (by unfold prV; rw [if_neg (by rw [HZ.out]; exact h0), HZ.out])
    have hb : (z != 0) = true := by rw [bne_iff_ne]; exact h0
    go_wp2_with fail
    go_ret2
    exact RetLS.nil0 hX2 HR.out.symm
end Go.Proofs.YtpgbmhpddgjccaaGreat
