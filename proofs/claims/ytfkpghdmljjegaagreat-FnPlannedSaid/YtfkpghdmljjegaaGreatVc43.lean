/-
  The curtailed transports, the orders and the planned flows of an hour, of the program; exactly. The readings that fit orders, and the planned readings of an hour, of the program; exactly.
-/
import Derived.Test.YtfkpghdmljjegaaGreatVc41
import Derived.Test.YtfkpghdmljjegaaGreatVc42
import Derived.Test.YtfkpghdmljjegaaGreatVc31
namespace Go.Proofs.YtfkpghdmljjegaaGreat
open Go.RowKit
theorem new_ord2 (W : World) (x y : Order) {g : Nat} (hg : g = W.heap.size) : SliceOf (W.alloc (.cells #[.int .i64 x.shipper, .int .i64 x.node, .int .i64 x.amount, .int .i64 x.cls, .int .i64 y.shipper, .int .i64 y.node, .int .i64 y.amount, .int .i64 y.cls] 199)) 4 Order.cells (some ⟨g, 0, none⟩) 2 2 [x, y] := by
  subst hg
  exact RowOf.slice (xs := [x, y]) (Row.new W 199 ([x, y].flatMap Order.cells)) order_len rfl (by simp)
/-- the curtailed transports and the scales of an hour, of the call's own -/
def RetTS (T : List Trn) (E : List Int) (w : World) (e : Ending) (w' : World) : Prop :=
  ∃ v1 v2, e = .returned (.tuple #[v1, v2]) ∧ OwnL w' w.heap.size 201 4 Trn.cells v1 T ∧ OwnL w' w.heap.size 2 1 intC v2 E ∧ Ext w w'
set_option maxHeartbeats 1000000 in
theorem c_curtailedIn (A1 A2 : Option Addr) (n1 c1 n2 c2 : Nat) (ns : List Node) (ps : List Pipe) (A : Option Addr) (n c : Nat) (xs : List Contract) (B : Option Addr) (m d : Nat) (L : List Nomination) (h : Int) (w : World) (hs1 : SliceOf w 3 Node.cells A1 n1 c1 ns) (hs2 : SliceOf w 5 Pipe.cells A2 n2 c2 ps) (hs : SliceOf w 8 Contract.cells A n c xs) (hL : SliceOf w 4 Nomination.cells B m d L) (hk : HrOk n1 ns ps xs L h) : Calls Tryz.prog 112 #[.agg #[.slice A1 n1 c1, .slice A2 n2 c2], .slice A n c, .slice B m d, .int .i64 h] w (RetTS (lessT ps n1 xs L h) (hrSc ps n1 xs L h) w) := by
  have hB := Row.new w 45 [.slice A1 n1 c1, .slice A2 n2 c2]
  have hx0 : Ext w (w.alloc (.cells #[.slice A1 n1 c1, .slice A2 n2 c2] 45)) := Ext.alloc _ _
  have HLN := hide hs.len
  have HK := hide hk
  have hn20 : n ≤ 20 := by rw [hs.len]; exact hk.le
  have HTO := hide (trn_ok hk.bk hk.nm h)
  clear hk
  go_enter Tryz.func112, Tryz.ntmps112
  go_wp2_with fail
  refine (c_FromNominations A1 A2 n1 c1 n2 c2 ns ps A n c xs B m d L h _ (hs1.ext hx0) (hs2.ext hx0) (hs.ext hx0) (hL.ext hx0) (by omega)).mono ?_
  rintro e w1 ⟨v1, E1, z1, rfl, ho1, hx1, HP⟩
  have hp : (E1, z1) = (trnL xs L h, 0) := by rw [HP.out]; unfold fnV; rw [if_pos (amC_set HK.out)]
  injection hp with hp1 hp2
  subst hp2
  have HE1 := hide hp1
  rw [← HE1.out] at HTO
  have htl : E1.length = n := by rw [HE1.out, trnL_len, HLN.out]
  obtain ⟨A4, c4, rfl, hs4⟩ := ho1.sl trn_len (by omega)
  rw [htl] at hs4
  rw [htl]
  clear HP hp1 ho1
  have hX1 := hx0.trans hx1
  have hb0 := (hB.ext hx1).cell 0
  have hb1 := (hB.ext hx1).cell 1
  simp at hb0 hb1
  have hbl := (hB.ext hx1).lt
  go_wp2_with fail
  refine (c_curtailScales A1 A2 n1 c1 n2 c2 ns ps _ (hs1.ext hX1) (hs2.ext hX1) HK.out.net A4 n c4 E1 hs4 (by omega) HTO.out).mono ?_
  rintro e w2 ⟨v2, E2, rfl, ho2, HE2, hx2⟩
  have HSC : Hid (E2 = hrSc ps n1 xs L h) := hide (by rw [HE2.out, HE1.out]; rfl)
  have hscl : E2.length = 4 := by rw [HSC.out]; exact hrSc_len _ _ _ _ _
  obtain ⟨A5, c5, rfl, hs5⟩ := ho2.sl intC_len (by omega)
  rw [hscl] at hs5 ho2
  rw [hscl]
  have hX2 := hX1.trans hx2
  go_wp2_with fail
  refine (c_scaledTransports A4 n c4 E1 A5 c5 E2 _ (hs4.ext hx2) hs5 (by omega) n1 HTO.out (by rw [HSC.out]; exact hrSc_in _ _ _ _ _)).mono ?_
  rintro e w3 ⟨v3, E3, rfl, ho3, HE3, hx3⟩
  have HLE : Hid (E3 = lessT ps n1 xs L h) := hide (by rw [HE3.out, HE1.out, HSC.out]; rfl)
  have hz1 := hX1.size
  have hz2 := hX2.size
  have ho23 := ho2.ext hx3
  go_wp2_with fail
  go_ret2
  refine ⟨_, _, rfl, ?_, ?_, hX2.trans hx3⟩
  · rw [← HLE.out]; exact ho3.lowG hz2
  · rw [← HSC.out]; exact ho23.lowG hz1
set_option maxHeartbeats 2000000 in
theorem c_hourOrders (A : Option Addr) (n c : Nat) (xs : List Contract) (B : Option Addr) (d : Nat) (ts : List Trn) (w : World) (hs : SliceOf w 8 Contract.cells A n c xs) (hst : SliceOf w 4 Trn.cells B n d ts) (hn : n ≤ 100000) (hb : ∀ x ∈ ts, 0 ≤ x.amount ∧ x.amount ≤ 30000) :
    Calls Tryz.prog 124 #[.slice A n c, .slice B n d] w (RetO (fun E => E = ordL xs (ts.map Trn.amount)) w) := by
  have HB := hide hb
  have HLX := hide hs.len
  have HLA := hide hst.len
  clear hb
  obtain ⟨am, ham⟩ : ∃ am, ts.map Trn.amount = am := ⟨_, rfl⟩
  have HAM := hide ham
  rw [ham]
  clear ham
  go_enter Tryz.func124, Tryz.ntmps124
  go_wp2_with fail
  go_loopw [5, 11] (fun v i wr => ∃ (k : Nat) (T : List Order), k ≤ n ∧ i = .int .i64 k ∧ T.length = 2 * k ∧ Hid (T = ordL (xs.take k) (am.take k)) ∧ OwnL wr w.heap.size 199 4 Order.cells v T ∧ Ext w wr) (fun _ i _ => n - (intOf i).toNat)
  case atStart => exact ⟨0, [], Nat.zero_le _, rfl, rfl, hide (by simp [ordL]), OwnL.nil_ _ _ _ _ _, Ext.refl _⟩
  case round =>
    obtain ⟨k, T, hk, rfl, hTk, HT, ho, hx⟩ := hrel
    by_cases hlt : k < n
    · obtain ⟨b, off, x, hA, hb, hxk, hc⟩ := (hs.ext hx).get hlt
      have hc0 := hc 0 _ rfl
      have hc1 := hc 1 _ rfl
      have hc2 := hc 2 _ rfl
      have hc3 := hc 3 _ rfl
      have hc4 := hc 4 _ rfl
      have hc5 := hc 5 _ rfl
      have hc6 := hc 6 _ rfl
      have hc7 := hc 7 _ rfl
      clear hc
      subst hA
      obtain ⟨ba, oa, t, hB, hba, htk, hct⟩ := (hst.ext hx).get hlt
      have hct2 := hct 2 _ rfl
      clear hct
      subst hB
      simp only [Nat.add_zero] at hc0
      obtain ⟨a, ha⟩ : ∃ a, t.amount = a := ⟨_, rfl⟩
      have hab := HB.out t (List.mem_of_getElem? htk)
      rw [ha] at hct2 hab
      have hak : am[k]? = some a := by rw [← HAM.out, List.getElem?_map, htk, Option.map_some, ha]
      have e1 := ord_bd hab
      have HST : Hid (ordL (xs.take (k + 1)) (am.take (k + 1)) = T ++ [⟨x.shipper, x.entry, a, x.cls⟩, ⟨x.shipper, x.exit, -a, x.cls⟩]) := hide (by rw [ordL_step hxk hak, ← HT.out]; rfl)
      have hxz := hx.size
      obtain ⟨W, HW⟩ : ∃ W, Hid (wr.alloc (.cells #[.int .i64 x.shipper, .int .i64 x.entry, .int .i64 x.exit, .int .i64 x.amount, .int .i64 x.cls, .int .i64 x.start, .int .i64 x.stop, .int .i64 x.price] 153) = W) := ⟨_, hide rfl⟩
      have hxW : Ext wr W := by rw [← HW.out]; exact Ext.alloc _ _
      have hWz : wr.heap.size + 1 = W.heap.size := by rw [← HW.out]; simp
      clear hxk hak htk ha
      go_wp2_with (at_builtin; go_must (refine wpList_append_where rfl _ _ 25 rfl w.heap.size 199 _ 4 32 Tryz.underlying25 order_info rfl (by decide) Order.cells order_len order_one _ T rfl (by rw [HW.out]; exact ho.ext (hxW.and_alloc _)) W.heap.size 0 2 2 [⟨x.shipper, x.entry, a, x.cls⟩, ⟨x.shipper, x.exit, -a, x.cls⟩] rfl (by rw [HW.out]; exact new_ord2 W ⟨x.shipper, x.entry, a, x.cls⟩ ⟨x.shipper, x.exit, -a, x.cls⟩ rfl) (by omega) (by omega) (by rw [HW.out]; simp; omega) ?_))
      intro v2 w2 ho2 hg2 _
      rw [HW.out] at hg2
      have hx2 := (hx.trans (hxW.and_alloc _)).grown hg2 (fun k hk => ho.block_le hk)
      clear hg2 ho
      go_wp2_with fail
      go_roundw
      case rel => exact ⟨k + 1, T ++ [⟨x.shipper, x.entry, a, x.cls⟩, ⟨x.shipper, x.exit, -a, x.cls⟩], by omega, by go_num, by simp; omega, hide HST.out.symm, ho2, hx2⟩
      case measure => simp [intOf]; omega
    · have hal : am.length = n := by rw [← HAM.out, List.length_map, HLA.out]
      go_wp2_with fail
      go_ret
      refine ⟨_, T, rfl, ho, hide ?_, hx⟩
      rw [HT.out, List.take_of_length_le (by rw [← HLX.out]; omega), List.take_of_length_le (by omega)]
set_option maxHeartbeats 1000000 in
theorem c_PlannedFlows (A1 A2 : Option Addr) (n1 c1 n2 c2 : Nat) (ns : List Node) (ps : List Pipe) (A : Option Addr) (n c : Nat) (xs : List Contract) (B : Option Addr) (m d : Nat) (L : List Nomination) (h : Int) (w : World) (hs1 : SliceOf w 3 Node.cells A1 n1 c1 ns) (hs2 : SliceOf w 5 Pipe.cells A2 n2 c2 ps) (hs : SliceOf w 8 Contract.cells A n c xs) (hL : SliceOf w 4 Nomination.cells B m d L) : Calls Tryz.prog 25 #[.agg #[.slice A1 n1 c1, .slice A2 n2 c2], .slice A n c, .slice B m d, .int .i64 h] w (RetLS 2 intC (pfV n1 ns ps xs L h) w) := by
  have hB := Row.new w 45 [.slice A1 n1 c1, .slice A2 n2 c2]
  have hx0 : Ext w (w.alloc (.cells #[.slice A1 n1 c1, .slice A2 n2 c2] 45)) := Ext.alloc _ _
  have HLN := hide hs.len
  obtain ⟨z, HZ⟩ : ∃ z, Hid (setC n1 ns ps xs L h = z) := ⟨_, hide rfl⟩
  go_enter Tryz.func25, Tryz.ntmps25
  go_wp2_with fail
  refine (c_IsNetwork A1 A2 n1 c1 n2 c2 ns ps _ (hs1.ext hx0) (hs2.ext hx0)).mono ?_
  cases hnet : netB ns ps
  · have HR : Hid (pfV n1 ns ps xs L h = ([], 1)) := hide (by unfold pfV; rw [if_neg (by rw [setC_net hnet]; decide), setC_net hnet])
    clear hnet
    rintro e w1 ⟨rfl, hx1⟩
    go_wp2_with fail
    go_ret2
    exact RetLS.nil0 (hx0.trans hx1) HR.out.symm
  rintro e w1 ⟨rfl, hx1⟩
  have HNT := hide hnet
  clear hnet
  have hX1 := hx0.trans hx1
  have hb0 := (hB.ext hx1).cell 0
  have hb1 := (hB.ext hx1).cell 1
  simp at hb0 hb1
  have hbl := (hB.ext hx1).lt
  go_wp2_with fail
  refine (c_checkSettle A1 A2 n1 c1 n2 c2 ns ps A n c xs B m d L h _ (hs1.ext hX1) (hs2.ext hX1) (hs.ext hX1) (hL.ext hX1) HNT.out none 0 0 [] (SliceOf.nil.2 (by decide)) (fun q hq => by cases hq)).mono ?_
  rw [show rdB n1 [] = true from rfl, setV_C HNT.out, HZ.out]
  rintro e w2 ⟨rfl, hx2⟩
  clear hb0 hb1 hbl
  have hx02 := hx1.trans hx2
  have hX2 := hx0.trans hx02
  have hb0 := (hB.ext hx02).cell 0
  have hb1 := (hB.ext hx02).cell 1
  simp at hb0 hb1
  have hbl := (hB.ext hx02).lt
  by_cases h0 : z = 0
  · subst h0
    have HK := hide (setC_ok HZ.out)
    have HR : Hid (pfV n1 ns ps xs L h = routR ps n1 (supT n1 (lessT ps n1 xs L h))) := hide (by unfold pfV; rw [if_pos HZ.out])
    have hn20 : n ≤ 20 := by rw [HLN.out]; exact HK.out.le
    have hn24 : n1 ≤ 24 := by rw [hs1.len]; exact (net_pipes HK.out.net).1.n24
    go_wp2_with fail
    refine (c_curtailedIn A1 A2 n1 c1 n2 c2 ns ps A n c xs B m d L h _ (hs1.ext hX2) (hs2.ext hX2) (hs.ext hX2) (hL.ext hX2) HK.out).mono ?_
    rintro e w3 ⟨v1, v2, rfl, ho1, ho2, hx3⟩
    have HLO := hide (less_ok HK.out.bk HK.out.nm (ps := ps) h)
    obtain ⟨le, HLE⟩ : ∃ le, Hid (lessT ps n1 xs L h = le) := ⟨_, hide rfl⟩
    have hlel : le.length = n := by rw [← HLE.out, lessT_len, HLN.out]
    rw [HLE.out] at ho1 HLO HR
    obtain ⟨A4, c4, rfl, hs4⟩ := ho1.sl trn_len (by omega)
    obtain ⟨A5, c5, rfl, -⟩ := ho2.sl intC_len (by omega)
    rw [hlel] at hs4
    rw [hlel]
    clear hb0 hb1 hbl ho1 ho2
    have hx03 := hx02.trans hx3
    have hX3 := hx0.trans hx03
    have hb0 := (hB.ext hx03).cell 0
    have hb1 := (hB.ext hx03).cell 1
    simp at hb0 hb1
    have hbl := (hB.ext hx03).lt
    go_wp2_with fail
    refine wp_region_ph [([0, 1, 2], 3), ([], 4)] [5, 6, 7, 8] (by kernel_rfl) (by kernel_rfl) (by intro c a w d v h; cases d <;> exact h) ?_
    simp only [wpPh, pickL, nthO]
    repeat (go_big_quiet_step (fail))
    refine wpQuiet_nil ?_
    have hXd := hX3.drew
    go_wp2_with fail
    refine (c_transportSupplies A1 A2 n1 c1 n2 c2 A4 n c4 le _ (hs4.ext (Ext.refl _).drew) (by omega) (by omega) HLO.out).mono ?_
    rintro e w4 ⟨v4, E4, rfl, ho4, HE4, hx4⟩
    have h4l : E4.length = n1 := by rw [HE4.out]; exact supT_len _ _
    obtain ⟨A7, c7, rfl, hs7⟩ := ho4.sl intC_len (by omega)
    rw [h4l] at hs7
    rw [h4l]
    have hX4 := hXd.trans hx4
    go_wp2_with fail
    refine ⟨hx4, ?_⟩
    repeat (go_big_quiet_step (fail))
    refine wpQuiet_nil ?_
    go_wp2_with fail
    refine (c_RouteSupplies A1 A2 n1 c1 n2 c2 ns ps _ (hs1.ext hX4) (hs2.ext hX4) HNT.out A7 c7 E4 hs7).mono ?_
    intro e w5 hrt
    have hrt2 := hrt.low hX4
    obtain ⟨_, _, _, _, _, _, -, -, -, -, -, hx5, -⟩ := hrt
    obtain ⟨A8, n8, c8, g8, l, z, rfl, hr1, hr2, hr3, hr4, hr5, HP⟩ := hrt2
    go_wp2_with fail
    refine ⟨hx5, ?_⟩
    repeat (go_big_quiet_step (fail))
    refine wpQuiet_nil ?_
    go_wp2_with fail
    go_ret2
    exact ⟨_, _, _, g8, l, z, rfl, hr1, hr2, hr3, hr4, hr5, hide (by rw [HP.out, HR.out, HE4.out])⟩
  · have HR : Hid (pfV n1 ns ps xs L h = ([], z)) := hide (by unfold pfV; rw [if_neg (by rw [HZ.out]; exact h0), HZ.out])
    have hb : (z != 0) = true := by rw [bne_iff_ne]; exact h0
    go_wp2_with fail
    go_ret2
    exact RetLS.nil0 hX2 HR.out.symm
end Go.Proofs.YtfkpghdmljjegaaGreat

namespace Go.Proofs.YtfkpghdmljjegaaGreat
open Go.RowKit
theorem rdAt_take {os : List Order} {k j : Nat} {s : Int} {o : Order} (h : os[j]? = some o) : rdAt (os.take (j + 1)) k s = rdAt (os.take j) k s + wt ⟨k, s⟩ o := by
  unfold rdAt
  rw [wts_take h, sumZ_append]; simp [sumZ]
theorem rdAt_bd {os : List Order} (h : Amt os) (hl : os.length ≤ 40) (j k : Nat) (s : Int) : 0 ≤ rdAt (os.take j) k s ∧ rdAt (os.take j) k s ≤ 1200000 :=
  rd_bd (fun o ho => h o (List.mem_of_mem_take ho)) (by rw [List.length_take]; omega) k s
set_option maxHeartbeats 4000000 in
theorem c_ReadingsFor (A1 A2 : Option Addr) (n1 c1 n2 c2 : Nat) (ns : List Node) (ps : List Pipe) (A : Option Addr) (n c : Nat) (os : List Order) (w : World) (hs1 : SliceOf w 3 Node.cells A1 n1 c1 ns) (hs2 : SliceOf w 5 Pipe.cells A2 n2 c2 ps) (hs : SliceOf w 4 Order.cells A n c os) : Calls Tryz.prog 123 #[.agg #[.slice A1 n1 c1, .slice A2 n2 c2], .slice A n c] w (RetRZ (rfV n1 ns ps os) w) := by
  have hm1 := hs1.max
  have hp1 := hs1.cap
  have hB := Row.new w 45 [.slice A1 n1 c1, .slice A2 n2 c2]
  have hx0 : Ext w (w.alloc (.cells #[.slice A1 n1 c1, .slice A2 n2 c2] 45)) := Ext.alloc _ _
  by_cases hC : ordC n1 ns ps os = 0
  · have HC := hide hC
    obtain ⟨hnet, hob⟩ := ordC_ok hC
    unfold ordersB at hob
    rw [Bool.and_eq_true, decide_eq_true_eq, List.all_eq_true] at hob
    have HAM := hide (show Amt os from fun o ho => by have := hob.2 o ho; simp only [orderB, Bool.and_eq_true, inB_true] at this; exact this.1.2)
    have hn40 : n ≤ 40 := by rw [hs.len]; exact hob.1
    have HL40 := hide hob.1
    have hn24 : n1 ≤ 24 := by rw [hs1.len]; simp only [netB, Bool.and_eq_true, decide_eq_true_eq] at hnet; exact hnet.1.1.1.2
    clear hnet
    have HLN := hide hs.len
    clear hob hC
    go_enter Tryz.func123, Tryz.ntmps123
    go_wp2_with fail
    refine (c_checkOrders A1 A2 n1 c1 n2 c2 ns ps A n c os _ (hs1.ext hx0) (hs2.ext hx0) (hs.ext hx0)).mono ?_
    rw [HC.out]
    rintro e w1 ⟨rfl, hx1⟩
    have hb0 := (hB.ext hx1).cell 0
    have hb1 := (hB.ext hx1).cell 1
    simp at hb0 hb1
    have hbl := (hB.ext hx1).lt
    have hX1 := hx0.trans hx1
    go_wp2_with fail
    clear hb0 hb1 hbl
    go_loopw [7, 22] (fun u i wr => ∃ (k : Nat) (r : List Reading), k ≤ n1 ∧ i = .int .i64 k ∧ OwnL wr w.heap.size 176 2 Reading.cells u r ∧ Ext w wr ∧ Hid (rfR os k = some r)) (fun _ i _ => n1 - (intOf i).toNat)
    case atStart => exact ⟨0, [], Nat.zero_le _, rfl, OwnL.nil_ _ _ _ _ _, hX1, hide rfl⟩
    case round =>
      clear hX1
      obtain ⟨k, r, hk, rfl, hown, hX, HR⟩ := hrel
      have HLR := hide (rfR_len HR.out)
      by_cases hlt : k < n1
      · go_wp2_with fail
        go_loopw [9, 10, 27] (fun a b i wr => ∃ j : Nat, j ≤ n ∧ i = .int .i64 j ∧ a = .int .i64 (rdAt (os.take j) k 1) ∧ b = .int .i64 (-(rdAt (os.take j) k (-1))) ∧ OwnL wr w.heap.size 176 2 Reading.cells u7 r ∧ Ext w wr) (fun _ _ i _ => n - (intOf i).toNat)
        case atStart => exact ⟨0, Nat.zero_le _, rfl, rfl, rfl, hown, hX⟩
        case round =>
          clear hown hX
          obtain ⟨j, hj, rfl, rfl, rfl, hown, hX⟩ := hrel
          have hp := rdAt_bd HAM.out HL40.out j k 1
          have hq := rdAt_bd HAM.out HL40.out j k (-1)
          obtain ⟨p, hpe⟩ : ∃ p, rdAt (os.take j) k 1 = p := ⟨_, rfl⟩
          obtain ⟨q, hqe⟩ : ∃ q, rdAt (os.take j) k (-1) = q := ⟨_, rfl⟩
          rw [hpe] at hp
          rw [hqe] at hq
          have HP := hide hpe
          have HQ := hide hqe
          rw [hpe, hqe]
          clear hpe hqe
          by_cases hjn : j < n
          · obtain ⟨b, off, o, rfl, hb, hok, hc⟩ := (hs.ext hX).get hjn
            have hc0 := hc 0 _ rfl
            have hc1 := hc 1 _ rfl
            have hc2 := hc 2 _ rfl
            have hc3 := hc 3 _ rfl
            clear hc
            simp only [Nat.add_zero] at hc0
            have hob := HAM.out o (List.mem_of_getElem? hok)
            have HTP := hide (rdAt_take (k := k) (s := 1) hok)
            have HTQ := hide (rdAt_take (k := k) (s := -1) hok)
            clear hok
            cases e0 : (o.node == (k : Int))
            · have hne : ¬ o.node = (k : Int) := by simpa using e0
              have HP2 : Hid (rdAt (os.take (j + 1)) k 1 = p) := hide (by rw [HTP.out, HP.out]; unfold wt; rw [if_neg hne]; omega)
              have HQ2 : Hid (rdAt (os.take (j + 1)) k (-1) = q) := hide (by rw [HTQ.out, HQ.out]; unfold wt; rw [if_neg hne]; omega)
              clear hne
              go_wp2_with fail
              go_roundw
              case rel => exact ⟨j + 1, by omega, by go_num, by rw [HP2.out], by rw [HQ2.out], hown.ext (Ext.alloc _ _), hX.and_alloc _⟩
              case measure => simp [intOf]; omega
            · have hne : o.node = (k : Int) := by simpa using e0
              obtain ⟨u1, hu1⟩ : ∃ u1, (if 0 < o.amount then o.amount else 0) = u1 := ⟨_, rfl⟩
              obtain ⟨u2, hu2⟩ : ∃ u2, (if o.amount < 0 then o.amount else 0) = u2 := ⟨_, rfl⟩
              have hu1b : 0 ≤ u1 ∧ u1 ≤ 30000 := by rw [← hu1]; split <;> omega
              have hu2b : -30000 ≤ u2 ∧ u2 ≤ 0 := by rw [← hu2]; split <;> omega
              have e1 : IntKind.i64.wrap (p + u1) = p + u1 := IntWalk.i64_in _ (by omega)
              have e2 : IntKind.i64.wrap (-q + u2) = -q + u2 := IntWalk.i64_in _ (by omega)
              have HP2 : Hid (rdAt (os.take (j + 1)) k 1 = p + u1) := hide (by
                rw [HTP.out, HP.out, ← hu1]; unfold wt; rw [if_pos hne, sgn_one (.inl rfl), Int.one_mul])
              have HQ2 : Hid (-(rdAt (os.take (j + 1)) k (-1)) = -q + u2) := hide (by
                rw [HTQ.out, HQ.out, ← hu2]; unfold wt; rw [if_pos hne, sgn_one (.inr rfl)]
                by_cases h0 : o.amount < 0
                · rw [if_pos (by omega), if_pos h0]; omega
                · rw [if_neg (by omega), if_neg h0]; omega)
              clear hne
              go_wp2_with fail
              go_roundw
              case rel => exact ⟨j + 1, by omega, by go_num, by rw [HP2.out], by rw [HQ2.out], hown.ext (Ext.alloc _ _), hX.and_alloc _⟩
              case measure => simp [intOf]; omega
          · have hall : os.take j = os := List.take_of_length_le (by rw [← HLN.out]; omega)
            rw [hall] at HP HQ
            clear hall
            by_cases hbig : 30000 < p
            · have HBR := hide (show rfR os (k + 1) = none by simp only [rfR, HR.out]; rw [HP.out, if_pos hbig])
              go_wp2_with fail
              go_ret2
              exact ⟨_, [], 7, rfl, OwnL.nil_ _ _ _ _ _, hX, hide (rfV_bad HC.out HBR.out hlt).symm⟩
            by_cases hbig2 : 30000 < q
            · have HBR := hide (show rfR os (k + 1) = none by simp only [rfR, HR.out]; rw [HP.out, if_neg hbig, HQ.out, if_pos hbig2])
              have hd : decide (-q < -30000) = true := decide_eq_true (by omega)
              go_wp2_with fail
              go_ret2
              exact ⟨_, [], 7, rfl, OwnL.nil_ _ _ _ _ _, hX, hide (rfV_bad HC.out HBR.out hlt).symm⟩
            have hd : decide (-q < -30000) = false := decide_eq_false (by omega)
            have HRN : Hid (rfR os (k + 1) = some (stepR os k (-1) (stepR os k 1 r))) := hide (by simp only [rfR, HR.out]; rw [HP.out, if_neg hbig, HQ.out, if_neg hbig2])
            have hlr := HLR.out
            by_cases hp0 : 0 < p
            · have hpb : ((p : Int) != 0) = true := by rw [bne_iff_ne]; omega
              have HS1 : Hid (stepR os k 1 r = r ++ [⟨k, p⟩]) := hide (by unfold stepR; rw [HP.out, if_pos hp0, Int.one_mul])
              have hzx := hX.size
              go_wp2_with (at_builtin; go_must (refine wpList_append_where rfl _ _ 60 rfl w.heap.size 176 _ 2 16 Tryz.underlying60 reading_info rfl (by decide) Reading.cells reading_len reading_one' _ (r) rfl (hown.ext (Ext.alloc _ _)) wr.heap.size 0 1 1 [⟨k, p⟩] rfl (new_rd wr ⟨k, p⟩ rfl) (by first | omega | (simp; omega)) (by omega) (by first | omega | (simp; omega)) ?_))
              intro v4 w4 ho4 hg4 _
              have hx4 := (hX.and_alloc (.cells #[.int .i64 (k : Int), .int .i64 p] 176)).grown hg4 (fun z hz => hown.block_le hz)
              have hlr1 : (r ++ [(⟨k, p⟩ : Reading)]).length ≤ 2 * k + 1 := by simp; omega
              clear hg4 hown hX hzx
              by_cases hq0 : 0 < q
              · have hqb : ((-q : Int) != 0) = true := by rw [bne_iff_ne]; omega
                have HS2 : Hid (stepR os k (-1) (r ++ [⟨k, p⟩]) = r ++ [⟨k, p⟩] ++ [⟨k, -q⟩]) := hide (by unfold stepR; rw [HQ.out, if_pos hq0, show (-1 : Int) * q = -q by omega])
                have hzz := hx4.size
                go_wp2_with (at_builtin; go_must (refine wpList_append_where rfl _ _ 60 rfl w.heap.size 176 _ 2 16 Tryz.underlying60 reading_info rfl (by decide) Reading.cells reading_len reading_one' _ (r ++ [⟨k, p⟩]) rfl (ho4.ext (Ext.alloc _ _)) w4.heap.size 0 1 1 [⟨k, -q⟩] rfl (new_rd w4 ⟨k, -q⟩ rfl) (by first | omega | (simp; omega)) (by omega) (by first | omega | (simp; omega)) ?_))
                intro v5 w5 ho5 hg5 _
                have hx5 := (hx4.and_alloc (.cells #[.int .i64 (k : Int), .int .i64 (-q)] 176)).grown hg5 (fun z hz => ho4.block_le hz)
                have HRF : Hid (rfR os (k + 1) = some (r ++ [⟨k, p⟩] ++ [⟨k, -q⟩])) := hide (by rw [HRN.out, HS1.out, HS2.out])
                go_wp2_with fail
                go_roundw
                case rel => exact ⟨k + 1, _, by omega, by go_num, ho5, hx5, by first | exact HRF | exact hide (by rw [HRF.out]; simp)⟩
                case measure => simp [intOf]; omega
              · have hqb : ((-q : Int) != 0) = false := by rw [bne_eq_false_iff_eq]; omega
                have HS2 : Hid (stepR os k (-1) (r ++ [⟨k, p⟩]) = r ++ [⟨k, p⟩]) := hide (by unfold stepR; rw [HQ.out, if_neg hq0])
                have HRF : Hid (rfR os (k + 1) = some (r ++ [⟨k, p⟩])) := hide (by rw [HRN.out, HS1.out, HS2.out])
                go_wp2_with fail
                go_roundw
                case rel => exact ⟨k + 1, _, by omega, by go_num, ho4, hx4, HRF⟩
                case measure => simp [intOf]; omega
            · have hpb : ((p : Int) != 0) = false := by rw [bne_eq_false_iff_eq]; omega
              have HS1 : Hid (stepR os k 1 r = r) := hide (by unfold stepR; rw [HP.out, if_neg hp0])
              by_cases hq0 : 0 < q
              · have hqb : ((-q : Int) != 0) = true := by rw [bne_iff_ne]; omega
                have HS2 : Hid (stepR os k (-1) (r) = r ++ [⟨k, -q⟩]) := hide (by unfold stepR; rw [HQ.out, if_pos hq0, show (-1 : Int) * q = -q by omega])
                have hzz := hX.size
                go_wp2_with (at_builtin; go_must (refine wpList_append_where rfl _ _ 60 rfl w.heap.size 176 _ 2 16 Tryz.underlying60 reading_info rfl (by decide) Reading.cells reading_len reading_one' _ (r) rfl (hown.ext (Ext.alloc _ _)) wr.heap.size 0 1 1 [⟨k, -q⟩] rfl (new_rd wr ⟨k, -q⟩ rfl) (by first | omega | (simp; omega)) (by omega) (by first | omega | (simp; omega)) ?_))
                intro v5 w5 ho5 hg5 _
                have hx5 := (hX.and_alloc (.cells #[.int .i64 (k : Int), .int .i64 (-q)] 176)).grown hg5 (fun z hz => hown.block_le hz)
                have HRF : Hid (rfR os (k + 1) = some (r ++ [⟨k, -q⟩])) := hide (by rw [HRN.out, HS1.out, HS2.out])
                go_wp2_with fail
                go_roundw
                case rel => exact ⟨k + 1, _, by omega, by go_num, ho5, hx5, by first | exact HRF | exact hide (by rw [HRF.out]; simp)⟩
                case measure => simp [intOf]; omega
              · have hqb : ((-q : Int) != 0) = false := by rw [bne_eq_false_iff_eq]; omega
                have HS2 : Hid (stepR os k (-1) (r) = r) := hide (by unfold stepR; rw [HQ.out, if_neg hq0])
                have HRF : Hid (rfR os (k + 1) = some (r)) := hide (by rw [HRN.out, HS1.out, HS2.out])
                go_wp2_with fail
                go_roundw
                case rel => exact ⟨k + 1, _, by omega, by go_num, hown, hX, HRF⟩
                case measure => simp [intOf]; omega
      · obtain rfl : n1 = k := by omega
        go_wp2_with fail
        go_ret2
        exact ⟨_, r, 0, rfl, hown, hX, hide (rfV_good HC.out HR.out).symm⟩
  · have HR := hide (show rfV n1 ns ps os = ([], ordC n1 ns ps os) by unfold rfV; rw [if_neg hC])
    have hb : (ordC n1 ns ps os != 0) = true := by rw [bne_iff_ne]; exact hC
    clear hC
    go_enter Tryz.func123, Tryz.ntmps123
    go_wp2_with fail
    refine (c_checkOrders A1 A2 n1 c1 n2 c2 ns ps A n c os _ (hs1.ext hx0) (hs2.ext hx0) (hs.ext hx0)).mono ?_
    generalize ordC n1 ns ps os = Z at *
    rintro e w1 ⟨rfl, hx1⟩
    go_wp2_with fail
    go_ret2
    exact ⟨_, [], Z, rfl, OwnL.nil_ _ _ _ _ _, hx0.trans hx1, hide HR.out.symm⟩
set_option maxHeartbeats 1000000 in
theorem c_PlannedReadings (A1 A2 : Option Addr) (n1 c1 n2 c2 : Nat) (ns : List Node) (ps : List Pipe) (A : Option Addr) (n c : Nat) (xs : List Contract) (B : Option Addr) (m d : Nat) (L : List Nomination) (h : Int) (w : World) (hs1 : SliceOf w 3 Node.cells A1 n1 c1 ns) (hs2 : SliceOf w 5 Pipe.cells A2 n2 c2 ps) (hs : SliceOf w 8 Contract.cells A n c xs) (hL : SliceOf w 4 Nomination.cells B m d L) : Calls Tryz.prog 36 #[.agg #[.slice A1 n1 c1, .slice A2 n2 c2], .slice A n c, .slice B m d, .int .i64 h] w (RetLS 176 Reading.cells (prV n1 ns ps xs L h) w) := by
  have hB := Row.new w 45 [.slice A1 n1 c1, .slice A2 n2 c2]
  have hx0 : Ext w (w.alloc (.cells #[.slice A1 n1 c1, .slice A2 n2 c2] 45)) := Ext.alloc _ _
  have HLN := hide hs.len
  obtain ⟨z, HZ⟩ : ∃ z, Hid (setC n1 ns ps xs L h = z) := ⟨_, hide rfl⟩
  go_enter Tryz.func36, Tryz.ntmps36
  go_wp2_with fail
  refine (c_IsNetwork A1 A2 n1 c1 n2 c2 ns ps _ (hs1.ext hx0) (hs2.ext hx0)).mono ?_
  cases hnet : netB ns ps
  · have HR : Hid (prV n1 ns ps xs L h = ([], 1)) := hide (by unfold prV; rw [if_neg (by rw [setC_net hnet]; decide), setC_net hnet])
    clear hnet
    rintro e w1 ⟨rfl, hx1⟩
    go_wp2_with fail
    go_ret2
    exact RetLS.nil0 (hx0.trans hx1) HR.out.symm
  rintro e w1 ⟨rfl, hx1⟩
  have HNT := hide hnet
  clear hnet
  have hX1 := hx0.trans hx1
  have hb0 := (hB.ext hx1).cell 0
  have hb1 := (hB.ext hx1).cell 1
  simp at hb0 hb1
  have hbl := (hB.ext hx1).lt
  go_wp2_with fail
  refine (c_checkSettle A1 A2 n1 c1 n2 c2 ns ps A n c xs B m d L h _ (hs1.ext hX1) (hs2.ext hX1) (hs.ext hX1) (hL.ext hX1) HNT.out none 0 0 [] (SliceOf.nil.2 (by decide)) (fun q hq => by cases hq)).mono ?_
  rw [show rdB n1 [] = true from rfl, setV_C HNT.out, HZ.out]
  rintro e w2 ⟨rfl, hx2⟩
  clear hb0 hb1 hbl
  have hx02 := hx1.trans hx2
  have hX2 := hx0.trans hx02
  have hb0 := (hB.ext hx02).cell 0
  have hb1 := (hB.ext hx02).cell 1
  simp at hb0 hb1
  have hbl := (hB.ext hx02).lt
  by_cases h0 : z = 0
  · subst h0
    have HK := hide (setC_ok HZ.out)
    have HR : Hid (prV n1 ns ps xs L h = rfV n1 ns ps (hrOrd ps n1 xs L h)) := hide (by unfold prV; rw [if_pos HZ.out])
    have hn20 : n ≤ 20 := by rw [HLN.out]; exact HK.out.le
    go_wp2_with fail
    refine (c_curtailedIn A1 A2 n1 c1 n2 c2 ns ps A n c xs B m d L h _ (hs1.ext hX2) (hs2.ext hX2) (hs.ext hX2) (hL.ext hX2) HK.out).mono ?_
    rintro e w3 ⟨v1, v2, rfl, ho1, ho2, hx3⟩
    have HLO := hide (less_ok HK.out.bk HK.out.nm (ps := ps) h)
    obtain ⟨le, HLE⟩ : ∃ le, Hid (lessT ps n1 xs L h = le) := ⟨_, hide rfl⟩
    have hlel : le.length = n := by rw [← HLE.out, lessT_len, HLN.out]
    rw [HLE.out] at ho1 HLO
    obtain ⟨A4, c4, rfl, hs4⟩ := ho1.sl trn_len (by omega)
    obtain ⟨A5, c5, rfl, -⟩ := ho2.sl intC_len (by omega)
    rw [hlel] at hs4
    rw [hlel]
    clear hb0 hb1 hbl ho1 ho2
    have hx03 := hx02.trans hx3
    have hX3 := hx0.trans hx03
    have hb0 := (hB.ext hx03).cell 0
    have hb1 := (hB.ext hx03).cell 1
    simp at hb0 hb1
    have hbl := (hB.ext hx03).lt
    go_wp2_with fail
    refine wp_region_ph [([0, 1, 2], 3), ([], 4)] [5, 6, 7, 8] (by kernel_rfl) (by kernel_rfl) (by intro c a w d v h; cases d <;> exact h) ?_
    simp only [wpPh, pickL, nthO]
    repeat (go_big_quiet_step (fail))
    refine wpQuiet_nil ?_
    have hXd := hX3.drew
    go_wp2_with fail
    refine (c_hourOrders A n c xs A4 c4 le _ (hs.ext hXd) (hs4.ext (Ext.refl _).drew) (by omega) (fun x hx => (HLO.out x hx).2.2.1)).mono ?_
    rintro e w4 ⟨v4, E4, rfl, ho4, HE4, hx4⟩
    have HO4 : Hid (E4 = hrOrd ps n1 xs L h) := hide (by rw [HE4.out, ← HLE.out]; rfl)
    obtain ⟨A7, c7, rfl, hs7⟩ := ho4.sl order_len (by omega)
    have hX4 := hXd.trans hx4
    go_wp2_with fail
    refine ⟨hx4, ?_⟩
    repeat (go_big_quiet_step (fail))
    refine wpQuiet_nil ?_
    go_wp2_with fail
    refine (c_ReadingsFor A1 A2 n1 c1 n2 c2 ns ps A7 _ c7 E4 _ (hs1.ext hX4) (hs2.ext hX4) hs7).mono ?_
    rintro e w5 ⟨v5, l, z, rfl, ho5, hx5, HP⟩
    have hz4 := hX4.size
    go_wp2_with fail
    refine ⟨hx5, ?_⟩
    repeat (go_big_quiet_step (fail))
    refine wpQuiet_nil ?_
    go_wp2_with fail
    go_ret2
    exact RetLS.of (ho5.lowG hz4) reading_len (by omega) (hX4.trans hx5) (by rw [HP.out, HR.out, HO4.out])
  · have HR : Hid (prV n1 ns ps xs L h = ([], z)) := hide (by unfold prV; rw [if_neg (by rw [HZ.out]; exact h0), HZ.out])
    have hb : (z != 0) = true := by rw [bne_iff_ne]; exact h0
    go_wp2_with fail
    go_ret2
    exact RetLS.nil0 hX2 HR.out.symm
end Go.Proofs.YtfkpghdmljjegaaGreat
