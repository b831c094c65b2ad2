/-
  The scales of transports, of the program, exactly. The curtailed transports, the orders and the planned flows of an hour, of the program; exactly. What the laws on hours share: boxes of a network, blocks of copies, bounds of what is returned.
-/
import Derived.Test.YtpgbmhpddgjccaaGreatSa37
import Derived.Test.YtpgbmhpddgjccaaGreatSa11
import Derived.Test.YtpgbmhpddgjccaaGreatSa36
import Derived.Test.YtpgbmhpddgjccaaGreatSa01
namespace Go.Proofs.YtpgbmhpddgjccaaGreat
open Go.RowKit
set_option maxHeartbeats 2000000 in
theorem c_curtailScales (A1 A2 : Option Addr) (n1 c1 n2 c2 : Nat) (ns : List Node) (ps : List Pipe) (w : World) (hs1 : SliceOf w 3 Node.cells A1 n1 c1 ns) (hs2 : SliceOf w 5 Pipe.cells A2 n2 c2 ps) (hnet : netB ns ps = true) (A : Option Addr) (n c : Nat) (ts : List Trn) (hs : SliceOf w 4 Trn.cells A n c ts) (hn : n ≤ 100000) (hb : ∀ x ∈ ts, TrnB n1 30000 x) :
    Calls Tryz.prog 146 #[.agg #[.slice A1 n1 c1, .slice A2 n2 c2], .slice A n c] w (RetI (fun E => E = scalesF (fitS ps n1 ts)) w) := by
  have hB := Row.new w 45 [.slice A1 n1 c1, .slice A2 n2 c2]
  have hx0 : Ext w (w.alloc (.cells #[.slice A1 n1 c1, .slice A2 n2 c2] 45)) := Ext.alloc _ _
  have HNT := hide hnet
  have HB := hide hb
  obtain ⟨z4, HZ4⟩ : ∃ z4, Hid (List.replicate 4 (0 : Int) = z4) := ⟨_, hide rfl⟩
  have hmk : ∀ W : World, (Instr.makeSlice 24 (.int .i64 4) (.int .i64 4)).run Tryz.prog W = .ok (.slice (some ⟨W.heap.size, 0, none⟩) 4 4) (W.alloc (.cells (z4.flatMap intC).toArray 2)) := fun W => by rw [← HZ4.out]; exact run_make_flat (P := Tryz.prog) 24 2 _ _ 1 8 Tryz.underlying24 int_info (f := intC) 0 rfl rfl rfl (by omega) 4 (by omega) (by omega) W
  clear hnet hb
  obtain ⟨F, HF⟩ : ∃ F, Hid (fitS ps n1 ts = F) := ⟨_, hide rfl⟩
  have HF0 : Hid (F (List.replicate 4 0) = true) := hide (by rw [← HF.out]; exact fitS_zero ps n1 ts)
  rw [HF.out]
  go_enter Tryz.func146, Tryz.ntmps146
  go_wp2_with fail
  go_loopw [10] (fun i wr => ∃ k : Nat, k ≤ 4 ∧ i = .int .i64 k ∧ RowOf wr (w.heap.size + 1) 2 intC (scK F k) ∧ Ext (w.alloc (.cells #[.slice A1 n1 c1, .slice A2 n2 c2] 45)) wr) (fun i _ => 4 - (intOf i).toNat)
  case atStart => exact ⟨0, Nat.zero_le _, rfl, by rw [show scK F 0 = z4 from HZ4.out]; exact Row.newG _ _ (by simp), Ext.alloc _ _⟩
  case round =>
    obtain ⟨k, hk, rfl, hR, hx⟩ := hrel
    have hlen : (scK F k).length = 4 := (scK_in F k).1
    have hle := hR.lt
    by_cases hlt : k < 4
    · have HSI := hide (scK_in F k)
      have HS0 : Hid (F ((scK F k).set k 0) = true) := hide (by rw [scK_set0 F hlt]; exact scK_fit HF0.out k (by omega))
      have HSC : Hid (scK F (k + 1) = (scK F k).set k (bestS F (scK F k) k 100 : Int)) := hide (by rw [scK_succ]; rfl)
      obtain ⟨sc, hsc⟩ : ∃ sc, scK F k = sc := ⟨_, rfl⟩
      rw [hsc] at hR HS0 HSC hlen HSI
      have hkd : decide ((k : Int) < 4) = true := decide_eq_true (by omega)
      obtain ⟨u, hu⟩ := hR.there intC_len (i := k) (by omega) (j := 0) (by omega)
      simp only [Nat.mul_one, Nat.add_zero] at hu
      have hf := hR.frozen k
      have hR0 := RowOf.set0 hR (fun x => ⟨_, rfl⟩) (d := k) (by omega) (100 : Int) (.int .i64 100) rfl
      have hx1 := hx.setCell (p := ⟨w.heap.size + 1, k, none⟩) (by simp) (.int .i64 100)
      clear hR hsc hx
      go_wp2_with fail
      go_loopw [] (fun wr' => ∃ m : Nat, m ≤ 100 ∧ RowOf wr' (w.heap.size + 1) 2 intC (sc.set k (m : Int)) ∧ Hid (bestS F sc k 100 = bestS F sc k m) ∧ Ext (w.alloc (.cells #[.slice A1 n1 c1, .slice A2 n2 c2] 45)) wr') (fun wr' => ((readI wr' (w.heap.size + 1) 4)[k]?.getD 0).toNat)
      case atStart => exact ⟨100, Nat.le_refl _, hR0, hide rfl, hx1⟩
      case round =>
        clear hR0 hx1 hu hf
        obtain ⟨m, hm, hR1, HBS, hx1⟩ := hrel
        have hsl : (sc.set k (m : Int)).length = 4 := by rw [List.length_set]; exact hlen
        have HSI2 : Hid (ScaleIn (sc.set k (m : Int))) := hide (HSI.out.set k (by omega))
        have hS := hR1.slice intC_len hsl.symm (by omega)
        have hb0 := (hB.ext hx1).cell 0
        have hb1 := (hB.ext hx1).cell 1
        simp at hb0 hb1
        have hbl := (hB.ext hx1).lt
        have hX1 := hx0.trans hx1
        have hme : ∀ (W : World) (j : Nat), RowOf W (w.heap.size + 1) 2 intC (sc.set k (j : Int)) → ((readI W (w.heap.size + 1) 4)[k]?.getD 0).toNat = j := fun W j hW => by
          have h1 := OwnS.of_row hW
          rw [List.length_set, hlen] at h1
          rw [readI_eq h1, List.getElem?_set_self (by omega)]; simp
        have HME := hide hme
        have HM1 := hide (hme _ m hR1)
        clear hme
        go_wp2_with fail
        refine wp_region_ph [([0, 1, 2], 3), ([], 4)] [5] (by kernel_rfl) (by kernel_rfl) (by intro c a w d v h; cases d <;> exact h) ?_
        simp only [wpPh, pickL, nthO]
        repeat (go_big_quiet_step (fail))
        refine wpQuiet_nil ?_
        go_wp2_with fail
        refine (c_scaledTransports A n c ts (some ⟨w.heap.size + 1, 0, none⟩) 4 (sc.set k (m : Int)) _ (hs.ext hX1.drew) (hS.ext (Ext.refl _).drew) hn n1 HB.out HSI2.out).mono ?_
        rintro e w2 ⟨v2, E, rfl, ho2, HE, hx2⟩
        obtain ⟨A4, c4, rfl, hs4⟩ := ho2.sl trn_len (by omega)
        have hel : E.length = n := by rw [HE.out, List.length_map, hs.len]
        rw [hel] at hs4
        rw [hel]
        have hX2 := hX1.drew.trans hx2
        go_wp2_with fail
        refine ⟨hx2, ?_⟩
        repeat (go_big_quiet_step (fail))
        refine wpQuiet_nil ?_
        go_wp2_with fail
        refine (c_doFit A1 A2 n1 c1 n2 c2 ns ps _ (hs1.ext hX2) (hs2.ext hX2) HNT.out A4 n c4 E hs4 hn (by
          rw [HE.out]
          intro x hx
          obtain ⟨y, hy, rfl⟩ := List.mem_map.1 hx
          exact scaleT_ok (HB.out y hy) HSI2.out)).mono ?_
        have hfe : fitB ps n1 E = F (sc.set k (m : Int)) := by rw [HE.out, ← HF.out]; rfl
        rw [hfe]
        have hRw : ∀ W', Ext w2 W' → RowOf W' (w.heap.size + 1) 2 intC (sc.set k (m : Int)) := fun W' h => (hR1.ext (Ext.refl _).drew).ext (hx2.trans h)
        have hxw : ∀ W', Ext w2 W' → Ext (w.alloc (.cells #[.slice A1 n1 c1, .slice A2 n2 c2] 45)) W' := fun W' h => (hx1.drew.trans hx2).trans h
        cases hfit : F (sc.set k (m : Int))
        · obtain ⟨m, rfl⟩ : ∃ j, m = j + 1 := by
            cases m with
            | zero => rw [show ((0 : Nat) : Int) = 0 from rfl, HS0.out] at hfit; cases hfit
            | succ j => exact ⟨j, rfl⟩
          have HBS2 : Hid (bestS F sc k 100 = bestS F sc k m) := hide (by rw [HBS.out, bestS_down hfit])
          clear hfit hfe
          rintro e w3 ⟨rfl, hx3⟩
          have hR3 := hRw _ hx3
          have hX3 := hxw _ hx3
          have hk2 : (sc.set k ((m + 1 : Nat) : Int))[k]? = some ((m + 1 : Nat) : Int) := by rw [List.getElem?_set_self (by omega)]
          have hcl := hR3.get intC_len hk2 (j := 0) rfl
          simp only [Nat.mul_one, Nat.add_zero] at hcl
          have hf3 := hR3.frozen k
          have hl3 := hR3.lt
          have hR4 := RowOf.set0 hR3 (fun x => ⟨_, rfl⟩) (d := k) (by rw [List.length_set]; omega) (m : Int) (.int .i64 m) rfl
          rw [List.set_set] at hR4
          have hx4 := hX3.setCell (p := ⟨w.heap.size + 1, k, none⟩) (by simp) (.int .i64 m)
          have e1 : IntKind.i64.wrap (((m + 1 : Nat) : Int) - 1) = m := by rw [IntWalk.i64_in _ (by omega)]; omega
          have HM2 := hide (HME.out _ m hR4)
          clear hk2 hR3 hX3 hb0 hb1 hbl hRw hxw hR1 hS
          go_wp2_with fail
          refine ⟨hx3, ?_⟩
          repeat (go_big_quiet_step (fail))
          refine wpQuiet_nil ?_
          go_wp2_with fail
          go_roundw
          case rel => exact ⟨m, by omega, hR4, HBS2, hx4⟩
          case measure => rw [HM1.out, HM2.out]; omega
        · have HSE : Hid (scK F (k + 1) = sc.set k (m : Int)) := hide (by rw [HSC.out, HBS.out, bestS_at hfit])
          clear hfit hfe
          rintro e w3 ⟨rfl, hx3⟩
          go_wp2_with fail
          refine ⟨hx3, ?_⟩
          repeat (go_big_quiet_step (fail))
          refine wpQuiet_nil ?_
          go_wp2_with fail
          go_roundw
          case rel => exact ⟨k + 1, by omega, by go_num, by rw [HSE.out]; exact hRw _ hx3, hxw _ hx3⟩
          case measure => simp [intOf]; omega
    · obtain rfl : k = 4 := by omega
      go_wp2_with fail
      go_ret
      have hO := OwnL.of_row hR intC_len (base := w.heap.size) (by omega) (by omega)
      rw [hlen] at hO
      exact ⟨_, _, rfl, hO, hide rfl, hx0.trans hx⟩
end Go.Proofs.YtpgbmhpddgjccaaGreat

namespace Go.Proofs.YtpgbmhpddgjccaaGreat
open Go.RowKit
theorem new_ord2 (W : World) (x y : Order) {g : Nat} (hg : g = W.heap.size) : SliceOf (W.alloc (.cells #[.int .i64 x.shipper, .int .i64 x.node, .int .i64 x.amount, .int .i64 x.cls, .int .i64 y.shipper, .int .i64 y.node, .int .i64 y.amount, .int .i64 y.cls] 193)) 4 Order.cells (some ⟨g, 0, none⟩) 2 2 [x, y] := by
  subst hg
  exact RowOf.slice (xs := [x, y]) (Row.new W 193 ([x, y].flatMap Order.cells)) order_len rfl (by simp)
/-- the curtailed transports and the scales of an hour, of the call's own -/
def RetTS (T : List Trn) (E : List Int) (w : World) (e : Ending) (w' : World) : Prop :=
  ∃ v1 v2, e = .returned (.tuple #[v1, v2]) ∧ OwnL w' w.heap.size 195 4 Trn.cells v1 T ∧ OwnL w' w.heap.size 2 1 intC v2 E ∧ Ext w w'
set_option maxHeartbeats 1000000 in
theorem c_curtailedIn (A1 A2 : Option Addr) (n1 c1 n2 c2 : Nat) (ns : List Node) (ps : List Pipe) (A : Option Addr) (n c : Nat) (xs : List Contract) (B : Option Addr) (m d : Nat) (L : List Nomination) (h : Int) (w : World) (hs1 : SliceOf w 3 Node.cells A1 n1 c1 ns) (hs2 : SliceOf w 5 Pipe.cells A2 n2 c2 ps) (hs : SliceOf w 8 Contract.cells A n c xs) (hL : SliceOf w 4 Nomination.cells B m d L) (hk : HrOk n1 ns ps xs L h) : Calls Tryz.prog 105 #[.agg #[.slice A1 n1 c1, .slice A2 n2 c2], .slice A n c, .slice B m d, .int .i64 h] w (RetTS (lessT ps n1 xs L h) (hrSc ps n1 xs L h) w) := by
  have hB := Row.new w 45 [.slice A1 n1 c1, .slice A2 n2 c2]
  have hx0 : Ext w (w.alloc (.cells #[.slice A1 n1 c1, .slice A2 n2 c2] 45)) := Ext.alloc _ _
  have HLN := hide hs.len
  have HK := hide hk
  have hn20 : n ≤ 20 := by rw [hs.len]; exact hk.le
  have HTO := hide (trn_ok hk.bk hk.nm h)
  clear hk
  go_enter Tryz.func105, Tryz.ntmps105
  go_wp2_with fail
  refine (c_FromNominations A1 A2 n1 c1 n2 c2 ns ps A n c xs B m d L h _ (hs1.ext hx0) (hs2.ext hx0) (hs.ext hx0) (hL.ext hx0) (by omega)).mono ?_
  rintro e w1 ⟨v1, E1, z1, rfl, ho1, hx1, HP⟩
  have hp : (E1, z1) = (trnL xs L h, 0) := by rw [HP.out]; unfold fnV; rw [if_pos (amC_set HK.out)]
  injection hp with hp1 hp2
  subst hp2
  have HE1 := hide hp1
  rw [← HE1.out] at HTO
  have htl : E1.length = n := by rw [HE1.out, trnL_len, HLN.out]
  obtain ⟨A4, c4, rfl, hs4⟩ := ho1.sl trn_len (by omega)
  rw [htl] at hs4
  rw [htl]
  clear HP hp1 ho1
  have hX1 := hx0.trans hx1
  have hb0 := (hB.ext hx1).cell 0
  have hb1 := (hB.ext hx1).cell 1
  simp at hb0 hb1
  have hbl := (hB.ext hx1).lt
  go_wp2_with fail
  refine (c_curtailScales A1 A2 n1 c1 n2 c2 ns ps _ (hs1.ext hX1) (hs2.ext hX1) HK.out.net A4 n c4 E1 hs4 (by omega) HTO.out).mono ?_
  rintro e w2 ⟨v2, E2, rfl, ho2, HE2, hx2⟩
  have HSC : Hid (E2 = hrSc ps n1 xs L h) := hide (by rw [HE2.out, HE1.out]; rfl)
  have hscl : E2.length = 4 := by rw [HSC.out]; exact hrSc_len _ _ _ _ _
  obtain ⟨A5, c5, rfl, hs5⟩ := ho2.sl intC_len (by omega)
  rw [hscl] at hs5 ho2
  rw [hscl]
  have hX2 := hX1.trans hx2
  go_wp2_with fail
  refine (c_scaledTransports A4 n c4 E1 A5 c5 E2 _ (hs4.ext hx2) hs5 (by omega) n1 HTO.out (by rw [HSC.out]; exact hrSc_in _ _ _ _ _)).mono ?_
  rintro e w3 ⟨v3, E3, rfl, ho3, HE3, hx3⟩
  have HLE : Hid (E3 = lessT ps n1 xs L h) := hide (by rw [HE3.out, HE1.out, HSC.out]; rfl)
  have hz1 := hX1.size
  have hz2 := hX2.size
  have ho23 := ho2.ext hx3
  go_wp2_with fail
  go_ret2
  refine ⟨_, _, rfl, ?_, ?_, hX2.trans hx3⟩
  · rw [← HLE.out]; exact ho3.lowG hz2
  · rw [← HSC.out]; exact ho23.lowG hz1
set_option maxHeartbeats 2000000 in
theorem c_hourOrders (A : Option Addr) (n c : Nat) (xs : List Contract) (B : Option Addr) (d : Nat) (ts : List Trn) (w : World) (hs : SliceOf w 8 Contract.cells A n c xs) (hst : SliceOf w 4 Trn.cells B n d ts) (hn : n ≤ 100000) (hb : ∀ x ∈ ts, 0 ≤ x.amount ∧ x.amount ≤ 30000) :
    Calls Tryz.prog 117 #[.slice A n c, .slice B n d] w (RetO (fun E => E = ordL xs (ts.map Trn.amount)) w) := by
  have HB := hide hb
  have HLX := hide hs.len
  have HLA := hide hst.len
  clear hb
  obtain ⟨am, ham⟩ : ∃ am, ts.map Trn.amount = am := ⟨_, rfl⟩
  have HAM := hide ham
  rw [ham]
  clear ham
  go_enter Tryz.func117, Tryz.ntmps117
  go_wp2_with fail
  go_loopw [5, 11] (fun v i wr => ∃ (k : Nat) (T : List Order), k ≤ n ∧ i = .int .i64 k ∧ T.length = 2 * k ∧ Hid (T = ordL (xs.take k) (am.take k)) ∧ OwnL wr w.heap.size 193 4 Order.cells v T ∧ Ext w wr) (fun _ i _ => n - (intOf i).toNat)
  case atStart => exact ⟨0, [], Nat.zero_le _, rfl, rfl, hide (by simp [ordL]), OwnL.nil_ _ _ _ _ _, Ext.refl _⟩
  case round =>
    obtain ⟨k, T, hk, rfl, hTk, HT, ho, hx⟩ := hrel
    by_cases hlt : k < n
    · obtain ⟨b, off, x, hA, hb, hxk, hc⟩ := (hs.ext hx).get hlt
      have hc0 := hc 0 _ rfl
      have hc1 := hc 1 _ rfl
      have hc2 := hc 2 _ rfl
      have hc3 := hc 3 _ rfl
      have hc4 := hc 4 _ rfl
      have hc5 := hc 5 _ rfl
      have hc6 := hc 6 _ rfl
      have hc7 := hc 7 _ rfl
      clear hc
      subst hA
      obtain ⟨ba, oa, t, hB, hba, htk, hct⟩ := (hst.ext hx).get hlt
      have hct2 := hct 2 _ rfl
      clear hct
      subst hB
      simp only [Nat.add_zero] at hc0
      obtain ⟨a, ha⟩ : ∃ a, t.amount = a := ⟨_, rfl⟩
      have hab := HB.out t (List.mem_of_getElem? htk)
      rw [ha] at hct2 hab
      have hak : am[k]? = some a := by rw [← HAM.out, List.getElem?_map, htk, Option.map_some, ha]
      have e1 := ord_bd hab
      have HST : Hid (ordL (xs.take (k + 1)) (am.take (k + 1)) = T ++ [⟨x.shipper, x.entry, a, x.cls⟩, ⟨x.shipper, x.exit, -a, x.cls⟩]) := hide (by rw [ordL_step hxk hak, ← HT.out]; rfl)
      have hxz := hx.size
      obtain ⟨W, HW⟩ : ∃ W, Hid (wr.alloc (.cells #[.int .i64 x.shipper, .int .i64 x.entry, .int .i64 x.exit, .int .i64 x.amount, .int .i64 x.cls, .int .i64 x.start, .int .i64 x.stop, .int .i64 x.price] 146) = W) := ⟨_, hide rfl⟩
      have hxW : Ext wr W := by rw [← HW.out]; exact Ext.alloc _ _
      have hWz : wr.heap.size + 1 = W.heap.size := by rw [← HW.out]; simp
      clear hxk hak htk ha
      go_wp2_with (at_builtin; go_must (refine wpList_append_where rfl _ _ 25 rfl w.heap.size 193 _ 4 32 Tryz.underlying25 order_info rfl (by decide) Order.cells order_len order_one _ T rfl (by rw [HW.out]; exact ho.ext (hxW.and_alloc _)) W.heap.size 0 2 2 [⟨x.shipper, x.entry, a, x.cls⟩, ⟨x.shipper, x.exit, -a, x.cls⟩] rfl (by rw [HW.out]; exact new_ord2 W ⟨x.shipper, x.entry, a, x.cls⟩ ⟨x.shipper, x.exit, -a, x.cls⟩ rfl) (by omega) (by omega) (by rw [HW.out]; simp; omega) ?_))
      intro v2 w2 ho2 hg2 _
      rw [HW.out] at hg2
      have hx2 := (hx.trans (hxW.and_alloc _)).grown hg2 (fun k hk => ho.block_le hk)
      clear hg2 ho
      go_wp2_with fail
      go_roundw
      case rel => exact ⟨k + 1, T ++ [⟨x.shipper, x.entry, a, x.cls⟩, ⟨x.shipper, x.exit, -a, x.cls⟩], by omega, by go_num, by simp; omega, hide HST.out.symm, ho2, hx2⟩
      case measure => simp [intOf]; omega
    · have hal : am.length = n := by rw [← HAM.out, List.length_map, HLA.out]
      go_wp2_with fail
      go_ret
      refine ⟨_, T, rfl, ho, hide ?_, hx⟩
      rw [HT.out, List.take_of_length_le (by rw [← HLX.out]; omega), List.take_of_length_le (by omega)]
set_option maxHeartbeats 1000000 in
theorem c_PlannedFlows (A1 A2 : Option Addr) (n1 c1 n2 c2 : Nat) (ns : List Node) (ps : List Pipe) (A : Option Addr) (n c : Nat) (xs : List Contract) (B : Option Addr) (m d : Nat) (L : List Nomination) (h : Int) (w : World) (hs1 : SliceOf w 3 Node.cells A1 n1 c1 ns) (hs2 : SliceOf w 5 Pipe.cells A2 n2 c2 ps) (hs : SliceOf w 8 Contract.cells A n c xs) (hL : SliceOf w 4 Nomination.cells B m d L) : Calls Tryz.prog 24 #[.agg #[.slice A1 n1 c1, .slice A2 n2 c2], .slice A n c, .slice B m d, .int .i64 h] w (RetLS 2 intC (pfV n1 ns ps xs L h) w) := by
  have hB := Row.new w 45 [.slice A1 n1 c1, .slice A2 n2 c2]
  have hx0 : Ext w (w.alloc (.cells #[.slice A1 n1 c1, .slice A2 n2 c2] 45)) := Ext.alloc _ _
  have HLN := hide hs.len
  obtain ⟨z, HZ⟩ : ∃ z, Hid (setC n1 ns ps xs L h = z) := ⟨_, hide rfl⟩
  go_enter Tryz.func24, Tryz.ntmps24
  go_wp2_with fail
  refine (c_IsNetwork A1 A2 n1 c1 n2 c2 ns ps _ (hs1.ext hx0) (hs2.ext hx0)).mono ?_
  cases hnet : netB ns ps
  · have HR : Hid (pfV n1 ns ps xs L h = ([], 1)) := hide (by unfold pfV; rw [if_neg (by rw [setC_net hnet]; decide), setC_net hnet])
    clear hnet
    rintro e w1 ⟨rfl, hx1⟩
    go_wp2_with fail
    go_ret2
    exact RetLS.nil0 (hx0.trans hx1) HR.out.symm
  rintro e w1 ⟨rfl, hx1⟩
  have HNT := hide hnet
  clear hnet
  have hX1 := hx0.trans hx1
  have hb0 := (hB.ext hx1).cell 0
  have hb1 := (hB.ext hx1).cell 1
  simp at hb0 hb1
  have hbl := (hB.ext hx1).lt
  go_wp2_with fail
  refine (c_checkSettle A1 A2 n1 c1 n2 c2 ns ps A n c xs B m d L h _ (hs1.ext hX1) (hs2.ext hX1) (hs.ext hX1) (hL.ext hX1) HNT.out none 0 0 [] (SliceOf.nil.2 (by decide)) (fun q hq => by cases hq)).mono ?_
  rw [show rdB n1 [] = true from rfl, setV_C HNT.out, HZ.out]
  rintro e w2 ⟨rfl, hx2⟩
  clear hb0 hb1 hbl
  have hx02 := hx1.trans hx2
  have hX2 := hx0.trans hx02
  have hb0 := (hB.ext hx02).cell 0
  have hb1 := (hB.ext hx02).cell 1
  simp at hb0 hb1
  have hbl := (hB.ext hx02).lt
  by_cases h0 : z = 0
  · subst h0
    have HK := hide (setC_ok HZ.out)
    have HR : Hid (pfV n1 ns ps xs L h = routR ps n1 (supT n1 (lessT ps n1 xs L h))) := hide (by unfold pfV; rw [if_pos HZ.out])
    have hn20 : n ≤ 20 := by rw [HLN.out]; exact HK.out.le
    have hn24 : n1 ≤ 24 := by rw [hs1.len]; exact (net_pipes HK.out.net).1.n24
    go_wp2_with fail
    refine (c_curtailedIn A1 A2 n1 c1 n2 c2 ns ps A n c xs B m d L h _ (hs1.ext hX2) (hs2.ext hX2) (hs.ext hX2) (hL.ext hX2) HK.out).mono ?_
    rintro e w3 ⟨v1, v2, rfl, ho1, ho2, hx3⟩
    have HLO := hide (less_ok HK.out.bk HK.out.nm (ps := ps) h)
    obtain ⟨le, HLE⟩ : ∃ le, Hid (lessT ps n1 xs L h = le) := ⟨_, hide rfl⟩
    have hlel : le.length = n := by rw [← HLE.out, lessT_len, HLN.out]
    rw [HLE.out] at ho1 HLO HR
    obtain ⟨A4, c4, rfl, hs4⟩ := ho1.sl trn_len (by omega)
    obtain ⟨A5, c5, rfl, -⟩ := ho2.sl intC_len (by omega)
    rw [hlel] at hs4
    rw [hlel]
    clear hb0 hb1 hbl ho1 ho2
    have hx03 := hx02.trans hx3
    have hX3 := hx0.trans hx03
    have hb0 := (hB.ext hx03).cell 0
    have hb1 := (hB.ext hx03).cell 1
    simp at hb0 hb1
    have hbl := (hB.ext hx03).lt
    go_wp2_with fail
    refine wp_region_ph [([0, 1, 2], 3), ([], 4)] [5, 6, 7, 8] (by kernel_rfl) (by kernel_rfl) (by intro c a w d v h; cases d <;> exact h) ?_
    simp only [wpPh, pickL, nthO]
    repeat (go_big_quiet_step (fail))
    refine wpQuiet_nil ?_
    have hXd := hX3.drew
    go_wp2_with fail
    refine (c_transportSupplies A1 A2 n1 c1 n2 c2 A4 n c4 le _ (hs4.ext (Ext.refl _).drew) (by omega) (by omega) HLO.out).mono ?_
    rintro e w4 ⟨v4, E4, rfl, ho4, HE4, hx4⟩
    have h4l : E4.length = n1 := by rw [HE4.out]; exact supT_len _ _
    obtain ⟨A7, c7, rfl, hs7⟩ := ho4.sl intC_len (by omega)
    rw [h4l] at hs7
    rw [h4l]
    have hX4 := hXd.trans hx4
    go_wp2_with fail
    refine ⟨hx4, ?_⟩
    repeat (go_big_quiet_step (fail))
    refine wpQuiet_nil ?_
    go_wp2_with fail
    refine (c_RouteSupplies A1 A2 n1 c1 n2 c2 ns ps _ (hs1.ext hX4) (hs2.ext hX4) HNT.out A7 c7 E4 hs7).mono ?_
    intro e w5 hrt
    have hrt2 := hrt.low hX4
    obtain ⟨_, _, _, _, _, _, -, -, -, -, -, hx5, -⟩ := hrt
    obtain ⟨A8, n8, c8, g8, l, z, rfl, hr1, hr2, hr3, hr4, hr5, HP⟩ := hrt2
    go_wp2_with fail
    refine ⟨hx5, ?_⟩
    repeat (go_big_quiet_step (fail))
    refine wpQuiet_nil ?_
    go_wp2_with fail
    go_ret2
    exact ⟨_, _, _, g8, l, z, rfl, hr1, hr2, hr3, hr4, hr5, hide (by rw [HP.out, HR.out, HE4.out])⟩
  · have HR : Hid (pfV n1 ns ps xs L h = ([], z)) := hide (by unfold pfV; rw [if_neg (by rw [HZ.out]; exact h0), HZ.out])
    have hb : (z != 0) = true := by rw [bne_iff_ne]; exact h0
    go_wp2_with fail
    go_ret2
    exact RetLS.nil0 hX2 HR.out.symm
end Go.Proofs.YtpgbmhpddgjccaaGreat

namespace Go.Proofs.YtpgbmhpddgjccaaGreat
open Go.RowKit
/-- a box of a network, by its block -/
structure NBoxL (w : World) (b : Nat) (A1 A2 : Option Addr) (n1 c1 n2 c2 : Nat) : Prop where
  lt : b < w.heap.size
  x0 : w.cell? ⟨b, 0, none⟩ = some (.slice A1 n1 c1)
  x1 : w.cell? ⟨b, 1, none⟩ = some (.slice A2 n2 c2)
theorem NBoxL.ext {w w' : World} {b : Nat} {A1 A2 : Option Addr} {n1 c1 n2 c2 : Nat} (h : NBoxL w b A1 A2 n1 c1 n2 c2) (hx : Ext w w') : NBoxL w' b A1 A2 n1 c1 n2 c2 :=
  ⟨Nat.lt_of_lt_of_le h.lt hx.size, (hx.cell _ _ h.lt).trans h.x0, (hx.cell _ _ h.lt).trans h.x1⟩
theorem NBoxL.new (w : World) (A1 A2 : Option Addr) (n1 c1 n2 c2 : Nat) (t : TypeId) : NBoxL (w.alloc (.cells #[.slice A1 n1 c1, .slice A2 n2 c2] t)) w.heap.size A1 A2 n1 c1 n2 c2 := by
  have hR := Row.new w t [.slice A1 n1 c1, .slice A2 n2 c2]
  exact ⟨by simp, hR.cell 0, hR.cell 1⟩
theorem blk_is {g n b : Nat} (h : blkOf (some ⟨g, 0, none⟩) n = some b) : b = g := by
  unfold blkOf at h
  split at h
  · cases h
  · simpa using h.symm
theorem Turn.three {S T U : Nat → Prop} {a b c d : World} (h : Turn S a b) (k : Turn T b c) (l : Turn U c d) : Turn (fun x => (S x ∨ T x) ∨ U x) a d :=
  (((h.mono (fun _ h => .inl h)).trans (k.mono (fun _ h => .inr h))).mono (fun _ h => .inl h)).trans (l.mono (fun _ h => .inr h))
theorem Ext.onlyz {w w' w'' : World} {g : Nat} (h : Ext w w') (k : Only g w' w'') (hg : w.heap.size ≤ g) : Ext w w'' := h.turn (Turn.of_only (S := fun b => b = g) k (fun _ => rfl)) (fun b hb => by omega)
theorem SliceOf.onlyB {α : Type} {w w' : World} {g size : Nat} {f : α → List Value} {A : Option Addr} {n c : Nat} {l : List α} (h : SliceOf w size f A n c l) (k : Only g w w') (hg : ∀ b, blkOf A n = some b → b ≠ g) : SliceOf w' size f A n c l :=
  h.turn (Turn.of_only (S := fun b => b = g) k (fun _ => rfl)) hg
/-- a list read, and a code -/
def RetSl {α : Type} (size : Nat) (f : α → List Value) (p : List α × Int) (w : World) (e : Ending) (w' : World) : Prop :=
  ∃ A n c l z, e = .returned (.tuple #[.slice A n c, .int .i64 z]) ∧ SliceOf w' size f A n c l ∧ Ext w w' ∧ Hid ((l, z) = p)
theorem named_sz {ns : List Node} (h : Named ns) : ∀ x ∈ ns, x.name.size ≤ 1048576 := h
theorem rout_len (ps : List Pipe) (N : Nat) (sup : List Int) (hP : PipesN N ps) (hl : sup.length = N) : (routR ps N sup).1.length ≤ ps.length := by
  unfold routR
  split
  · exact Nat.zero_le _
  · rename_i hs
    split
    · exact Nat.zero_le _
    · split
      · exact Nat.zero_le _
      · have hb := supB_bd (sup := sup) (by simpa using hs)
        have hI := ((routed_route hP hl hb).inv (rst0_inv hP hl hb) hP).1
        exact Nat.le_of_eq hI.fl
theorem pfV_len (ns : List Node) (ps : List Pipe) (xs : List Contract) (L : List Nomination) (h : Int) (l2 : ps.length ≤ 1048576) : (pfV ns.length ns ps xs L h).1.length ≤ 1048576 := by
  unfold pfV
  split
  · rename_i h0
    have hP := net_pipes (setC_ok h0).net
    exact Nat.le_trans (rout_len ps ns.length _ hP.1 (supT_len _ _)) l2
  · exact Nat.zero_le _
theorem prV_len (ns : List Node) (ps : List Pipe) (xs : List Contract) (L : List Nomination) (h : Int) : (prV ns.length ns ps xs L h).1.length ≤ 1048576 := by
  unfold prV
  split
  · rename_i h0
    have hP := net_pipes (setC_ok h0).net
    unfold rfV
    split
    · split
      · rename_i r hr
        have h1 := rfR_len hr
        have h2 := hP.1.n24
        show r.length ≤ _
        omega
      · exact Nat.zero_le _
    · exact Nat.zero_le _
  · exact Nat.zero_le _
theorem sp_PlannedFlows (A1 A2 : Option Addr) (n1 c1 n2 c2 : Nat) (ns : List Node) (ps : List Pipe) (A : Option Addr) (n c : Nat) (xs : List Contract) (B : Option Addr) (m d : Nat) (L : List Nomination) (h : Int) (w : World) (hs1 : SliceOf w 3 Node.cells A1 n1 c1 ns) (hs2 : SliceOf w 5 Pipe.cells A2 n2 c2 ps) (hs : SliceOf w 8 Contract.cells A n c xs) (hL : SliceOf w 4 Nomination.cells B m d L) (hnm : ∀ x ∈ ns, x.name.size ≤ 1048576) : Calls Tryz.prog 20 #[.agg #[.slice A1 n1 c1, .slice A2 n2 c2], .slice A n c, .slice B m d, .int .i64 h] w (RetSl 1 intC (pfV n1 ns ps xs L h) w) :=
  (c_specPlannedFlows A1 A2 n1 c1 n2 c2 ns ps A n c xs B m d L h w hs1 hs2 hs hL hnm).mono fun _ _ h => h
theorem sp_PlannedReadings (A1 A2 : Option Addr) (n1 c1 n2 c2 : Nat) (ns : List Node) (ps : List Pipe) (A : Option Addr) (n c : Nat) (xs : List Contract) (B : Option Addr) (m d : Nat) (L : List Nomination) (h : Int) (w : World) (hs1 : SliceOf w 3 Node.cells A1 n1 c1 ns) (hs2 : SliceOf w 5 Pipe.cells A2 n2 c2 ps) (hs : SliceOf w 8 Contract.cells A n c xs) (hL : SliceOf w 4 Nomination.cells B m d L) (hnm : ∀ x ∈ ns, x.name.size ≤ 1048576) : Calls Tryz.prog 34 #[.agg #[.slice A1 n1 c1, .slice A2 n2 c2], .slice A n c, .slice B m d, .int .i64 h] w (RetSl 2 Reading.cells (prV n1 ns ps xs L h) w) :=
  (c_specPlannedReadings A1 A2 n1 c1 n2 c2 ns ps A n c xs B m d L h w hs1 hs2 hs hL hnm).mono fun _ _ ⟨v, l, z, he, ho, hx, hp⟩ => by
    obtain ⟨A, c, rfl, hs⟩ := ho.sl reading_len (by omega)
    exact ⟨A, _, c, l, z, he, hs, hx, hp⟩
end Go.Proofs.YtpgbmhpddgjccaaGreat
