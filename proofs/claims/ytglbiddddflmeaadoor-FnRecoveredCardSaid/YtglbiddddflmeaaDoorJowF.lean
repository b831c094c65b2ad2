


/-
  FnRecovered: the law on what is recovered of any string, and on appending an event.
-/
import Derived.Test.YtglbiddddflmeaaDoorJowD
import Derived.Test.YtglbiddddflmeaaDoorJowA
import Derived.Test.YtglbiddddflmeaaDoorJouV
import Derived.Test.YtglbiddddflmeaaDoorJovF
namespace Go.Proofs.YtglbiddddflmeaaDoor
open Go.RowKit
open Go.Lib hiding intOf
theorem sumR_ok {l : List UInt8} (h : ¬ 20000 < l.length) : sumR l = (sumEs (recS l) 1, 0) := by unfold sumR; rw [if_neg h]
theorem recS_len (l : List UInt8) : (recS l).length ≤ 300 := recL_len (splitL 10 l).dropLast maxEv 1
theorem recS_ev (l : List UInt8) : ∀ e ∈ recS l, evB e = true := recL_valid _ _ _
theorem jourR_rec (l : List UInt8) : jourR (recS l) = (textL (recS l) 1, 0) := by
  have h1 := recS_len l
  have h2 : (recS l).all evB = true := List.all_eq_true.2 (recS_ev l)
  unfold jourR
  rw [if_neg (by omega), if_neg (by rw [h2]; decide)]
theorem text_short (es : List Event) (h : ∀ e ∈ es, evB e = true) (hl : es.length ≤ 300) : (textL es 1).length ≤ 14700 := by
  have := textL_len es 1 h (by omega) (by omega)
  omega
/-- what appending a valid event yields -/
theorem appJ_cases (l : List UInt8) (p : Event) :
    (appJ l p).2 ≠ 0 ∨ ((appJ l p).2 = 0 ∧ evB p = true ∧ ¬ 20000 < l.length ∧ (recS l).length < 300 ∧ (appJ l p).1 = textL (recS l ++ [p]) 1) := by
  have hl := recS_len l
  unfold appJ
  cases hp : evB p with
  | false => left; rw [if_pos rfl]; decide
  | true =>
    rw [if_neg (by decide)]
    by_cases h1 : 20000 < l.length
    · left; rw [if_pos h1]; decide
    · rw [if_neg h1]
      by_cases h2 : (recS l).length = 300
      · left; rw [if_pos h2]; decide
      · rw [if_neg h2]; right; exact ⟨rfl, rfl, h1, by omega, rfl⟩
set_option maxHeartbeats 2000000 in
set_option maxRecDepth 8000 in
theorem law_Recovered (A : Option Addr) (n c : Nat) (bs : List Int) (w : World) (hbs : SliceOf w 1 byteC A n c bs) (hbd : ∀ z ∈ bs, 0 ≤ z ∧ z ≤ 255) (hg : Glob w) :
    Calls Tryd.prog 11 #[.slice A n c] w (Ret (.bool true) w) := by
  have HD := hide hbd
  clear hbd
  by_cases hbig : (4096 : Int) < n
  · have hb : decide ((4096 : Int) < n) = true := by simpa using hbig
    go_enter Tryd.func11, Tryd.ntmps11
    go_wp2_with fail
    refine (c_big A n c _).mono ?_
    rw [hb]
    rintro e w' ⟨rfl, rfl⟩
    go_wp2_with fail
    go_ret
    exact Ret.bool rfl (Ext.refl _)
  have hb : decide ((4096 : Int) < n) = false := by simpa using hbig
  go_enter Tryd.func11, Tryd.ntmps11
  go_wp2_with fail
  refine (c_big A n c _).mono ?_
  rw [hb]
  rintro e w' ⟨rfl, rfl⟩
  clear hb
  go_wp2_with fail
  refine (c_DrawAppendEvent A n c bs _ hbs HD.out (by omega)).mono ?_
  rintro e w1 ⟨l, p, rfl, hl, hx1⟩
  have hl' : l.length ≤ 1048576 := by omega
  have hR := Row.new w1 38 [.int .i64 p.kind, .int .i64 p.a, .int .i64 p.b, .int .i64 p.c, .int .i64 p.d]
  have hX1 := hx1.and_alloc (.cells #[.int .i64 p.kind, .int .i64 p.a, .int .i64 p.b, .int .i64 p.c, .int .i64 p.d] 38)
  have hA := hide (appJ_cases l p)
  have hRC := hide (show recR l = (if 20000 < l.length then ([], 0, 3) else (recS l, (l.length : Int) - longL l, 0)) from rfl)
  have hrl : (recR l).1.length ≤ 300 := by unfold recR; split; · simp
                                           · exact recS_len l
  have hrv : ∀ e ∈ (recR l).1, evB e = true := by
    unfold recR
    split
    · simp
    · exact recS_ev l
  have HRV := hide hrv
  clear hrv
  obtain ⟨j, hj⟩ : ∃ j, (appJ l p).1 = j := ⟨_, rfl⟩
  obtain ⟨cj, hcj⟩ : ∃ cj, (appJ l p).2 = cj := ⟨_, rfl⟩
  obtain ⟨es, hes⟩ : ∃ es, (recR l).1 = es := ⟨_, rfl⟩
  obtain ⟨rs, hrs⟩ : ∃ rs, (recR l).2.1 = rs := ⟨_, rfl⟩
  obtain ⟨cr, hcr⟩ : ∃ cr, (recR l).2.2 = cr := ⟨_, rfl⟩
  obtain ⟨ne, hne⟩ : ∃ ne, es.length = ne := ⟨_, rfl⟩
  have HJ := hide hj
  have HCJ := hide hcj
  have HES := hide hes
  have HRS := hide hrs
  have HCR := hide hcr
  have HNE := hide hne
  rw [hes, hne] at hrl
  rw [hes] at HRV
  clear hcj hes hrs hcr hne
  generalize hG : w1.heap.size = gb at *
  go_wp2_with fail
  refine (c_AppendEvent l p hl' _ (hg.ext hX1)).mono ?_
  rw [HJ.out, HCJ.out]
  rintro e w2 ⟨rfl, hx2⟩
  have hX2 := hX1.trans hx2
  have hR2 := hR.ext hx2
  have q0 := hR2.cell 0
  have q1 := hR2.cell 1
  have q2 := hR2.cell 2
  have q3 := hR2.cell 3
  have q4 := hR2.cell 4
  simp at q0 q1 q2 q3 q4
  go_wp2_with fail
  refine (c_specAppendEvent l p hl' _).mono ?_
  rw [HJ.out, HCJ.out]
  rintro e w3 ⟨rfl, hx3⟩
  have hX3 := hX2.trans hx3
  have hR3 := hR2.ext hx3
  clear q0 q1 q2 q3 q4 hR hR2 hj
  go_wp2_with fail
  refine (c_RecoverEvents l hl' _ (hg.ext hX3)).mono ?_
  unfold RetRec
  rw [HES.out, HRS.out, HCR.out, HNE.out]
  rintro e w4 ⟨A4, c4, rfl, ho4, _, hx4⟩
  have hX4 := hX3.trans hx4
  go_wp2_with fail
  refine (c_specRecoverEvents l hl' _).mono ?_
  unfold RetRec
  rw [HES.out, HRS.out, HCR.out, HNE.out]
  rintro e w5 ⟨A5, c5, rfl, ho5, _, hx5⟩
  have hX5 := hX4.trans hx5
  have hs4 := (ho4.ext hx5).slice event_len
  have hs5 := ho5.slice event_len
  go_wp2_with fail
  refine (c_likeOwnEvent _ _ _ _ _ _ es _ hs4 hs5).mono ?_
  rintro e w6 ⟨rfl, hx6⟩
  have hX6 := hX5.trans hx6
  go_wp2_with fail
  refine (c_specRecoverEvents l hl' _).mono ?_
  unfold RetRec
  rw [HES.out, HRS.out, HCR.out, HNE.out]
  rintro e w7 ⟨A7, c7, rfl, ho7, _, hx7⟩
  have hX7 := hX6.trans hx7
  have hs1 := hs4.ext (hx6.trans hx7)
  have hs2 := ho7.slice event_len
  have hR7 := hR3.ext (hx4.trans (hx5.trans (hx6.trans hx7)))
  clear hs4 hs5 ho4 ho5 ho7 hx2 hx3 hx4 hx5 hx6 hx7 hX1 hX2 hX3 hX4 hX5 hX6 hR3
  rcases hA.out with hbad | ⟨hok, hev, hls, hln, htx⟩
  · have hb1 : (cj != 0) = true := by rw [bne_iff_ne, ← HCJ.out]; exact hbad
    have HB := hide hbad
    clear hbad
    go_wp2_with fail
    go_ret
    exact Ret.bool rfl hX7
  · obtain rfl : cj = 0 := by rw [← HCJ.out]; exact hok
    have hrc : recR l = (recS l, (l.length : Int) - longL l, 0) := by rw [hRC.out, if_neg hls]
    obtain rfl : es = recS l := by rw [← HES.out, hrc]
    obtain rfl : cr = 0 := by rw [← HCR.out, hrc]
    obtain rfl : j = textL (recS l ++ [p]) 1 := by rw [← HJ.out]; exact htx
    have HLS := hide hls
    clear hok hls htx hrc hRC HES HRS HCR HJ HCJ hA
    have hrl' := hrl
    go_wp2_with fail
    go_loopw [18] (fun i wr => ∃ k : Nat, k ≤ ne ∧ i = .int .i64 k ∧ Ext w7 wr) (fun i _ => ne - (intOf i).toNat)
    case atStart => exact ⟨0, Nat.zero_le _, rfl, Ext.refl _⟩
    case round =>
      obtain ⟨k, hk, rfl, hx⟩ := hrel
      have hXr := hX7.trans hx
      by_cases hlt : k < ne
      · obtain ⟨b1, o1, x, rfl, hb1, hk1, hc⟩ := (hs1.ext hx).get hlt
        have hc0 := hc 0 _ rfl
        have hc1 := hc 1 _ rfl
        have hc2 := hc 2 _ rfl
        have hc3 := hc 3 _ rfl
        have hc4 := hc 4 _ rfl
        clear hc
        simp only [Nat.add_zero] at hc0
        obtain ⟨b2, o2, y, rfl, hb2, hk2, hd⟩ := (hs2.ext hx).get hlt
        have hd0 := hd 0 _ rfl
        have hd1 := hd 1 _ rfl
        have hd2 := hd 2 _ rfl
        have hd3 := hd 3 _ rfl
        have hd4 := hd 4 _ rfl
        clear hd
        simp only [Nat.add_zero] at hd0
        obtain rfl : x = y := by rw [hk1] at hk2; injection hk2
        have hxe : evB x = true := HRV.out x (List.mem_of_getElem? hk1)
        clear hk1 hk2
        go_wp2_with fail
        refine wp_region_ph [([0, 1, 2, 3, 4, 5, 6, 7, 8, 9, 10, 11, 12, 13], 14)] [15, 16] (by kernel_rfl) (by kernel_rfl) (by intro c a w d v h; cases d <;> exact h) ?_
        simp only [wpPh, pickL, nthO]
        repeat (go_big_quiet_step (fail))
        refine wpQuiet_nil ?_
        go_wp2_with fail
        refine (c_IsEvent x _).mono ?_
        rw [hxe]
        rintro e w9 ⟨rfl, hx9⟩
        go_wp2_with fail
        refine ⟨hx9, ?_⟩
        repeat (go_big_quiet_step (fail))
        refine wpQuiet_nil ?_
        go_wp2_with fail
        go_roundw
        case rel => exact ⟨k + 1, by omega, by go_num, hx.trans ((Ext.refl _).drew.trans hx9)⟩
        case measure => simp [intOf]; omega
      · have hkn : ¬ (k : Int) < (ne : Int) := by omega
        obtain ⟨j, HJ⟩ : ∃ j, Hid (textL (recS l ++ [p]) 1 = j) := ⟨_, hide rfl⟩
        rw [HJ.out]
        have hjl : j.length ≤ 14700 := by
          rw [← HJ.out]
          refine text_short _ (fun f hf => ?_) (by simp; omega)
          rcases List.mem_append.1 hf with hf | hf
          · exact recS_ev l f hf
          · obtain rfl := List.mem_singleton.1 hf; exact hev
        have HRJ := hide (show recS j = recS l ++ [p] by rw [← HJ.out]; exact recS_more l p hev hln)
        have hrj : (recS j).length = ne + 1 := by rw [HRJ.out, List.length_append, HNE.out]; rfl
        have hlj : (j.length : Int) - longL j = 0 := by unfold longL; rw [HRJ.out, HJ.out]; omega
        have hg9 := hg.ext hXr
        have hR9 := hR7.ext hx
        have hs9 := hs2.ext hx
        clear hs1 hs2 hR7 hX7 hk
        obtain ⟨es, HE⟩ : ∃ es, Hid (recS l = es) := ⟨_, hide rfl⟩
        go_wp2_with fail
        refine (c_RecoverEvents j (by omega) _ hg9).mono ?_
        intro e w10 h10
        obtain ⟨A10, c10, rfl, hs10, hx10⟩ := retRec_ok (by omega) h10
        rw [hrj, hlj]
        clear h10
        have hX10 := hXr.trans hx10
        go_wp2_with fail
        refine (c_specRecoverEvents j (by omega) _).mono ?_
        intro e w11 h11
        obtain ⟨A11, c11, rfl, hs11, hx11⟩ := retRec_ok (by omega) h11
        rw [hrj, hlj]
        clear h11
        have hX11 := hX10.trans hx11
        rw [hrj] at hs10 hs11
        go_wp2_with fail
        refine (c_likeOwnEvent _ _ _ _ _ _ (recS j) _ (hs10.ext hx11) hs11).mono ?_
        rintro e w12 ⟨rfl, hx12⟩
        have hX12 := hX11.trans hx12
        have hs12 := hs10.ext (hx11.trans hx12)
        have hs9' := hs9.ext (hx10.trans (hx11.trans hx12))
        have hR12 := hR9.ext (hx10.trans (hx11.trans hx12))
        clear hs10 hs11 hs9 hR9 hX10 hX11
        go_wp2_with fail
        refine (c_JournalSum l hl' _ (hg.ext hX12)).mono ?_
        rw [sumR_ok HLS.out]
        rintro e w13 ⟨rfl, hx13⟩
        have hX13 := hX12.trans hx13
        have hJS := hide (jourR_rec l)
        obtain ⟨t, HT⟩ : ∃ t, Hid (textL (recS l) 1 = t) := ⟨_, hide rfl⟩
        have htl : t.length ≤ 14700 := by rw [← HT.out]; exact text_short _ (recS_ev l) (by rw [HNE.out]; omega)
        have htl' : t.length ≤ 1048576 := by omega
        have HRT := hide (show recS t = recS l by rw [← HT.out]; exact recS_again l)
        go_wp2_with fail
        refine (c_specJournalOf A7 ne c7 (recS l) _ (hs9'.ext hx13)).mono ?_
        rw [hJS.out, HT.out]
        rintro e w14 ⟨rfl, hx14⟩
        have hX14 := hX13.trans hx14
        go_wp2_with fail
        refine (c_JournalSum t htl' _ (hg.ext hX14)).mono ?_
        rw [sumR_ok (by omega), HRT.out]
        rintro e w15 ⟨rfl, hx15⟩
        have hX15 := hX14.trans hx15
        go_wp2_with fail
        refine (c_specJournalSum l hl' _).mono ?_
        rw [sumR_ok HLS.out]
        rintro e w16 ⟨rfl, hx16⟩
        have hX16 := hX15.trans hx16
        have hx1216 := hx13.trans (hx14.trans (hx15.trans hx16))
        have hR16 := hR12.ext hx1216
        obtain ⟨gg, oo, y, rfl, hgg, hyk, hc⟩ := (hs12.ext hx1216).get (show ne < ne + 1 by omega)
        obtain rfl : y = p := by
          rw [HRJ.out, List.getElem?_append_right (by rw [HNE.out]; exact Nat.le_refl _), HNE.out, Nat.sub_self] at hyk
          injection hyk.symm
        have p0 := hc 0 _ rfl
        have p1 := hc 1 _ rfl
        have p2 := hc 2 _ rfl
        have p3 := hc 3 _ rfl
        have p4 := hc 4 _ rfl
        simp only [Nat.add_zero] at p0
        have q0 := hR16.cell 0
        have q1 := hR16.cell 1
        have q2 := hR16.cell 2
        have q3 := hR16.cell 3
        have q4 := hR16.cell 4
        simp at q0 q1 q2 q3 q4
        clear hc hyk hx13 hx14 hx15 hx16 hx10 hx11 hx12 hX12 hX13 hX14 hX15 hx1216 hs12 hs9'
        have hgl := hR16.lt
        have n1 : IntKind.i64.wrap (((ne + 1 : Nat) : Int) - 1) = (ne : Int) := by rw [IntWalk.i64_in _ (by omega)]; omega
        have n2 : IntKind.i64.wrap ((ne : Int) + 1) = ((ne + 1 : Nat) : Int) := by rw [IntWalk.i64_in _ (by omega)]; omega
        go_wp2_with fail
        refine wp_region_ph [] [0, 1, 2, 3, 4, 5, 6, 7, 8, 9, 10, 11, 12, 13, 14, 15, 16, 17, 18, 19, 20, 21, 22, 23, 24, 25, 26, 27, 28, 29, 30, 31, 32, 33, 34, 35, 36, 37, 38, 39, 40, 41, 42] (by kernel_rfl) (by kernel_rfl) (by intro c a w d v h; cases d <;> exact h) ?_
        simp only [wpPh, pickL, nthO]
        repeat (go_big_quiet_step (fail))
        refine wpQuiet_nil ?_
        go_wp2_with fail
        go_ret
        exact Ret.bool rfl (hX16.drew)
end Go.Proofs.YtglbiddddflmeaaDoor
