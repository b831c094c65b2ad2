


/-
  FnJournals: the law on a journal that is cut off anywhere.
-/
import Derived.Test.YtglbiddddflmeaaDoorJowD
import Derived.Test.YtglbiddddflmeaaDoorJowA
import Derived.Test.YtglbiddddflmeaaDoorJovF
import Derived.Test.YtglbiddddflmeaaDoorJowB
namespace Go.Proofs.YtglbiddddflmeaaDoor
open Go.RowKit
open Go.Lib hiding intOf
theorem text_shortJ (es : List Event) (h : ∀ e ∈ es, evB e = true) (hl : es.length ≤ 300) : (textL es 1).length ≤ 14700 := by
  have := textL_len es 1 h (by omega) (by omega)
  omega
theorem jourR_ok (es : List Event) : (jourR es).2 ≠ 0 ∨ ((jourR es).2 = 0 ∧ es.length ≤ 300 ∧ (∀ e ∈ es, evB e = true) ∧ (jourR es).1 = textL es 1) := by
  unfold jourR
  by_cases h : 300 < es.length
  · rw [if_pos h]; left; decide
  · rw [if_neg h]
    cases hall : es.all evB with
    | false => rw [if_pos rfl]; left; decide
    | true => rw [if_neg (by decide)]; right; exact ⟨rfl, by omega, List.all_eq_true.1 hall, rfl⟩
theorem isJ_whole (es : List Event) (hl : es.length ≤ 300) (hv : ∀ e ∈ es, evB e = true) : isJ (textL es 1) = true := by
  have h1 := text_shortJ es hv hl
  unfold isJ longL
  rw [recS_whole es hv hl, decide_eq_true (by omega), decide_eq_true rfl]; rfl
theorem isJ_rest (l : List UInt8) (h : l.length ≤ 20000) : isJ l = (((l.length : Int) - longL l) == 0) := by
  unfold isJ
  have h2 := recS_le l
  rw [decide_eq_true h, Bool.true_and, Bool.eq_iff_iff, decide_eq_true_iff, beq_iff_eq]
  unfold longL at *
  omega
theorem cut_common (es fs : List Event) (k : Nat) (hk : k ≤ es.length) (hf : fs = es.take k) : IsCommon es fs k := by
  subst hf
  refine ⟨hk, by rw [List.length_take]; omega, fun j hj => ?_, .inr (.inl (by rw [List.length_take]; omega))⟩
  rw [List.getElem?_take, if_pos hj]
set_option maxHeartbeats 2000000 in
set_option maxRecDepth 8000 in
theorem law_Journals (A : Option Addr) (n c : Nat) (bs : List Int) (w : World) (hbs : SliceOf w 1 byteC A n c bs) (hbd : ∀ z ∈ bs, 0 ≤ z ∧ z ≤ 255) (hg : Glob w) :
    Calls Tryd.prog 9 #[.slice A n c] w (Ret (.bool true) w) := by
  have HD := hide hbd
  clear hbd
  by_cases hbig : (4096 : Int) < n
  · have hb : decide ((4096 : Int) < n) = true := by simpa using hbig
    go_enter Tryd.func9, Tryd.ntmps9
    go_wp2_with fail
    refine (c_big A n c _).mono ?_
    rw [hb]
    rintro e w' ⟨rfl, rfl⟩
    go_wp2_with fail
    go_ret
    exact Ret.bool rfl (Ext.refl _)
  have hb : decide ((4096 : Int) < n) = false := by simpa using hbig
  go_enter Tryd.func9, Tryd.ntmps9
  go_wp2_with fail
  refine (c_big A n c _).mono ?_
  rw [hb]
  rintro e w' ⟨rfl, rfl⟩
  clear hb
  go_wp2_with fail
  refine (c_DrawJournalOf A n c bs _ hbs HD.out (by omega)).mono ?_
  rintro e w1 ⟨B, m, d, es, rfl, hm, hs, hx1⟩
  have hA := hide (jourR_ok es)
  have HM := hide hs.len
  have hmd := hs.cap
  have hmc := hs.max
  obtain ⟨j, HJ⟩ : ∃ j, Hid ((jourR es).1 = j) := ⟨_, hide rfl⟩
  obtain ⟨cj, HCJ⟩ : ∃ cj, Hid ((jourR es).2 = cj) := ⟨_, hide rfl⟩
  go_wp2_with fail
  refine (c_JournalOf B m d es _ hs (hg.ext hx1).toJ).mono ?_
  rw [HJ.out, HCJ.out]
  rintro e w2 ⟨rfl, hx2⟩
  have hX2 := hx1.trans hx2
  go_wp2_with fail
  refine (c_specJournalOf B m d es _ (hs.ext hx2)).mono ?_
  rw [HJ.out, HCJ.out]
  rintro e w3 ⟨rfl, hx3⟩
  have hX3 := hX2.trans hx3
  rcases hA.out with hbad | ⟨hok, hel, hev, htx⟩
  · have hb1 : (cj != 0) = true := by rw [bne_iff_ne, ← HCJ.out]; exact hbad
    have HB := hide hbad
    clear hbad
    go_wp2_with fail
    go_ret
    exact Ret.bool rfl hX3
  obtain rfl : cj = 0 := by rw [← HCJ.out]; exact hok
  have HTX := hide (show j = textL es 1 by rw [← HJ.out]; exact htx)
  have HEV := hide hev
  have hjl : j.length ≤ 14700 := by rw [HTX.out]; exact text_shortJ es hev hel
  have hsz : (mkB j).size = j.length := rfl
  have hbs3 := hbs.ext hX3
  have hs3 := hs.ext (hx2.trans hx3)
  have hel' : m ≤ 300 := by rw [HM.out]; exact hel
  clear hok hev htx hA HJ HCJ hs hx2 hx3 hX2 hel
  have hw1 : IntKind.u64.wrap 3201 = 3201 := by decide
  go_wp2_with fail
  refine (c_roll A n c 3201 bs _ hbs3).mono ?_
  rintro e w4 ⟨g, rfl, hg4, hd4, hx4⟩
  go_wp2_with fail
  refine (c_below g ((j.length : Int) + 1) A n c bs w3 w4 hbs3 HD.out hx4 hg4 hd4 (by omega) (by omega)).mono ?_
  rintro e w5 ⟨x, rfl, hx0, hxm, hx5⟩
  have hX5 := hX3.trans hx5
  obtain ⟨cut, rfl⟩ := Int.eq_ofNat_of_zero_le hx0
  have hcut : cut ≤ j.length := by omega
  clear hx0 hxm hx4 hd4 hg4
  go_wp2_with fail
  go_loopw [9, 10] (fun c i wr => ∃ k : Nat, k ≤ cut ∧ i = .int .i64 k ∧ c = .int .i64 ((j.take k).count 10 : Nat) ∧ Ext w5 wr) (fun _ i _ => cut - (intOf i).toNat)
  case atStart => exact ⟨0, Nat.zero_le _, rfl, rfl, Ext.refl _⟩
  case round =>
    obtain ⟨k, hk, rfl, rfl, hx⟩ := hrel
    have hXr := hX5.trans hx
    by_cases hlt : k < cut
    · have hlt' : decide ((k : Int) < (cut : Int)) = true := decide_eq_true (by omega)
      have hcnt : (j.take k).count 10 ≤ k := Nat.le_trans List.count_le_length (by rw [List.length_take]; omega)
      obtain ⟨b, hb⟩ : ∃ b, j[k]? = some b := ⟨_, List.getElem?_eq_getElem (show k < j.length by omega)⟩
      have hat := str_at j k b hb wr
      have hkj : k < j.length := by omega
      have HC := hide (count_snoc j k b hb)
      clear hb
      by_cases hbc : b = 10
      · subst hbc
        have hat' : (10 : UInt8).toNat = 10 := rfl
        rw [hat'] at hat
        generalize (j.take k).count 10 = q at *
        go_wp2_with fail
        go_roundw
        case rel => exact ⟨k + 1, by omega, by go_num, by rw [HC.out, if_pos rfl]; go_num, hx⟩
        case measure => simp [intOf]; omega
      · have hne : ¬ ((b.toNat : Int) = 10) := by
          intro h
          exact hbc (UInt8.toNat_inj.1 (by show b.toNat = 10; omega))
        generalize (b.toNat : Int) = bn at *
        have hbe : (bn == 10) = false := by rw [beq_eq_false_iff_ne]; exact hne
        generalize (j.take k).count 10 = q at *
        go_wp2_with fail
        go_roundw
        case rel => exact ⟨k + 1, by omega, by go_num, by rw [HC.out, if_neg hbc]; rfl, hx⟩
        case measure => simp [intOf]; omega
    · obtain rfl : k = cut := by omega
      have hlt' : decide ((k : Int) < (k : Int)) = false := decide_eq_false (by omega)
      have hcl := cut_low j k
      obtain ⟨s, HS⟩ : ∃ s, Hid (j.take k = s) := ⟨_, hide rfl⟩
      have hsl : s.length = k := by rw [← HS.out, List.length_take]; omega
      have hcr := cut_rec es HEV.out (by rw [← HM.out]; exact hel') k
      rw [← HTX.out, HS.out] at hcr
      rw [HS.out] at hcl ⊢
      obtain ⟨nl, HNL⟩ : ∃ nl, Hid (s.count 10 = nl) := ⟨_, hide rfl⟩
      rw [HNL.out] at hcr ⊢
      have HRS := hide hcr.1
      have hnl : nl ≤ m := by rw [HM.out]; exact hcr.2
      have hrl : (recS s).length = nl := by rw [HRS.out, List.length_take, ← HM.out]; omega
      have hlong := recS_le s
      have hrest : 0 ≤ (s.length : Int) - longL s := by unfold longL; omega
      have hij := isJ_rest s (by omega)
      obtain ⟨rs, hrs⟩ : ∃ rs, (s.length : Int) - longL s = rs := ⟨_, rfl⟩
      rw [hrs] at hrest hij
      have HIJ := hide hij
      have HRE := hide hrs
      clear hij hrs
      have HIW := hide (show isJ j = true by rw [HTX.out]; exact isJ_whole es (by rw [← HM.out]; exact hel') HEV.out)
      have HRJ := hide (show recS j = es by rw [HTX.out]; exact recS_whole es HEV.out (by rw [← HM.out]; exact hel'))
      have hgr := hg.ext hXr
      have hs4 := hs3.ext (hx5.trans hx)
      have hs5' : s.length ≤ 1048576 := by omega
      have hszs : (mkB s).size = s.length := rfl
      clear hcr hlong hlt' hs3
      go_wp2_with fail
      refine (c_RecoverEvents s hs5' _ hgr).mono ?_
      intro e w6 h6
      obtain ⟨A6, c6, rfl, hs6, hx6⟩ := retRec_ok (by omega) h6
      rw [hrl] at hs6
      rw [hrl, HRE.out]
      clear h6
      have hX6 := hXr.trans hx6
      go_wp2_with fail
      refine (c_specRecoverEvents s hs5' _).mono ?_
      intro e w7 h7
      obtain ⟨A7, c7, rfl, hs7, hx7⟩ := retRec_ok (by omega) h7
      rw [hrl] at hs7
      rw [hrl, HRE.out]
      clear h7
      have hX7 := hX6.trans hx7
      go_wp2_with fail
      refine (c_likeOwnEvent _ _ _ _ _ _ (recS s) _ (hs6.ext hx7) hs7).mono ?_
      rintro e w8 ⟨rfl, hx8⟩
      have hX8 := hX7.trans hx8
      have hs8 := hs6.ext (hx7.trans hx8)
      have hs9 := hs4.ext (hx6.trans (hx7.trans hx8))
      have hrs' : decide (rs < 0) = false := decide_eq_false (by omega)
      clear hs6 hs7 hs4 hx6 hx7 hx8 hX6 hX7 hgr
      go_wp2_with fail
      refine (c_IsJournal j (by omega) _ (hg.ext hX8)).mono ?_
      rw [HIW.out]
      rintro e w9 ⟨rfl, hx9⟩
      have hX9 := hX8.trans hx9
      have hs1 := hs8.ext hx9
      have hs2 := hs9.ext hx9
      clear hs8 hs9
      have HRS2 := hide (show ∀ i, i < nl → (recS s)[i]? = es[i]? from fun i hi => by rw [HRS.out, List.getElem?_take, if_pos hi])
      go_wp2_with fail
      go_loopw [17] (fun i wr => ∃ i' : Nat, i' ≤ nl ∧ i = .int .i64 i' ∧ Ext w9 wr) (fun i _ => nl - (intOf i).toNat)
      case atStart => exact ⟨0, Nat.zero_le _, rfl, Ext.refl _⟩
      case round =>
        obtain ⟨i, hi, rfl, hxr⟩ := hrel
        have hXr' := hX9.trans hxr
        by_cases hlt : i < nl
        · have hef := HRS2.out i hlt
          obtain ⟨g1, o1, x, rfl, hg1, hek, hc⟩ := (hs1.ext hxr).get hlt
          have p0 := hc 0 _ rfl
          have p1 := hc 1 _ rfl
          have p2 := hc 2 _ rfl
          have p3 := hc 3 _ rfl
          have p4 := hc 4 _ rfl
          clear hc
          obtain ⟨g2, o2, y, rfl, hg2, hfk, hc⟩ := (hs2.ext hxr).get (show i < m by omega)
          have q0 := hc 0 _ rfl
          have q1 := hc 1 _ rfl
          have q2 := hc 2 _ rfl
          have q3 := hc 3 _ rfl
          have q4 := hc 4 _ rfl
          clear hc
          simp only [Nat.add_zero] at p0 q0
          obtain rfl : x = y := by rw [hek, hfk] at hef; injection hef
          clear hek hfk hef
          go_wp2_with fail
          refine wp_region_later (by kernel_rfl) (by kernel_rfl) ?_
          repeat (go_big_quiet_step (fail))
          refine wpQuiet_nil ?_
          intro w12 hx12
          go_wp2_with fail
          go_roundw
          case rel => exact ⟨i + 1, by omega, by go_num, hxr.trans hx12⟩
          case measure => simp [intOf]; omega
        · have hni : ¬ (i : Int) < (nl : Int) := by omega
          clear hs1 hs2
          go_wp2_with fail
          refine (c_CommonEvents j s (by omega) hs5' _ (hg.ext hXr')).mono ?_
          intro e w13 h13
          rcases h13 with ⟨hbig, _⟩ | ⟨_, k2, rfl, hk2, hx13⟩
          · exact absurd hbig (by omega)
          obtain rfl : k2 = nl := by
            rw [HRJ.out] at hk2
            exact hk2.eq (cut_common es (recS s) nl (by rw [← HM.out]; exact hnl) HRS.out)
          clear hk2
          have hX13 := hXr'.trans hx13
          go_wp2_with fail
          refine (c_IsJournal s hs5' _ (hg.ext hX13)).mono ?_
          rw [HIJ.out]
          rintro e w14 ⟨rfl, hx14⟩
          go_wp2_with fail
          go_ret
          exact Ret.bool (by simp) (hX13.trans hx14)
end Go.Proofs.YtglbiddddflmeaaDoor
