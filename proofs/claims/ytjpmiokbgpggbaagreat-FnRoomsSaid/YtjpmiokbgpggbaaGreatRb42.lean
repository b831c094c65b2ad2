/-
  AcceptNomination of the reference. AcceptNomination of the reference: its parts.
-/
import Derived.Test.YtjpmiokbgpggbaaGreatRb41
import Derived.Test.YtjpmiokbgpggbaaGreatRb06
namespace Go.Proofs.YtjpmiokbgpggbaaGreat
open Go.RowKit
theorem amt_one (y : Int) : ∀ u ∈ intC y, u.oneCell' = true := by intro u hu; simp [intC] at hu; subst hu; rfl
def amts (ct h : Int) (L : List Nomination) : List Int := (L.filter (hitN ct h)).map Nomination.amount
theorem amts_step {ct h : Int} {L : List Nomination} {k : Nat} {p : Nomination} (hk : L[k]? = some p) : amts ct h (L.take (k + 1)) = amts ct h (L.take k) ++ if hitN ct h p = true then [p.amount] else [] := by
  unfold amts
  rw [List.take_add_one, hk, List.filter_append, List.map_append]
  congr 1
  cases hh : hitN ct h p <;> simp [hh]
theorem amts_len (ct h : Int) (L : List Nomination) : (amts ct h L).length ≤ L.length := by unfold amts; rw [List.length_map]; exact List.length_filter_le _ _
set_option maxHeartbeats 4000000 in
theorem c_l21History (ct h : Int) (B : Option Addr) (m d : Nat) (L : List Nomination) (w : World) (hL : SliceOf w 4 Nomination.cells B m d L) (h200 : m ≤ 200) :
    Calls Tryz.prog 145 #[.slice B m d, .int .i64 ct, .int .i64 h] w (RetA 2 intC (amts ct h L) w) := by
  have hmm := hL.max
  have hcap := hL.cap
  have HLn := hide hL.len
  go_enter Tryz.func145, Tryz.ntmps145
  go_wp2_with fail
  go_loopw [7, 8] (fun v i wr => ∃ (k : Nat) (E : List Int), k ≤ m ∧ i = .int .i64 k ∧ E.length ≤ k ∧ Hid (E = amts ct h (L.take k)) ∧ OwnL wr w.heap.size 2 1 intC v E ∧ Ext w wr) (fun _ i _ => m - (intOf i).toNat)
  case atStart => exact ⟨0, [], Nat.zero_le _, rfl, by simp, hide rfl, OwnL.empty w _ _ _ _ (Nat.le_refl _), Ext.alloc _ _⟩
  case round =>
    obtain ⟨k, E, hk, rfl, hE, HE, hown, hx⟩ := hrel
    have hxz := hx.size
    by_cases hlt : k < m
    · obtain ⟨b, off, p, rfl, hb, hxk, hc⟩ := (hL.ext hx).get hlt
      have HST := hide (amts_step (ct := ct) (h := h) hxk)
      clear hxk
      have hc0 := hc 0 _ rfl
      have hc1 := hc 1 _ rfl
      have hc3 := hc 3 _ rfl
      clear hc
      simp only [Nat.add_zero] at hc0
      cases e0 : (p.contract == ct)
      · have HN := hide (show amts ct h (L.take (k + 1)) = E by rw [HST.out, ← HE.out, hitN, e0]; simp)
        go_wp2_with fail
        go_roundw
        case rel => exact ⟨k + 1, E, by omega, by go_num, by omega, hide HN.out.symm, hown, hx⟩
        case measure => simp [intOf]; omega
      · cases e1 : (p.hour == h)
        · have HN := hide (show amts ct h (L.take (k + 1)) = E by rw [HST.out, ← HE.out, hitN, e0, e1]; simp)
          go_wp2_with fail
          go_roundw
          case rel => exact ⟨k + 1, E, by omega, by go_num, by omega, hide HN.out.symm, hown, hx⟩
          case measure => simp [intOf]; omega
        · have HN := hide (show amts ct h (L.take (k + 1)) = E ++ [p.amount] by rw [HST.out, ← HE.out, hitN, e0, e1]; simp)
          go_wp2_with (at_builtin; go_must (refine wpList_append_one rfl _ _ 109 rfl w.heap.size 2 _ 1 8 Tryz.underlying109 int_info rfl (by decide) intC intC_len amt_one _ _ rfl (hown.ext (Ext.alloc _ _)) _ p.amount rfl _ rfl (by first | rfl | simp) (by omega) (by omega) (by first | omega | (simp; omega)) ?_))
          intro v1 w4 hown4 hext4
          have hx4 := hext4 w (Nat.le_refl _) (hx.and_alloc _)
          go_wp2_with fail
          go_roundw
          case rel => exact ⟨k + 1, _, by omega, by go_num, by simp; omega, hide HN.out.symm, hown4, hx4⟩
          case measure => simp [intOf]; omega
    · obtain rfl : m = k := by omega
      have HE2 := hide (show E = amts ct h L by rw [HE.out, HLn.out, List.take_length])
      obtain ⟨A', c', rfl, ho, hb⟩ := hown.toA intC_len (by omega)
      go_wp2_with fail
      go_ret
      rw [← HE2.out]
      exact ⟨A', _, c', rfl, ho, hb, hx⟩
end Go.Proofs.YtjpmiokbgpggbaaGreat

namespace Go.Proofs.YtjpmiokbgpggbaaGreat
open Go.RowKit
set_option maxHeartbeats 1000000 in
theorem c_l20Code (A1 A2 : Option Addr) (n1 c1 n2 c2 : Nat) (ns : List Node) (ps : List Pipe) (A : Option Addr) (n c : Nat) (xs : List Contract) (w : World) (hs1 : SliceOf w 3 Node.cells A1 n1 c1 ns) (hs2 : SliceOf w 5 Pipe.cells A2 n2 c2 ps) (hs : SliceOf w 8 Contract.cells A n c xs) (hnm : ∀ x ∈ ns, x.name.size ≤ 1048576) :
    Calls Tryz.prog 142 #[.agg #[.slice A1 n1 c1, .slice A2 n2 c2], .slice A n c] w (Ret (.int .i64 (bookC n1 ns ps xs)) w) := by
  have hm1 := hs1.max
  have hp1 := hs1.cap
  have HNM := hide hnm
  clear hnm
  go_enter Tryz.func142, Tryz.ntmps142
  go_wp2_with fail
  refine (c_specIsNetwork A1 A2 n1 c1 n2 c2 ns ps _ (hs1.ext (Ext.alloc _ _)) (hs2.ext (Ext.alloc _ _)) HNM.out).mono ?_
  cases hN : netB ns ps
  · have HR := hide (show bookC n1 ns ps xs = 1 by unfold bookC; rw [hN]; rfl)
    rintro e w1 ⟨rfl, hx1⟩
    go_wp2_with fail
    go_ret
    exact Ret.int HR.out hx1.box
  rintro e w1 ⟨rfl, hx1⟩
  have hcl := hx1.cell
  go_wp2_with fail
  refine (c_l20Book A1 A2 n1 c1 n2 c2 A n c xs _ (by omega) (hs.ext hx1.box)).mono ?_
  cases hB : bookB n1 xs
  · have HR := hide (show bookC n1 ns ps xs = 3 by unfold bookC; rw [hN, hB]; rfl)
    rintro e w2 ⟨rfl, hx2⟩
    go_wp2_with fail
    go_ret
    exact Ret.int HR.out (hx1.box.trans hx2)
  · have HR := hide (show bookC n1 ns ps xs = 0 by unfold bookC; rw [hN, hB]; rfl)
    rintro e w2 ⟨rfl, hx2⟩
    go_wp2_with fail
    go_ret
    exact Ret.int HR.out (hx1.box.trans hx2)
set_option maxHeartbeats 1000000 in
theorem c_l21Code (A1 A2 : Option Addr) (n1 c1 n2 c2 : Nat) (ns : List Node) (ps : List Pipe) (A : Option Addr) (n c : Nat) (xs : List Contract) (B : Option Addr) (m d : Nat) (L : List Nomination) (w : World) (hs1 : SliceOf w 3 Node.cells A1 n1 c1 ns) (hs2 : SliceOf w 5 Pipe.cells A2 n2 c2 ps) (hs : SliceOf w 8 Contract.cells A n c xs) (hL : SliceOf w 4 Nomination.cells B m d L) (hnm : ∀ x ∈ ns, x.name.size ≤ 1048576) :
    Calls Tryz.prog 115 #[.agg #[.slice A1 n1 c1, .slice A2 n2 c2], .slice A n c, .slice B m d] w (Ret (.int .i64 (nomC n1 ns ps xs L)) w) := by
  have HNM := hide hnm
  clear hnm
  go_enter Tryz.func115, Tryz.ntmps115
  go_wp2_with fail
  refine (c_l20Code A1 A2 n1 c1 n2 c2 ns ps A n c xs _ (hs1.ext (Ext.alloc _ _)) (hs2.ext (Ext.alloc _ _)) (hs.ext (Ext.alloc _ _)) HNM.out).mono ?_
  by_cases hz : bookC n1 ns ps xs = 0
  · have hbk := book_zero hz
    have HOK := hide (book_hours hbk.2)
    clear hbk
    rw [hz]
    rintro e w1 ⟨rfl, hx1⟩
    go_wp2_with fail
    refine (c_l21List A n c xs B m d L _ (hs.ext hx1.box) (hL.ext hx1.box) HOK.out).mono ?_
    cases hb : nomsB xs L
    · have HR := hide (show nomC n1 ns ps xs L = 5 by unfold nomC; rw [if_pos hz, hb]; rfl)
      clear hz
      rintro e w2 ⟨rfl, hx2⟩
      go_wp2_with fail
      go_ret
      exact Ret.int HR.out (hx1.box.trans hx2)
    · have HR := hide (show nomC n1 ns ps xs L = 0 by unfold nomC; rw [if_pos hz, hb]; rfl)
      clear hz
      rintro e w2 ⟨rfl, hx2⟩
      go_wp2_with fail
      go_ret
      exact Ret.int HR.out (hx1.box.trans hx2)
  · have HR := hide (show nomC n1 ns ps xs L = bookC n1 ns ps xs by unfold nomC; rw [if_neg hz])
    have hz1 : (bookC n1 ns ps xs == 0) = false := by simpa using hz
    clear hz
    generalize bookC n1 ns ps xs = Z at *
    rintro e w1 ⟨rfl, hx1⟩
    go_wp2_with fail
    go_ret
    exact Ret.int HR.out hx1.box
theorem amts_last {ct h : Int} {L : List Nomination} {q : Nomination} (hq : (L.filter (hitN ct h)).getLast? = some q) : ∃ k, (amts ct h L).length = k + 1 ∧ (amts ct h L)[k]? = some q.amount := by
  have hl : (amts ct h L).getLast? = some q.amount := by unfold amts; rw [List.getLast?_map, hq]; rfl
  rw [List.getLast?_eq_getElem?] at hl
  have := (List.getElem?_eq_some_iff.1 hl).1
  exact ⟨(amts ct h L).length - 1, by omega, hl⟩
set_option maxHeartbeats 8000000 in
theorem c_l21Acceptable (A : Option Addr) (n c : Nat) (xs : List Contract) (B : Option Addr) (m d : Nat) (L : List Nomination) (w : World) (hs : SliceOf w 8 Contract.cells A n c xs) (hL : SliceOf w 4 Nomination.cells B m d L) (x : Nomination) (n1 : Int) (hbk : bookB n1 xs = true) (hall : ∀ q ∈ L, nomB xs q = true) (hb : nomB xs x = true) (h200 : L.length ≤ 200) :
    Calls Tryz.prog 117 #[.slice A n c, .slice B m d, .agg #[.int .i64 x.contract, .int .i64 x.hour, .int .i64 x.sent, .int .i64 x.amount]] w (Ret (.bool (accB xs L x)) w) := by
  obtain ⟨W0, HW⟩ : ∃ W0, Hid ((w.alloc (.cells #[.int .i64 x.contract, .int .i64 x.hour, .int .i64 x.sent, .int .i64 x.amount] 70)) = W0) := ⟨_, hide rfl⟩
  have hin : NomIn W0 w.heap.size x := by rw [← HW.out]; exact NomIn.new w x 70
  have x0 : Ext w W0 := by rw [← HW.out]; exact Ext.alloc _ _
  have hmm := hL.max
  have hcap := hL.cap
  have HLn := hide hL.len
  have hm200 : m ≤ 200 := by rw [HLn.out]; exact h200
  obtain ⟨kc, p, hkc, hkl, hpc, hpa, hpb, hxa, hxb, hxh, hxi, hxs, hxt⟩ := nomB_facts hbk hb
  have HKC := hide hkc
  have HPC := hide hpc
  have HALL := hide hall
  have HBK := hide hbk
  clear hall hbk hkc hpc hb
  have hlast : (m = 0 ∧ Hid (L = [])) ∨ ∃ (m' : Nat) (y : Nomination), m = m' + 1 ∧ Hid (L.getLast? = some y) ∧ Hid (L[m']? = some y) := by
    rcases Nat.eq_zero_or_pos m with h | h
    · exact .inl ⟨h, hide (List.eq_nil_of_length_eq_zero (by rw [← HLn.out]; exact h))⟩
    · have hlt : m - 1 < L.length := by rw [← HLn.out]; omega
      refine .inr ⟨m - 1, L[m - 1], by omega, hide ?_, hide (List.getElem?_eq_getElem hlt)⟩
      rw [List.getLast?_eq_getElem?, ← HLn.out]; exact List.getElem?_eq_getElem hlt
  have hin' := hin
  obtain ⟨hy, y0, y1, y2, y3⟩ := hin'
  rcases hlast with ⟨rfl, HE⟩ | ⟨m', y, rfl, HG, HY⟩
  · have HACC := hide (acc_none (xs := xs) (L := L) (x := x) (fun y hy => by rw [HE.out] at hy; cases hy) (by unfold hits; rw [HE.out]; rfl))
    have HAM := hide (show amts x.contract x.hour L = [] by rw [HE.out]; rfl)
    go_enter Tryz.func117, Tryz.ntmps117
    go_wp2_with fail
    rw [HW.out]
    refine wp_region_ph [] [0, 1, 2, 3, 4, 5, 6, 7, 8, 9, 10, 11, 12, 13, 14] (by kernel_rfl) (by kernel_rfl) (by intro c a w d v h; cases d <;> exact h) ?_
    simp only [wpPh, pickL, nthO]
    repeat (go_big_quiet_step (fail))
    refine wpQuiet_nil ?_
    go_wp2_with fail
    refine (c_l21History x.contract x.hour B 0 d L _ (hL.ext x0.drew) (by omega)).mono ?_
    rw [HAM.out]
    rintro e w3 ⟨A3, n3, c3, rfl, ho3, _, hx3⟩
    have hx03 := x0.drew.trans hx3
    obtain rfl : n3 = 0 := ho3.1
    clear hy y0 y1 y2 y3
    obtain ⟨hy, y0, y1, y2, y3⟩ := hin.ext ((Ext.refl _).drew.trans hx3)
    cases b1 : decide (x.sent ≤ x.hour - 6)
    · go_wp2_with fail
      go_ret
      exact Ret.bool HACC.out hx03
    · go_wp2_with fail
      go_ret
      exact Ret.bool HACC.out hx03
  · have hmL : m' < L.length := by rw [← HLn.out]; omega
    obtain ⟨b, off, y', rfl, hb, hyk, hc⟩ := (hL.ext x0).get (k := m') (by omega)
    obtain rfl : y = y' := by have := HY.out.symm.trans hyk; injection this
    have hcy := hc 2 _ rfl
    clear hc hyk
    cases hsb : decide (x.sent < y.sent)
    case true =>
      have HR := hide (acc_last_no (xs := xs) HG.out hsb)
      go_enter Tryz.func117, Tryz.ntmps117
      go_wp2_with fail
      rw [HW.out]
      refine wp_region_ph [] [0, 1, 2, 3, 4, 5, 6, 7, 8, 9, 10, 11, 12, 13, 14] (by kernel_rfl) (by kernel_rfl) (by intro c a w d v h; cases d <;> exact h) ?_
      simp only [wpPh, pickL, nthO]
      repeat (go_big_quiet_step (fail))
      refine wpQuiet_nil ?_
      go_wp2_with fail
      go_ret
      exact Ret.bool HR.out x0.drew
    have HSB := hide (show ∀ z, L.getLast? = some z → decide (x.sent < z.sent) = false from fun z hz => by rw [HG.out] at hz; injection hz with hz; subst hz; exact hsb)
    go_enter Tryz.func117, Tryz.ntmps117
    go_wp2_with fail
    rw [HW.out]
    refine wp_region_ph [] [0, 1, 2, 3, 4, 5, 6, 7, 8, 9, 10, 11, 12, 13, 14] (by kernel_rfl) (by kernel_rfl) (by intro c a w d v h; cases d <;> exact h) ?_
    simp only [wpPh, pickL, nthO]
    repeat (go_big_quiet_step (fail))
    refine wpQuiet_nil ?_
    clear hcy hsb
    go_wp2_with fail
    refine (c_l21History x.contract x.hour _ (m' + 1) d L _ (hL.ext x0.drew) (by omega)).mono ?_
    cases hf : (L.filter (hitN x.contract x.hour)).getLast? with
    | none =>
      have hF : L.filter (hitN x.contract x.hour) = [] := List.getLast?_eq_none_iff.1 hf
      have HACC := hide (acc_none (xs := xs) (L := L) (x := x) HSB.out hF)
      have HAM := hide (show amts x.contract x.hour L = [] by unfold amts; rw [hF]; rfl)
      clear hf hF
      rw [HAM.out]
      rintro e w3 ⟨A3, n3, c3, rfl, ho3, _, hx3⟩
      have hx03 := x0.drew.trans hx3
      obtain rfl : n3 = 0 := ho3.1
      clear hy y0 y1 y2 y3
      obtain ⟨hy, y0, y1, y2, y3⟩ := hin.ext ((Ext.refl _).drew.trans hx3)
      cases b1 : decide (x.sent ≤ x.hour - 6)
      · go_wp2_with fail
        go_ret
        exact Ret.bool HACC.out hx03
      · go_wp2_with fail
        go_ret
        exact Ret.bool HACC.out hx03
    | some q =>
      have HACC := hide (acc_some (xs := xs) (L := L) (x := x) HSB.out hf HKC.out HPC.out)
      obtain ⟨k, hk1, hk2⟩ := amts_last hf
      have hqL : q ∈ L := (List.mem_filter.1 (List.mem_of_getLast? hf)).1
      obtain ⟨_, _, _, _, _, _, _, hqa, hqb, _, _, _, _⟩ := nomB_facts HBK.out (HALL.out q hqL)
      have hlen := amts_len x.contract x.hour L
      clear hf hqL
      rintro e w3 ⟨A3, n3, c3, rfl, ho3, _, hx3⟩
      have hx03 := x0.drew.trans hx3
      obtain rfl : n3 = k + 1 := ho3.1.trans hk1
      have hs3 := ho3.slice intC_len
      have hm3 := hs3.max
      have hc3 := hs3.cap
      obtain ⟨b3, o3, z, rfl, hb3, hzk, hcz⟩ := hs3.get (k := k) (by omega)
      obtain rfl : q.amount = z := by have := hk2.symm.trans hzk; injection this
      have hcz0 := hcz 0 _ rfl
      simp only [Nat.add_zero, Nat.mul_one] at hcz0
      have hk200 : k < 200 := by omega
      clear hcz hzk hk2 hk1 hs3 ho3 hlen
      clear hy y0 y1 y2 y3
      obtain ⟨hy, y0, y1, y2, y3⟩ := hin.ext ((Ext.refl _).drew.trans hx3)
      cases b1 : decide (x.sent ≤ x.hour - 6)
      · have HB := hide (show accB xs L x = decide (absI (x.amount - q.amount) ≤ p.amount.tdiv 2) by
          rw [HACC.out, show decide (x.hour - 6 < x.sent) = true by simp at b1 ⊢; omega, Bool.true_and]
          by_cases h : p.amount.tdiv 2 < absI (x.amount - q.amount)
          · rw [decide_eq_true h, decide_eq_false (by omega)]; rfl
          · rw [decide_eq_false h, decide_eq_true (by omega)]; rfl)
        obtain ⟨ba, oa, p', rfl, hba, ep1, ep2⟩ := (hs.ext hx03).get (k := kc) (by rw [hs.len]; exact hkl)
        obtain rfl : p = p' := by have := HPC.out.symm.trans ep1; injection this
        have hcp := ep2 3 _ rfl
        clear ep1 ep2
        have y0k : w3.cell? ⟨w.heap.size, 0, none⟩ = some (.int .i64 (kc : Int)) := by rw [← HKC.out]; exact y0
        clear y0
        have hkn : kc < n := by rw [hs.len]; exact hkl
        have hdd := absD_le hxa hxb hqa hqb
        have hwq : IntKind.i64.wrap (p.amount.tdiv 2) = p.amount.tdiv 2 := IntWalk.i64_in _ (by rw [Int.tdiv_eq_ediv_of_nonneg (by omega)]; omega)
        go_wp2_with fail
        refine wp_region_ph [([0, 1, 2, 3, 4, 5, 6, 7, 8, 10, 11, 12, 13, 14, 15, 16], 9)] [17, 18] (by kernel_rfl) (by kernel_rfl) (by intro c a w d v h; cases d <;> exact h) ?_
        simp only [wpPh, pickL, nthO]
        repeat (go_big_quiet_step (fail))
        refine wpQuiet_nil ?_
        go_wp2_with fail
        refine (c_l01Abs _ _ (by omega) (by omega)).mono ?_
        rintro e w' ⟨rfl, rfl⟩
        go_wp2_with fail
        refine ⟨Ext.refl _, ?_⟩
        repeat (go_big_quiet_step (fail))
        refine wpQuiet_nil ?_
        go_wp2_with fail
        go_ret
        exact Ret.bool HB.out hx03.drew
      · have HB := hide (show accB xs L x = true by rw [HACC.out, show decide (x.hour - 6 < x.sent) = false by simp at b1 ⊢; omega]; rfl)
        go_wp2_with fail
        go_ret
        exact Ret.bool HB.out hx03
end Go.Proofs.YtjpmiokbgpggbaaGreat
