

/-
  Reading an event, of the reference.
-/
import Derived.Test.YtglbiddddflmeaaDoorJouK
import Derived.Test.YtglbiddddflmeaaDoorJouJ
import Derived.Test.YtglbiddddflmeaaDoorSchedZ
namespace Go.Proofs.YtglbiddddflmeaaDoor
open Go.RowKit
open Go.Lib hiding intOf
/-- what is asked of what is read of a line -/
def LineOf (l : List UInt8) (K : Event → Prop) : Prop := ∀ e x, evB e = true → 0 ≤ x → x < 99991 → l = lineL e x → K e
def ReadPost (l : List UInt8) (w : World) (e : Ending) (w' : World) : Prop := ∃ p : Event, e = .returned (.agg #[.int .i64 p.kind, .int .i64 p.a, .int .i64 p.b, .int .i64 p.c, .int .i64 p.d]) ∧ LineOf l (fun q => p = q) ∧ Ext w w'
theorem intC_one (y : Int) : ∀ u ∈ intC y, u.oneCell' = true := by intro u hu; simp [intC] at hu; subst hu; rfl
def valsE (e : Event) : List Int := [e.a, e.b, e.c, e.d]
theorem line_words {l : List UInt8} {e : Event} {x : Int} (h : l = lineL e x) : splitL 32 l = evWord e.kind :: ((valsE e).map itoa ++ [itoa (sumE e x)]) := by
  rw [h, lineL_split]; rfl
theorem word_num {wd : List UInt8} {z : Int} (h : wd = itoa z) : (z < 0 ∧ wd = 45 :: decDigits z.natAbs) ∨ (0 ≤ z ∧ wd = decDigits z.toNat) := by
  unfold itoa at h
  split at h
  · exact .inl ⟨by assumption, h⟩
  · exact .inr ⟨by omega, h⟩
theorem head_not (z : Nat) (r : List UInt8) : decDigits z ≠ 45 :: r := by
  intro h
  have := decDigits_digit (z + 1) z (Nat.lt_succ_self _) 45 (by rw [h]; simp)
  have e : (45 : UInt8).toNat = 45 := rfl
  omega
/-- how a word's number is read: with a sign, and without -/
theorem num_minus {r : List UInt8} {n : Int} (hv : ∀ m : Nat, m ≤ 30000 → r = decDigits m → n = m) {z : Int} (h0 : -30000 ≤ z) (h1 : z ≤ 30000) (h : 45 :: r = itoa z) : -n = z := by
  rcases word_num h with ⟨hz, hw⟩ | ⟨hz, hw⟩
  · have h3 := hv z.natAbs (by omega) (by injection hw)
    omega
  · exact absurd hw.symm (head_not _ _)
theorem no_minus {r : List UInt8} (hv : ∀ m : Nat, m ≤ 30000 → r ≠ decDigits m) {z : Int} (h0 : -30000 ≤ z) (h : 45 :: r = itoa z) : False := by
  rcases word_num h with ⟨hz, hw⟩ | ⟨hz, hw⟩
  · exact hv z.natAbs (by omega) (by injection hw)
  · exact absurd hw.symm (head_not _ _)
theorem num_plus {wd : List UInt8} {n : Int} (hne : ∀ r, wd ≠ 45 :: r) (hv : ∀ m : Nat, m ≤ 30000 → wd = decDigits m → n = m) {z : Int} (h1 : z ≤ 30000) (h : wd = itoa z) : n = z := by
  rcases word_num h with ⟨hz, hw⟩ | ⟨hz, hw⟩
  · exact absurd hw (hne _)
  · have h3 := hv z.toNat (by omega) hw
    omega
theorem no_plus {wd : List UInt8} (hne : ∀ r, wd ≠ 45 :: r) (hv : ∀ m : Nat, m ≤ 30000 → wd ≠ decDigits m) {z : Int} (h1 : z ≤ 30000) (h : wd = itoa z) : False := by
  rcases word_num h with ⟨hz, hw⟩ | ⟨hz, hw⟩
  · exact absurd hw (hne _)
  · exact hv z.toNat (by omega) hw
theorem vals_bound {e : Event} (he : evB e = true) {j : Nat} {z : Int} (h : (valsE e)[j]? = some z) : -30000 ≤ z ∧ z ≤ 30000 := by
  obtain ⟨_, ha, hb, hc, hd⟩ := evB_bounds he
  have := List.mem_of_getElem? h
  simp only [valsE, List.mem_cons, List.not_mem_nil, or_false] at this
  rcases this with rfl | rfl | rfl | rfl <;> assumption
/-- the word at a place is the number's -/
theorem line_word {l : List UInt8} {e : Event} {x : Int} (h : l = lineL e x) {j : Nat} (hj : j < 4) {wd : List UInt8} (hw : (splitL 32 l)[j + 1]? = some wd) : ∃ z, (valsE e)[j]? = some z ∧ wd = itoa z := by
  rw [line_words h, List.getElem?_cons_succ] at hw
  have : j = 0 ∨ j = 1 ∨ j = 2 ∨ j = 3 := by omega
  rcases this with rfl | rfl | rfl | rfl <;> (simp [valsE] at hw ⊢; exact hw.symm)
theorem evWord_inj {a b : Int} (ha : inB a 1 3 = true) (hb : inB b 1 3 = true) (h : evWord a = evWord b) : a = b := by
  rw [← kindP_evWord a ha, ← kindP_evWord b hb, h]
set_option maxHeartbeats 4000000 in
set_option maxRecDepth 8000 in
theorem c_l32Read (l : List UInt8) (hl : l.length ≤ 1048576) (w : World) :
    Calls Tryd.prog 65 #[.string (mkB l)] w (ReadPost l w) := by
  obtain ⟨W0, HW⟩ : ∃ W0, Hid (w.alloc (.cells #[(.int .i64 0), (.int .i64 0), (.int .i64 0), (.int .i64 0), (.int .i64 0)] 38) = W0) := ⟨_, hide rfl⟩
  have hx0 : Ext w W0 := by rw [← HW.out]; exact Ext.alloc _ _
  have hR : Row W0 w.heap.size 38 [(.int .i64 0), (.int .i64 0), (.int .i64 0), (.int .i64 0), (.int .i64 0)] := by rw [← HW.out]; exact Row.new _ _ _
  have hpc := hide (splitL_piece 32 l)
  have hn := splitL_len 32 l
  go_enter Tryd.func65, Tryd.ntmps65
  go_wp2_with fail
  rw [HW.out]
  refine (c_l01Split l 32 32 rfl hl _).mono ?_
  rintro e w1 ⟨v, rfl, hoS, hx1⟩
  obtain ⟨A, c, rfl, hoA, _⟩ := hoS.toOwn strC_len (by omega)
  have hsl := hoA.slice strC_len
  have HLW := hide (show ∀ (e : Event) (x : Int), l = lineL e x → ∀ (j : Nat), j < 4 → ∀ wd, (splitL 32 l)[j + 1]? = some wd → ∃ z, (valsE e)[j]? = some z ∧ wd = itoa z from fun e x h j hj wd hw => line_word h hj hw)
  have HLS := hide (show ∀ (e : Event) (x : Int), l = lineL e x → splitL 32 l = evWord e.kind :: ((valsE e).map itoa ++ [itoa (sumE e x)]) from fun e x h => line_words h)
  have HSP := hide (show ∀ x ∈ splitL 32 l, x.length ≤ 1048576 from fun x hx => by have := hpc.out x hx; omega)
  generalize hS : splitL 32 l = S at *
  have hX1 := hx0.trans hx1
  have hR1 := hR.ext hx1
  have hx3 : Ext w1 (w1.alloc (.cells #[(.int .i64 0), (.int .i64 0), (.int .i64 0), (.int .i64 0), (.int .i64 0)] 38)) := Ext.alloc _ _
  have hE3 : Row (w1.alloc (.cells #[(.int .i64 0), (.int .i64 0), (.int .i64 0), (.int .i64 0), (.int .i64 0)] 38)) w1.heap.size 38 [(.int .i64 0), (.int .i64 0), (.int .i64 0), (.int .i64 0), (.int .i64 0)] := Row.new _ _ _
  have hR3 := hR1.ext hx3
  have hX3 := hX1.trans hx3
  have hsl3 := hsl.ext hx3
  have hltR := hR.lt
  have hz01 := hx1.size
  clear hoS hoA hsl hS hR hR1 hx0 hx1 hX1 hx3 hpc
  obtain ⟨n, hn6⟩ : ∃ n, S.length = n := ⟨_, rfl⟩
  rw [hn6] at hsl3 hn ⊢
  have HN6 := hide hn6
  clear hn6
  by_cases h6 : n = 6
  · subst h6
    have hzle : ((w1.alloc (.cells #[(.int .i64 0), (.int .i64 0), (.int .i64 0), (.int .i64 0), (.int .i64 0)] 38))).heap.size ≤ w1.heap.size + 1 := by simp
    have ho4 : OwnL ((w1.alloc (.cells #[(.int .i64 0), (.int .i64 0), (.int .i64 0), (.int .i64 0), (.int .i64 0)] 38)).alloc (.cells #[] 2)) (w1.heap.size + 1) 2 1 intC (.slice (some ⟨w1.heap.size + 1, 0, none⟩) 0 0) [] := by
      have := OwnL.empty (w1.alloc (.cells #[(.int .i64 0), (.int .i64 0), (.int .i64 0), (.int .i64 0), (.int .i64 0)] 38)) ((w1.alloc (.cells #[(.int .i64 0), (.int .i64 0), (.int .i64 0), (.int .i64 0), (.int .i64 0)] 38))).heap.size 2 1 intC (Nat.le_refl _)
      rwa [show ((w1.alloc (.cells #[(.int .i64 0), (.int .i64 0), (.int .i64 0), (.int .i64 0), (.int .i64 0)] 38))).heap.size = w1.heap.size + 1 by simp] at this
    go_wp2_with fail
    have hE3l := hE3.lt
    generalize (w1.alloc (.cells #[(.int .i64 0), (.int .i64 0), (.int .i64 0), (.int .i64 0), (.int .i64 0)] 38)) = W3 at *
    have hbase : w1.heap.size + 1 ≤ W3.heap.size := hE3l
    go_loopw [5, 6, 7, 8, 9, 10] (fun v i _ _ _ _ wr => ∃ (k : Nat) (L : List Int), k ≤ 5 ∧ 1 ≤ k ∧ i = .int .i64 k ∧ L.length + 1 = k ∧ Hid (LineOf l (fun q => L = (valsE q).take (k - 1))) ∧ OwnL wr (w1.heap.size + 1) 2 1 intC v L ∧ Ext W3 wr) (fun _ i _ _ _ _ _ => 5 - (intOf i).toNat)
    case atStart => exact ⟨1, [], by omega, by omega, rfl, rfl, hide (fun _ _ _ _ _ _ => rfl), ho4, Ext.alloc _ _⟩
    case round =>
      clear ho4
      obtain ⟨k, L, hk5, hk1, rfl, hkl, HL, ho, hx⟩ := hrel
      have hzx := hx.size
      by_cases hlt : k < 5
      · obtain ⟨b, off, wd, rfl, hb, hwd, hc0⟩ := (hsl3.ext hx).getStr (k := k) (by omega)
        have hwl := HSP.out wd (List.mem_of_getElem? hwd)
        have HWD := hide hwd
        clear hwd
        by_cases hm : ∃ r, wd = 45 :: r
        · obtain ⟨r, rfl⟩ := hm
          have hat : (Instr.index 9 (.string (mkB (45 :: r))) (.int .i64 0)).run Tryd.prog wr = .ok (.int .u8 45) wr := str_at (45 :: r) 0 45 rfl wr
          have hs : (mkB (45 :: r)).size = r.length + 1 := rfl
          have hrl : r.length ≤ 1048576 := by simp at hwl; omega
          have hex : (mkB (45 :: r)).extract 1 (r.length + 1) = mkB r := by rw [mkB_extract]; simp
          go_wp2_with fail
          refine (c_l01Value r hrl _).mono ?_
          rintro e w5 ⟨n, ok, rfl, hv, ⟨hn0, hn1⟩, hx5⟩
          have HV := hide hv
          clear hv hat hs hex
          cases ok with
          | false =>
            have HV2 := hide (show ∀ m : Nat, m ≤ 30000 → r ≠ decDigits m from fun m h1 h2 => by have := (HV.out m h1 h2).1; cases this)
            have HNO := hide (show ∀ e x, evB e = true → 0 ≤ x → x < 99991 → l ≠ lineL e x from fun e x he h0 h1 h => by
              obtain ⟨z, hz, hwz⟩ := HLW.out e x h (k - 1) (by omega) _ (by rw [show k - 1 + 1 = k by omega]; exact HWD.out)
              have hzb := vals_bound he hz
              exact no_minus HV2.out hzb.1 hwz)
            have hRw := hR3.ext (hx.trans hx5)
            have hEw := hE3.ext (hx.trans hx5)
            have x0 := hRw.cell 0
            have x1 := hRw.cell 1
            have x2 := hRw.cell 2
            have x3 := hRw.cell 3
            have x4 := hRw.cell 4
            have xl := hRw.lt
            have xf := hRw.frozen
            have e0 := hEw.cell 0
            have e1 := hEw.cell 1
            have e2 := hEw.cell 2
            have e3 := hEw.cell 3
            have e4 := hEw.cell 4
            have el := hEw.lt
            simp only [List.getElem?_cons_zero, List.getElem?_cons_succ] at x0 x1 x2 x3 x4 e0 e1 e2 e3 e4
            go_wp2_with fail
            have rS := five_set hRw (.int .i64 0) (.int .i64 0) (.int .i64 0) (.int .i64 0) (.int .i64 0)
            have hXS := five_ext (hX3.trans (hx.trans hx5)) (g := w.heap.size) (Nat.le_refl _) (.int .i64 0) (.int .i64 0) (.int .i64 0) (.int .i64 0) (.int .i64 0)
            generalize (((((w5.setCell ⟨w.heap.size, 0, none⟩ (.int .i64 0)).setCell ⟨w.heap.size, 1, none⟩ (.int .i64 0)).setCell ⟨w.heap.size, 2, none⟩ (.int .i64 0)).setCell ⟨w.heap.size, 3, none⟩ (.int .i64 0)).setCell ⟨w.heap.size, 4, none⟩ (.int .i64 0)) = W5 at *
            have y0 := rS.cell 0
            have y1 := rS.cell 1
            have y2 := rS.cell 2
            have y3 := rS.cell 3
            have y4 := rS.cell 4
            simp only [List.getElem?_cons_zero, List.getElem?_cons_succ] at y0 y1 y2 y3 y4
            exact bodyPost_ret (v := .agg #[(.int .i64 0), (.int .i64 0), (.int .i64 0), (.int .i64 0), (.int .i64 0)]) (by simp [results, Tryd.results65, go_sem, y0, y1, y2, y3, y4]) rfl ⟨noEv, rfl, fun e x h1 h2 h3 h4 => absurd h4 (HNO.out e x h1 h2 h3), hXS⟩
          | true =>
            have HV2 := hide (show ∀ m : Nat, m ≤ 30000 → r = decDigits m → n = m from fun m h1 h2 => (HV.out m h1 h2).2)
            have hzx5 := hx5.size
            go_wp2_with (at_builtin; go_must (refine wpList_append_one rfl _ _ 83 rfl (w1.heap.size + 1) 2 _ 1 8 Tryd.underlying83 int_info rfl (by decide) intC intC_len intC_one _ _ rfl ((ho.ext hx5).ext (Ext.alloc _ _)) _ _ rfl _ rfl (by first | rfl | simp) (by omega) (by omega) (by first | omega | (simp; omega)) ?_))
            intro v6 w6 ho6 hext6
            have hx6 := hext6 W3 (by omega) ((hx.trans hx5).and_alloc _)
            go_wp2_with fail
            go_roundw
            case rel =>
              refine ⟨k + 1, _, by omega, by omega, by go_num, by simp; omega, hide (fun e x he h0 h1 h => ?_), ho6, hx6⟩
              obtain ⟨z, hz, hwz⟩ := HLW.out e x h (k - 1) (by omega) _ (by rw [show k - 1 + 1 = k by omega]; exact HWD.out)
              have hzb := vals_bound he hz
              rw [show k + 1 - 1 = (k - 1) + 1 by omega, List.take_add_one, hz, HL.out e x he h0 h1 h, num_minus HV2.out hzb.1 hzb.2 hwz]
              rfl
            case measure => simp [intOf]; omega
        · have hm2 : ∀ r, wd ≠ 45 :: r := fun r h => hm ⟨r, h⟩
          have HM := hide hm2
          clear hm
          cases wd with
          | nil =>
            have hs : (mkB []).size = 0 := rfl
            go_wp2_with fail
            refine (c_l01Value [] (by simp) _).mono ?_
            rintro e w5 ⟨n, ok, rfl, hv, ⟨hn0, hn1⟩, hx5⟩
            have HV := hide hv
            clear hv hs hm2
            cases ok with
            | false =>
              have HV2 := hide (show ∀ m : Nat, m ≤ 30000 → ([] : List UInt8) ≠ decDigits m from fun m h1 h2 => by have := (HV.out m h1 h2).1; cases this)
              have HNO := hide (show ∀ e x, evB e = true → 0 ≤ x → x < 99991 → l ≠ lineL e x from fun e x he h0 h1 h => by
                obtain ⟨z, hz, hwz⟩ := HLW.out e x h (k - 1) (by omega) _ (by rw [show k - 1 + 1 = k by omega]; exact HWD.out)
                have hzb := vals_bound he hz
                exact no_plus HM.out HV2.out hzb.2 hwz)
              have hRw := hR3.ext (hx.trans hx5)
              have hEw := hE3.ext (hx.trans hx5)
              have x0 := hRw.cell 0
              have x1 := hRw.cell 1
              have x2 := hRw.cell 2
              have x3 := hRw.cell 3
              have x4 := hRw.cell 4
              have xl := hRw.lt
              have xf := hRw.frozen
              have e0 := hEw.cell 0
              have e1 := hEw.cell 1
              have e2 := hEw.cell 2
              have e3 := hEw.cell 3
              have e4 := hEw.cell 4
              have el := hEw.lt
              simp only [List.getElem?_cons_zero, List.getElem?_cons_succ] at x0 x1 x2 x3 x4 e0 e1 e2 e3 e4
              go_wp2_with fail
              have rS := five_set hRw (.int .i64 0) (.int .i64 0) (.int .i64 0) (.int .i64 0) (.int .i64 0)
              have hXS := five_ext (hX3.trans (hx.trans hx5)) (g := w.heap.size) (Nat.le_refl _) (.int .i64 0) (.int .i64 0) (.int .i64 0) (.int .i64 0) (.int .i64 0)
              generalize (((((w5.setCell ⟨w.heap.size, 0, none⟩ (.int .i64 0)).setCell ⟨w.heap.size, 1, none⟩ (.int .i64 0)).setCell ⟨w.heap.size, 2, none⟩ (.int .i64 0)).setCell ⟨w.heap.size, 3, none⟩ (.int .i64 0)).setCell ⟨w.heap.size, 4, none⟩ (.int .i64 0)) = W5 at *
              have y0 := rS.cell 0
              have y1 := rS.cell 1
              have y2 := rS.cell 2
              have y3 := rS.cell 3
              have y4 := rS.cell 4
              simp only [List.getElem?_cons_zero, List.getElem?_cons_succ] at y0 y1 y2 y3 y4
              exact bodyPost_ret (v := .agg #[(.int .i64 0), (.int .i64 0), (.int .i64 0), (.int .i64 0), (.int .i64 0)]) (by simp [results, Tryd.results65, go_sem, y0, y1, y2, y3, y4]) rfl ⟨noEv, rfl, fun e x h1 h2 h3 h4 => absurd h4 (HNO.out e x h1 h2 h3), hXS⟩
            | true =>
              have HV2 := hide (show ∀ m : Nat, m ≤ 30000 → ([] : List UInt8) = decDigits m → n = m from fun m h1 h2 => (HV.out m h1 h2).2)
              have hzx5 := hx5.size
              go_wp2_with (at_builtin; go_must (refine wpList_append_one rfl _ _ 83 rfl (w1.heap.size + 1) 2 _ 1 8 Tryd.underlying83 int_info rfl (by decide) intC intC_len intC_one _ _ rfl ((ho.ext hx5).ext (Ext.alloc _ _)) _ _ rfl _ rfl (by first | rfl | simp) (by omega) (by omega) (by first | omega | (simp; omega)) ?_))
              intro v6 w6 ho6 hext6
              have hx6 := hext6 W3 (by omega) ((hx.trans hx5).and_alloc _)
              go_wp2_with fail
              go_roundw
              case rel =>
                refine ⟨k + 1, _, by omega, by omega, by go_num, by simp; omega, hide (fun e x he h0 h1 h => ?_), ho6, hx6⟩
                obtain ⟨z, hz, hwz⟩ := HLW.out e x h (k - 1) (by omega) _ (by rw [show k - 1 + 1 = k by omega]; exact HWD.out)
                have hzb := vals_bound he hz
                rw [show k + 1 - 1 = (k - 1) + 1 by omega, List.take_add_one, hz, HL.out e x he h0 h1 h, num_plus HM.out HV2.out hzb.2 hwz]
                rfl
              case measure => simp [intOf]; omega
          | cons ch r =>
            have hs : (mkB (ch :: r)).size = r.length + 1 := rfl
            have hat : (Instr.index 9 (.string (mkB (ch :: r))) (.int .i64 0)).run Tryd.prog wr = .ok (.int .u8 (ch.toNat : Int)) wr := str_at (ch :: r) 0 ch rfl wr
            have hne : ((ch.toNat : Int) == 45) = false := by
              rw [beq_eq_false_iff_ne]
              intro h
              exact hm2 r (by rw [show ch = 45 from UInt8.toNat_inj.1 (by have e : (45 : UInt8).toNat = 45 := rfl; omega)])
            clear hm2
            go_wp2_with fail
            refine (c_l01Value (ch :: r) hwl _).mono ?_
            rintro e w5 ⟨n, ok, rfl, hv, ⟨hn0, hn1⟩, hx5⟩
            have HV := hide hv
            clear hv hs hat hne
            cases ok with
            | false =>
              have HV2 := hide (show ∀ m : Nat, m ≤ 30000 → ch :: r ≠ decDigits m from fun m h1 h2 => by have := (HV.out m h1 h2).1; cases this)
              have HNO := hide (show ∀ e x, evB e = true → 0 ≤ x → x < 99991 → l ≠ lineL e x from fun e x he h0 h1 h => by
                obtain ⟨z, hz, hwz⟩ := HLW.out e x h (k - 1) (by omega) _ (by rw [show k - 1 + 1 = k by omega]; exact HWD.out)
                have hzb := vals_bound he hz
                exact no_plus HM.out HV2.out hzb.2 hwz)
              have hRw := hR3.ext (hx.trans hx5)
              have hEw := hE3.ext (hx.trans hx5)
              have x0 := hRw.cell 0
              have x1 := hRw.cell 1
              have x2 := hRw.cell 2
              have x3 := hRw.cell 3
              have x4 := hRw.cell 4
              have xl := hRw.lt
              have xf := hRw.frozen
              have e0 := hEw.cell 0
              have e1 := hEw.cell 1
              have e2 := hEw.cell 2
              have e3 := hEw.cell 3
              have e4 := hEw.cell 4
              have el := hEw.lt
              simp only [List.getElem?_cons_zero, List.getElem?_cons_succ] at x0 x1 x2 x3 x4 e0 e1 e2 e3 e4
              go_wp2_with fail
              have rS := five_set hRw (.int .i64 0) (.int .i64 0) (.int .i64 0) (.int .i64 0) (.int .i64 0)
              have hXS := five_ext (hX3.trans (hx.trans hx5)) (g := w.heap.size) (Nat.le_refl _) (.int .i64 0) (.int .i64 0) (.int .i64 0) (.int .i64 0) (.int .i64 0)
              generalize (((((w5.setCell ⟨w.heap.size, 0, none⟩ (.int .i64 0)).setCell ⟨w.heap.size, 1, none⟩ (.int .i64 0)).setCell ⟨w.heap.size, 2, none⟩ (.int .i64 0)).setCell ⟨w.heap.size, 3, none⟩ (.int .i64 0)).setCell ⟨w.heap.size, 4, none⟩ (.int .i64 0)) = W5 at *
              have y0 := rS.cell 0
              have y1 := rS.cell 1
              have y2 := rS.cell 2
              have y3 := rS.cell 3
              have y4 := rS.cell 4
              simp only [List.getElem?_cons_zero, List.getElem?_cons_succ] at y0 y1 y2 y3 y4
              exact bodyPost_ret (v := .agg #[(.int .i64 0), (.int .i64 0), (.int .i64 0), (.int .i64 0), (.int .i64 0)]) (by simp [results, Tryd.results65, go_sem, y0, y1, y2, y3, y4]) rfl ⟨noEv, rfl, fun e x h1 h2 h3 h4 => absurd h4 (HNO.out e x h1 h2 h3), hXS⟩
            | true =>
              have HV2 := hide (show ∀ m : Nat, m ≤ 30000 → ch :: r = decDigits m → n = m from fun m h1 h2 => (HV.out m h1 h2).2)
              have hzx5 := hx5.size
              go_wp2_with (at_builtin; go_must (refine wpList_append_one rfl _ _ 83 rfl (w1.heap.size + 1) 2 _ 1 8 Tryd.underlying83 int_info rfl (by decide) intC intC_len intC_one _ _ rfl ((ho.ext hx5).ext (Ext.alloc _ _)) _ _ rfl _ rfl (by first | rfl | simp) (by omega) (by omega) (by first | omega | (simp; omega)) ?_))
              intro v6 w6 ho6 hext6
              have hx6 := hext6 W3 (by omega) ((hx.trans hx5).and_alloc _)
              go_wp2_with fail
              go_roundw
              case rel =>
                refine ⟨k + 1, _, by omega, by omega, by go_num, by simp; omega, hide (fun e x he h0 h1 h => ?_), ho6, hx6⟩
                obtain ⟨z, hz, hwz⟩ := HLW.out e x h (k - 1) (by omega) _ (by rw [show k - 1 + 1 = k by omega]; exact HWD.out)
                have hzb := vals_bound he hz
                rw [show k + 1 - 1 = (k - 1) + 1 by omega, List.take_add_one, hz, HL.out e x he h0 h1 h, num_plus HM.out HV2.out hzb.2 hwz]
                rfl
              case measure => simp [intOf]; omega
      · have HK5 := hide (show k = 5 by omega)
        obtain ⟨b0, off0, wd0, rfl, hb0, hwd0, hc0⟩ := hsl3.getStr (k := 0) (by omega)
        have HW0 := hide hwd0
        clear hwd0
        rw [Nat.add_zero] at hc0
        obtain ⟨n0, n1, n2, n3, rfl⟩ : ∃ n0 n1 n2 n3, L = [n0, n1, n2, n3] := by
          have h4 : L.length = 4 := by have := HK5.out; omega
          match L, h4 with
          | [a, b, c, d], _ => exact ⟨a, b, c, d, rfl⟩
        have HKW := hide (show LineOf l (fun q => wd0 = evWord q.kind) from fun e x _ _ _ h => by
          have h1 := HW0.out
          rw [HLS.out e x h] at h1
          simpa using h1.symm)
        clear hkl hk1 hk5
        go_wp2_with fail
        go_loopw [11, 12] (fun kd j wr2 => ∃ (m : Nat) (z : Int), m ≤ 3 ∧ j = .int .i64 m ∧ kd = .int .i64 z ∧ Hid (LineOf l (fun q => z = if q.kind ≤ m then q.kind else 0)) ∧ Ext wr wr2) (fun _ j _ => 3 - (intOf j).toNat)
        case atStart => exact ⟨0, 0, by omega, rfl, rfl, hide (fun e x he _ _ _ => by have := (evB_bounds he).1; rw [inB_true] at this; show (0 : Int) = if e.kind ≤ ((0 : Nat) : Int) then e.kind else 0; rw [if_neg (by omega)]), Ext.refl _⟩
        case round =>
          obtain ⟨m, z, hm, rfl, rfl, HK, hx2⟩ := hrel
          have hx32 := hx.trans hx2
          by_cases hm3 : m < 3
          · have hc2 := (hx32.cell b0 off0 hb0).trans hc0
            have hb2 : b0 < wr.heap.size := Nat.lt_of_lt_of_le hb0 hx32.size
            by_cases heq : evWord ((m : Int) + 1) = wd0
            · have HEQ := hide heq
              go_wp2_with fail
              refine wp_region_ph [([1, 4, 5, 6], 0)] [2, 3, 7] (by kernel_rfl) (by kernel_rfl) (by intro c a w d v h; cases d <;> exact h) ?_
              simp only [wpPh, pickL, nthO]
              repeat (go_big_quiet_step (fail))
              refine wpQuiet_nil ?_
              go_wp2_with fail
              refine (c_l32Words _).mono ?_
              rintro e w7 ⟨rfl, rfl⟩
              obtain ⟨W8, HW8⟩ : ∃ W8, Hid (W8 = (wr.alloc (.cells #[.string (mkB wNom), .string (mkB wRead), .string (mkB wClose)] 9)).drew) := ⟨_, hide rfl⟩
              have hwr : Row W8 wr.heap.size 9 [.string (mkB wNom), .string (mkB wRead), .string (mkB wClose)] := by rw [HW8.out]; exact (Row.new wr _ _).drew
              have hx8 : Ext wr W8 := by rw [HW8.out]; exact (Ext.alloc _ _).drew
              have hx8d : Ext wr.drew W8 := by rw [HW8.out]; exact Ext.alloc wr.drew _
              have hwc := words_cell hwr m hm3
              have hwlt := hwr.lt
              have hbq : ((mkB (evWord ((m : Int) + 1))).toList == (mkB wd0).toList) = true := by rw [mkB_toList, mkB_toList, heq]; simp
              go_wp2_with fail
              rw [← HW8.out]
              refine ⟨hx8d, ?_⟩
              repeat (go_big_quiet_step (fail))
              refine wpQuiet_nil ?_
              go_wp2_with fail
              go_roundw
              case rel =>
                refine ⟨m + 1, (m : Int) + 1, by omega, by go_num, by go_num, hide (fun e x he h0 h1 h => ?_), hx2.trans hx8⟩
                have hk := (evB_bounds he).1
                have h2 := evWord_inj (a := (m : Int) + 1) (by rw [inB_true]; omega) hk (HEQ.out.trans (HKW.out e x he h0 h1 h))
                show (m : Int) + 1 = if e.kind ≤ ((m + 1 : Nat) : Int) then e.kind else 0
                rw [if_pos (by omega)]
                exact h2
              case measure => simp [intOf]; omega
            · have HEQ := hide heq
              go_wp2_with fail
              refine wp_region_ph [([1, 4, 5, 6], 0)] [2, 3, 7] (by kernel_rfl) (by kernel_rfl) (by intro c a w d v h; cases d <;> exact h) ?_
              simp only [wpPh, pickL, nthO]
              repeat (go_big_quiet_step (fail))
              refine wpQuiet_nil ?_
              go_wp2_with fail
              refine (c_l32Words _).mono ?_
              rintro e w7 ⟨rfl, rfl⟩
              obtain ⟨W8, HW8⟩ : ∃ W8, Hid (W8 = (wr.alloc (.cells #[.string (mkB wNom), .string (mkB wRead), .string (mkB wClose)] 9)).drew) := ⟨_, hide rfl⟩
              have hwr : Row W8 wr.heap.size 9 [.string (mkB wNom), .string (mkB wRead), .string (mkB wClose)] := by rw [HW8.out]; exact (Row.new wr _ _).drew
              have hx8 : Ext wr W8 := by rw [HW8.out]; exact (Ext.alloc _ _).drew
              have hx8d : Ext wr.drew W8 := by rw [HW8.out]; exact Ext.alloc wr.drew _
              have hwc := words_cell hwr m hm3
              have hwlt := hwr.lt
              have hbq : ((mkB (evWord ((m : Int) + 1))).toList == (mkB wd0).toList) = false := by rw [mkB_toList, mkB_toList, beq_eq_false_iff_ne]; exact heq
              go_wp2_with fail
              rw [← HW8.out]
              refine ⟨hx8d, ?_⟩
              repeat (go_big_quiet_step (fail))
              refine wpQuiet_nil ?_
              go_wp2_with fail
              go_roundw
              case rel =>
                refine ⟨m + 1, z, by omega, by go_num, rfl, hide (fun e x he h0 h1 h => ?_), hx2.trans hx8⟩
                have h3 : e.kind ≠ (m : Int) + 1 := fun h4 => HEQ.out (by rw [← h4]; exact (HKW.out e x he h0 h1 h).symm)
                show z = if e.kind ≤ ((m + 1 : Nat) : Int) then e.kind else 0
                have h6 : z = if e.kind ≤ (m : Int) then e.kind else 0 := HK.out e x he h0 h1 h
                rw [h6]
                by_cases h5 : e.kind ≤ (m : Int)
                · rw [if_pos h5, if_pos (by omega)]
                · rw [if_neg h5, if_neg (by omega)]
              case measure => simp [intOf]; omega
          · obtain rfl : m = 3 := by omega
            have HKD := hide (show LineOf l (fun q => (⟨z, n0, n1, n2, n3⟩ : Event) = q) from fun e x he h0 h1 h => by
              have h2 : z = if e.kind ≤ ((3 : Nat) : Int) then e.kind else 0 := HK.out e x he h0 h1 h
              have h3 : [n0, n1, n2, n3] = (valsE e).take (k - 1) := HL.out e x he h0 h1 h
              rw [HK5.out] at h3
              have hk := (evB_bounds he).1
              rw [inB_true] at hk
              rw [if_pos (by omega)] at h2
              obtain ⟨a1, a2, a3, a4, a5⟩ := e
              simp [valsE] at h3
              simp at h2
              show (⟨z, n0, n1, n2, n3⟩ : Event) = _
              simp [h2, h3])
            have hoq := ho.ext hx2
            have hcl := fun (g : Nat) (he : Value.ownBlock _ = some g) => World.ownsRow.cells (g := g) hoq he
            rcases hoq.2 with ⟨_, h0⟩ | ⟨g, cap, cur, rfl, hgb, hgh, hgc, hgm, _⟩
            · cases h0
            · have hc := hcl g rfl
              have c0 : wr.cell? ⟨g, 0, none⟩ = some (.int .i64 n0) := hc 0 _ rfl
              have c1 : wr.cell? ⟨g, 1, none⟩ = some (.int .i64 n1) := hc 1 _ rfl
              have c2 : wr.cell? ⟨g, 2, none⟩ = some (.int .i64 n2) := hc 2 _ rfl
              have c3 : wr.cell? ⟨g, 3, none⟩ = some (.int .i64 n3) := hc 3 _ rfl
              have hgl : g < wr.heap.size := (World.ownsRow.lt hoq g rfl).2
              have hRw := hR3.ext hx32
              have x0 := hRw.cell 0
              have x1 := hRw.cell 1
              have x2 := hRw.cell 2
              have x3 := hRw.cell 3
              have x4 := hRw.cell 4
              have xl := hRw.lt
              have xf := hRw.frozen
              simp only [List.getElem?_cons_zero, List.getElem?_cons_succ] at x0 x1 x2 x3 x4
              clear hc hcl hoq hgh ho hc0
              simp only [List.length_cons, List.length_nil, Nat.zero_add] at hgc
              go_wp2_with fail
              refine wp_region_phZ [(g, 0), (g, 1), (g, 2), (g, 3)] [] [0, 1, 2, 3, 4, 5, 6, 7, 8, 9, 10, 11, 12, 13] 14 (by kernel_rfl) (by kernel_rfl) (by intro c a w d v h; cases d <;> exact h) ?_
              simp only [wpPhZ, pickL, nthO]
              repeat (go_big_quiet_step (fail))
              refine wpQuiet_nil ?_
              go_wp2_with fail
              have rS := five_set hRw (.int .i64 z) (.int .i64 n0) (.int .i64 n1) (.int .i64 n2) (.int .i64 n3)
              have hXS := five_ext (hX3.trans hx32) (g := w.heap.size) (Nat.le_refl _) (.int .i64 z) (.int .i64 n0) (.int .i64 n1) (.int .i64 n2) (.int .i64 n3)
              generalize (((((wr.setCell ⟨w.heap.size, 0, none⟩ (.int .i64 z)).setCell ⟨w.heap.size, 1, none⟩ (.int .i64 n0)).setCell ⟨w.heap.size, 2, none⟩ (.int .i64 n1)).setCell ⟨w.heap.size, 3, none⟩ (.int .i64 n2)).setCell ⟨w.heap.size, 4, none⟩ (.int .i64 n3)) = W5 at *
              have y0 := rS.drew.cell 0
              have y1 := rS.drew.cell 1
              have y2 := rS.drew.cell 2
              have y3 := rS.drew.cell 3
              have y4 := rS.drew.cell 4
              simp only [List.getElem?_cons_zero, List.getElem?_cons_succ] at y0 y1 y2 y3 y4
              exact bodyPost_ret (v := .agg #[.int .i64 z, .int .i64 n0, .int .i64 n1, .int .i64 n2, .int .i64 n3]) (by simp [results, Tryd.results65, go_sem, y0, y1, y2, y3, y4]) rfl ⟨⟨z, n0, n1, n2, n3⟩, rfl, HKD.out, hXS.drew⟩
  · have HNO := hide (show ∀ e x, evB e = true → 0 ≤ x → x < 99991 → l ≠ lineL e x from fun e x _ _ _ h => h6 (by rw [← HN6.out, HLS.out e x h]; rfl))
    have h6b : ((n : Int) != 6) = true := by rw [bne_iff_ne]; omega
    have hRw := hR3.ext (Ext.refl (w1.alloc (.cells #[(.int .i64 0), (.int .i64 0), (.int .i64 0), (.int .i64 0), (.int .i64 0)] 38)))
    have hEw := hE3.ext (Ext.refl (w1.alloc (.cells #[(.int .i64 0), (.int .i64 0), (.int .i64 0), (.int .i64 0), (.int .i64 0)] 38)))
    have x0 := hRw.cell 0
    have x1 := hRw.cell 1
    have x2 := hRw.cell 2
    have x3 := hRw.cell 3
    have x4 := hRw.cell 4
    have xl := hRw.lt
    have xf := hRw.frozen
    have e0 := hEw.cell 0
    have e1 := hEw.cell 1
    have e2 := hEw.cell 2
    have e3 := hEw.cell 3
    have e4 := hEw.cell 4
    have el := hEw.lt
    simp only [List.getElem?_cons_zero, List.getElem?_cons_succ] at x0 x1 x2 x3 x4 e0 e1 e2 e3 e4
    go_wp2_with fail
    have rS := five_set hRw (.int .i64 0) (.int .i64 0) (.int .i64 0) (.int .i64 0) (.int .i64 0)
    have hXS := five_ext (hX3.trans (Ext.refl (w1.alloc (.cells #[(.int .i64 0), (.int .i64 0), (.int .i64 0), (.int .i64 0), (.int .i64 0)] 38)))) (g := w.heap.size) (Nat.le_refl _) (.int .i64 0) (.int .i64 0) (.int .i64 0) (.int .i64 0) (.int .i64 0)
    generalize ((((((w1.alloc (.cells #[(.int .i64 0), (.int .i64 0), (.int .i64 0), (.int .i64 0), (.int .i64 0)] 38)).setCell ⟨w.heap.size, 0, none⟩ (.int .i64 0)).setCell ⟨w.heap.size, 1, none⟩ (.int .i64 0)).setCell ⟨w.heap.size, 2, none⟩ (.int .i64 0)).setCell ⟨w.heap.size, 3, none⟩ (.int .i64 0)).setCell ⟨w.heap.size, 4, none⟩ (.int .i64 0)) = W5 at *
    have y0 := rS.cell 0
    have y1 := rS.cell 1
    have y2 := rS.cell 2
    have y3 := rS.cell 3
    have y4 := rS.cell 4
    simp only [List.getElem?_cons_zero, List.getElem?_cons_succ] at y0 y1 y2 y3 y4
    exact bodyPost_ret (v := .agg #[(.int .i64 0), (.int .i64 0), (.int .i64 0), (.int .i64 0), (.int .i64 0)]) (by simp [results, Tryd.results65, go_sem, y0, y1, y2, y3, y4]) rfl ⟨noEv, rfl, fun e x h1 h2 h3 h4 => absurd h4 (HNO.out e x h1 h2 h3), hXS⟩
end Go.Proofs.YtglbiddddflmeaaDoor
