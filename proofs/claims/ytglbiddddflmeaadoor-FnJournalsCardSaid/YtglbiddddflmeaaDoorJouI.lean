

/-
  Reading an event, of the program.
-/
import Derived.Test.YtglbiddddflmeaaDoorJouH
import Derived.Test.YtglbiddddflmeaaDoorSchedT
namespace Go.Proofs.YtglbiddddflmeaaDoor
open Go.RowKit
open Go.Lib hiding intOf
def EvPost (p : Event) (w : World) (e : Ending) (w' : World) : Prop := e = .returned (.tuple #[.agg #[.int .i64 p.kind, .int .i64 p.a, .int .i64 p.b, .int .i64 p.c, .int .i64 p.d], .bool (evB p)]) ∧ Ext w w'
theorem words_zs {w : World} (hg : GlobJ w) (j : Nat) (hj : j < ([mkB [], mkB wNom, mkB wRead, mkB wClose] : List ByteArray).length) : w.cell? ⟨0, 0 + j, none⟩ = some (.string (([mkB [], mkB wNom, mkB wRead, mkB wClose] : List ByteArray).getD j ByteArray.empty)) := by
  rw [Nat.zero_add, hg.words j hj]
  have : j = 0 ∨ j = 1 ∨ j = 2 ∨ j = 3 := by simp at hj; omega
  rcases this with rfl | rfl | rfl | rfl <;> rfl
theorem Row.ne_lt {w : World} {g g' : Nat} (h : g < w.heap.size) (h' : w.heap.size ≤ g') : g ≠ g' := by omega
theorem five_set {w : World} {g : Nat} {t : TypeId} {v0 v1 v2 v3 v4 : Value} (h : Row w g t [v0, v1, v2, v3, v4]) (u0 u1 u2 u3 u4 : Value) : Row (((((w.setCell ⟨g, 0, none⟩ u0).setCell ⟨g, 1, none⟩ u1).setCell ⟨g, 2, none⟩ u2).setCell ⟨g, 3, none⟩ u3).setCell ⟨g, 4, none⟩ u4) g t [u0, u1, u2, u3, u4] :=
  ((((h.set_ 0 u0).set_ 1 u1).set_ 2 u2).set_ 3 u3).set_ 4 u4
theorem five_ext {w w2 : World} {g : Nat} (h : Ext w w2) (hg : w.heap.size ≤ g) (u0 u1 u2 u3 u4 : Value) : Ext w (((((w2.setCell ⟨g, 0, none⟩ u0).setCell ⟨g, 1, none⟩ u1).setCell ⟨g, 2, none⟩ u2).setCell ⟨g, 3, none⟩ u3).setCell ⟨g, 4, none⟩ u4) :=
  ((((h.setCell (p := ⟨g, 0, none⟩) hg u0).setCell (p := ⟨g, 1, none⟩) hg u1).setCell (p := ⟨g, 2, none⟩) hg u2).setCell (p := ⟨g, 3, none⟩) hg u3).setCell (p := ⟨g, 4, none⟩) hg u4
theorem samec_five {cs : List (Nat × Nat)} {a b : World} {g : Nat} (h : SameC cs a b) (hg : ∀ q ∈ cs, q.1 ≠ g) (u0 u1 u2 u3 u4 : Value) : SameC cs a (((((b.setCell ⟨g, 0, none⟩ u0).setCell ⟨g, 1, none⟩ u1).setCell ⟨g, 2, none⟩ u2).setCell ⟨g, 3, none⟩ u3).setCell ⟨g, 4, none⟩ u4) :=
  ((((h.setCell (p := ⟨g, 0, none⟩) (fun q hq => .inl (hg q hq)) u0).setCell (p := ⟨g, 1, none⟩) (fun q hq => .inl (hg q hq)) u1).setCell (p := ⟨g, 2, none⟩) (fun q hq => .inl (hg q hq)) u2).setCell (p := ⟨g, 3, none⟩) (fun q hq => .inl (hg q hq)) u3).setCell (p := ⟨g, 4, none⟩) (fun q hq => .inl (hg q hq)) u4
theorem evOf_five {w : List UInt8} {a b c d e : Int} : evOf w (some [a, b, c, d, e]) = ⟨kindP w, a, b, c, d⟩ := rfl
theorem evOf_other {w : List UInt8} {xs : List Int} (h : xs.length ≠ 5) : evOf w (some xs) = noEv := by
  match xs, h with
  | [], _ => rfl
  | [_], _ => rfl
  | [_, _], _ => rfl
  | [_, _, _], _ => rfl
  | [_, _, _, _], _ => rfl
  | [_, _, _, _, _], h => exact absurd rfl h
  | _ :: _ :: _ :: _ :: _ :: _ :: _, _ => rfl
set_option maxHeartbeats 1000000 in
set_option maxRecDepth 8000 in
theorem c_readEvent (l : List UInt8) (hl : l.length ≤ 1048576) (w : World) (hg : Glob w) :
    Calls Tryd.prog 63 #[.string (mkB l)] w (EvPost (readP l) w) := by
  have hn := splitL_len 32 l
  have hne := splitL_ne 32 l
  have hpc := hide (splitL_piece 32 l)
  obtain ⟨W0, HW⟩ : ∃ W0, Hid (w.alloc (.cells #[.int .i64 0, .int .i64 0, .int .i64 0, .int .i64 0, .int .i64 0] 38) = W0) := ⟨_, hide rfl⟩
  have hx0 : Ext w W0 := by rw [← HW.out]; exact Ext.alloc _ _
  have hR : Row W0 w.heap.size 38 [.int .i64 0, .int .i64 0, .int .i64 0, .int .i64 0, .int .i64 0] := by rw [← HW.out]; exact Row.new _ _ _
  have hg0 := hg.ext hx0
  have HRP := hide (show readP l = match splitL 32 l with | w :: ws => evOf w (ws.mapM numP) | [] => noEv from rfl)
  generalize readP l = rp at *
  go_enter Tryd.func63, Tryd.ntmps63
  go_wp2_with fail
  rw [HW.out]
  refine (c_split l 32 hl _ hg0).mono ?_
  rintro e w1 ⟨rfl, hrow, hx1⟩
  cases hS : splitL 32 l with
  | nil => exact absurd hS hne
  | cons x xs =>
    rw [hS] at hrow hn
    have HRP2 := hide (show rp = evOf x (xs.mapM numP) by rw [HRP.out, hS])
    have hsl : SliceOf w1 1 strC (some ⟨W0.heap.size, 1, none⟩) xs.length xs.length xs := by
      refine ⟨rfl, Nat.le_refl _, by simp at hn; show xs.length ≤ 9223372036854775807; omega, fun _ => ⟨W0.heap.size, 1, rfl, hrow.lt, fun i y hy j u hu => ?_⟩⟩
      have := hrow.get strC_len (i := i + 1) (x := y) (by simpa using hy) (j := j) (u := u) hu
      rw [show (i + 1) * 1 + j = 1 + i * 1 + j by omega] at this
      exact this
    have hpx : ∀ y ∈ xs, y.length ≤ 1048576 := fun y hy => by have := hpc.out y (by rw [hS]; simp [hy]); omega
    have hx0w : x.length ≤ 1048576 := by have := hpc.out x (by rw [hS]; simp); omega
    have hcx := hrow.get strC_len (i := 0) (x := x) rfl (j := 0) (u := .string (mkB x)) rfl
    simp only [Nat.zero_mul, Nat.add_zero] at hcx
    have hxl : xs.length ≤ 1048576 := by simp at hn; omega
    rw [List.length_cons]
    have hlt1 := hrow.lt
    have hg1 := hg0.ext hx1
    have hR1 := hR.ext hx1
    have hX1 := hx0.trans hx1
    have hz01 := hx0.size
    have hlt0 := hR.lt
    clear hrow hS HRP hpc hn hne hR hg0
    by_cases hxs : xs = []
    · subst hxs
      go_wp2_with fail
      refine (c_readNumbers (some ⟨W0.heap.size, 0, none⟩) 0 0 [] _ (SliceOf.nil.2 (Nat.zero_le _)) (by omega) hpx hg1).mono ?_
      rintro e w2 hr
      rcases hr with ⟨A, m, c, ys, rfl, hM, hsy, hx2⟩ | ⟨rfl, hM, hx2⟩
      · obtain rfl : ys = [] := by cases hM; rfl
        have hr2 := hR1.ext hx2
        obtain rfl : m = 0 := hsy.len
        have HE := hide (show rp = noEv by rw [HRP2.out]; rfl)
        have hlt2 := hr2.lt
        have x0 := hr2.cell 0
        have x1 := hr2.cell 1
        have x2 := hr2.cell 2
        have x3 := hr2.cell 3
        have x4 := hr2.cell 4
        have hf := hr2.frozen
        simp only [List.getElem?_cons_zero, List.getElem?_cons_succ] at x0 x1 x2 x3 x4
        go_wp2_with fail
        have rS := five_set hr2 (.int .i64 0) (.int .i64 0) (.int .i64 0) (.int .i64 0) (.int .i64 0)
        have hXS := five_ext (hX1.trans hx2) (g := w.heap.size) (Nat.le_refl _) (.int .i64 0) (.int .i64 0) (.int .i64 0) (.int .i64 0) (.int .i64 0)
        generalize (((((w2.setCell ⟨w.heap.size, 0, none⟩ (.int .i64 0)).setCell ⟨w.heap.size, 1, none⟩ (.int .i64 0)).setCell ⟨w.heap.size, 2, none⟩ (.int .i64 0)).setCell ⟨w.heap.size, 3, none⟩ (.int .i64 0)).setCell ⟨w.heap.size, 4, none⟩ (.int .i64 0)) = W5 at *
        have y0 := rS.cell 0
        have y1 := rS.cell 1
        have y2 := rS.cell 2
        have y3 := rS.cell 3
        have y4 := rS.cell 4
        simp only [List.getElem?_cons_zero, List.getElem?_cons_succ] at y0 y1 y2 y3 y4
        exact bodyPost_ret (v := .tuple #[.agg #[.int .i64 0, .int .i64 0, .int .i64 0, .int .i64 0, .int .i64 0], .bool false]) (by simp [results, Tryd.results63, go_sem, y0, y1, y2, y3, y4]) rfl ⟨by rw [HE.out]; rfl, hXS⟩
      · cases hM
    · go_wp2_with fail
      refine (c_readNumbers (some ⟨W0.heap.size, 1, none⟩) xs.length xs.length xs _ hsl (by omega) hpx hg1).mono ?_
      rintro e w2 hr
      rcases hr with ⟨A, m, c, ys, rfl, hM, hsy, hx2⟩ | ⟨rfl, hM, hx2⟩
      · have hr2 := hR1.ext hx2
        have hlt2 := hr2.lt
        have x0 := hr2.cell 0
        have x1 := hr2.cell 1
        have x2 := hr2.cell 2
        have x3 := hr2.cell 3
        have x4 := hr2.cell 4
        have hf := hr2.frozen
        simp only [List.getElem?_cons_zero, List.getElem?_cons_succ] at x0 x1 x2 x3 x4
        have hyl := hsy.len
        by_cases h5 : m = 5
        · subst h5
          obtain ⟨a, b, cc, d, s, rfl⟩ : ∃ a b cc d s, ys = [a, b, cc, d, s] := by
            match ys, hyl with
            | [a, b, cc, d, s], _ => exact ⟨a, b, cc, d, s, rfl⟩
          · clear hyl
            obtain ⟨hA1, hA2, hA3, hA4⟩ := hsy
            obtain ⟨g, off, rfl, hgl, hc⟩ := hA4 (by omega)
            have c0 := hc 0 a rfl 0 _ rfl
            have c1 := hc 1 b rfl 0 _ rfl
            have c2 := hc 2 cc rfl 0 _ rfl
            have c3 := hc 3 d rfl 0 _ rfl
            simp only [Nat.add_zero, Nat.mul_one] at c0 c1 c2 c3
            clear hc
            have hcx2 := (hx2.cell _ 0 hlt1).trans hcx
            have hltx : W0.heap.size < w2.heap.size := Nat.lt_of_lt_of_le hlt1 hx2.size
            have HE := hide (show rp = ⟨kindP x, a, b, cc, d⟩ by rw [HRP2.out, hM, evOf_five])
            have hg2 := hg1.ext hx2
            have HI := hide (show ∀ w', Ext w2 w' → Calls Tryd.prog 75 #[.slice (some ⟨0, 0, none⟩) 4 4, .string (mkB x)] w' (fun e w'' => e = .returned (.int .i64 (kindP x)) ∧ w'' = w') from fun w' hw => Tryd.slices_Index_string 0 0 4 4 [mkB [], mkB wNom, mkB wRead, mkB wClose] (mkB x) w' (Nat.le_refl _) (by omega) (words_zs (hg2.toJ.ext hw)))
            have hX2 := hX1.trans hx2
            clear hM hcx x0 x1 x2 x3 x4 hf hg1 hR1 hX1 hx0 hx1 hx2 hA1 hA4 hsl hpx
            go_wp2_with fail
            refine wp_region_phT [(W0.heap.size, 0), (g, off), (g, off + 1), (g, off + 2), (g, off + 3)] (.two [0, 1, 2, 3, 5, 6, 7, 8, 9, 10, 11, 12, 13, 14, 15, 16] 4 (.one [17] 18 (.one [] 19 (.last []))) 18 (.one [] 4 (.one [17] 19 (.last [])))) (by kernel_rfl) (by kernel_rfl) (by intro c a w d v h; cases d <;> exact h) ?_
            simp only [wpPhT, pickL, nthO]
            repeat (go_big_quiet_step (fail))
            refine wpQuiet_nil ⟨?_, ?_⟩
            · go_wp2_with fail
              refine (HI.out w2.drew (Ext.refl _).drew).mono ?_
              rintro e w3 ⟨rfl, rfl⟩
              go_wp2_with fail
              refine ⟨SameC.of_ext (Ext.refl _).drew (by simp; omega), ?_⟩
              repeat (go_big_quiet_step (fail))
              refine wpQuiet_nil ?_
              go_wp2_with fail
              refine ⟨SameC.of_ext ((Ext.refl _).drew.and_alloc _) (by simp; omega), wpQuiet_nil ?_⟩
              go_wp2_with fail
              refine ⟨SameC.of_ext ((Ext.alloc w2 _).drew) (by simp; omega), wpQuiet_nil ?_⟩
              have rB : Row (w2.alloc (.cells #[.int .i64 (kindP x), .int .i64 a, .int .i64 b, .int .i64 cc, .int .i64 d] 38)).drew w2.heap.size 38 [.int .i64 (kindP x), .int .i64 a, .int .i64 b, .int .i64 cc, .int .i64 d] := (Row.new w2 _ _).drew
              have hX3 : Ext w2 (w2.alloc (.cells #[.int .i64 (kindP x), .int .i64 a, .int .i64 b, .int .i64 cc, .int .i64 d] 38)).drew := (Ext.alloc _ _).drew
              generalize (w2.alloc (.cells #[.int .i64 (kindP x), .int .i64 a, .int .i64 b, .int .i64 cc, .int .i64 d] 38)).drew = W3 at *
              clear c0 c1 c2 c3 hcx2 hg2
              have b0 := rB.cell 0
              have b1 := rB.cell 1
              have b2 := rB.cell 2
              have b3 := rB.cell 3
              have b4 := rB.cell 4
              have hlB := rB.lt
              simp only [List.getElem?_cons_zero, List.getElem?_cons_succ] at b0 b1 b2 b3 b4
              go_wp2_with fail
              refine wp_region_phT [(w2.heap.size, 0), (w2.heap.size, 1), (w2.heap.size, 2), (w2.heap.size, 3), (w2.heap.size, 4)] (.one [0, 1] 2 (.one [] 3 (.last [4]))) (by kernel_rfl) (by kernel_rfl) (by intro c a w d v h; cases d <;> exact h) ?_
              simp only [wpPhT, pickL, nthO]
              repeat (go_big_quiet_step (fail))
              refine wpQuiet_nil ?_
              go_wp2_with fail
              refine (c_IsEvent ⟨kindP x, a, b, cc, d⟩ _).mono ?_
              rintro e w4 ⟨rfl, hx4⟩
              have hx34 : Ext W3 w4 := (Ext.refl _).drew.trans hx4
              have r4 := (hr2.ext hX3).ext hx34
              have hf := r4.frozen
              have hlt4 := r4.lt
              have x0 := r4.cell 0
              have x1 := r4.cell 1
              have x2 := r4.cell 2
              have x3 := r4.cell 3
              have x4 := r4.cell 4
              simp only [List.getElem?_cons_zero, List.getElem?_cons_succ] at x0 x1 x2 x3 x4
              go_wp2_with fail
              refine ⟨SameC.of_ext hx34 (by simp; omega), wpQuiet_nil ?_⟩
              go_wp2_with fail
              have rS := five_set r4 (.int .i64 (kindP x)) (.int .i64 a) (.int .i64 b) (.int .i64 cc) (.int .i64 d)
              have hXS := five_ext (hX2.trans (hX3.trans hx34)) (g := w.heap.size) (Nat.le_refl _) (.int .i64 (kindP x)) (.int .i64 a) (.int .i64 b) (.int .i64 cc) (.int .i64 d)
              have hSS := samec_five (SameC.of_ext (cs := [(w2.heap.size, 0), (w2.heap.size, 1), (w2.heap.size, 2), (w2.heap.size, 3), (w2.heap.size, 4)]) hx34 (by simp; omega)) (g := w.heap.size) (by simp; omega) (.int .i64 (kindP x)) (.int .i64 a) (.int .i64 b) (.int .i64 cc) (.int .i64 d)
              generalize (((((w4.setCell ⟨w.heap.size, 0, none⟩ (.int .i64 (kindP x))).setCell ⟨w.heap.size, 1, none⟩ (.int .i64 a)).setCell ⟨w.heap.size, 2, none⟩ (.int .i64 b)).setCell ⟨w.heap.size, 3, none⟩ (.int .i64 cc)).setCell ⟨w.heap.size, 4, none⟩ (.int .i64 d)) = W5 at *
              refine ⟨hSS, ?_⟩
              repeat (go_big_quiet_step (fail))
              refine wpQuiet_nil ?_
              have y0 := rS.cell 0
              have y1 := rS.cell 1
              have y2 := rS.cell 2
              have y3 := rS.cell 3
              have y4 := rS.cell 4
              simp only [List.getElem?_cons_zero, List.getElem?_cons_succ] at y0 y1 y2 y3 y4
              go_wp2_with fail
              exact bodyPost_ret (v := .tuple #[.agg #[.int .i64 (kindP x), .int .i64 a, .int .i64 b, .int .i64 cc, .int .i64 d], .bool (evB ⟨kindP x, a, b, cc, d⟩)]) (by simp [results, Tryd.results63, go_sem, y0, y1, y2, y3, y4]) rfl ⟨by rw [HE.out], hXS⟩
            · go_wp2_with fail
              refine ⟨SameC.of_ext ((Ext.refl _).drew.and_alloc _) (by simp; omega), wpQuiet_nil ?_⟩
              go_wp2_with fail
              refine (HI.out _ ((Ext.refl _).drew.and_alloc _)).mono ?_
              rintro e w3 ⟨rfl, rfl⟩
              go_wp2_with fail
              refine ⟨SameC.of_ext ((Ext.refl _).drew.and_alloc _) (by simp; omega), ?_⟩
              repeat (go_big_quiet_step (fail))
              refine wpQuiet_nil ?_
              go_wp2_with fail
              refine ⟨SameC.of_ext ((Ext.alloc w2 _).drew) (by simp; omega), wpQuiet_nil ?_⟩
              have rB : Row (w2.alloc (.cells #[.int .i64 (kindP x), .int .i64 a, .int .i64 b, .int .i64 cc, .int .i64 d] 38)).drew w2.heap.size 38 [.int .i64 (kindP x), .int .i64 a, .int .i64 b, .int .i64 cc, .int .i64 d] := (Row.new w2 _ _).drew
              have hX3 : Ext w2 (w2.alloc (.cells #[.int .i64 (kindP x), .int .i64 a, .int .i64 b, .int .i64 cc, .int .i64 d] 38)).drew := (Ext.alloc _ _).drew
              generalize (w2.alloc (.cells #[.int .i64 (kindP x), .int .i64 a, .int .i64 b, .int .i64 cc, .int .i64 d] 38)).drew = W3 at *
              clear c0 c1 c2 c3 hcx2 hg2
              have b0 := rB.cell 0
              have b1 := rB.cell 1
              have b2 := rB.cell 2
              have b3 := rB.cell 3
              have b4 := rB.cell 4
              have hlB := rB.lt
              simp only [List.getElem?_cons_zero, List.getElem?_cons_succ] at b0 b1 b2 b3 b4
              go_wp2_with fail
              refine wp_region_phT [(w2.heap.size, 0), (w2.heap.size, 1), (w2.heap.size, 2), (w2.heap.size, 3), (w2.heap.size, 4)] (.one [0, 1] 2 (.one [] 3 (.last [4]))) (by kernel_rfl) (by kernel_rfl) (by intro c a w d v h; cases d <;> exact h) ?_
              simp only [wpPhT, pickL, nthO]
              repeat (go_big_quiet_step (fail))
              refine wpQuiet_nil ?_
              go_wp2_with fail
              refine (c_IsEvent ⟨kindP x, a, b, cc, d⟩ _).mono ?_
              rintro e w4 ⟨rfl, hx4⟩
              have hx34 : Ext W3 w4 := (Ext.refl _).drew.trans hx4
              have r4 := (hr2.ext hX3).ext hx34
              have hf := r4.frozen
              have hlt4 := r4.lt
              have x0 := r4.cell 0
              have x1 := r4.cell 1
              have x2 := r4.cell 2
              have x3 := r4.cell 3
              have x4 := r4.cell 4
              simp only [List.getElem?_cons_zero, List.getElem?_cons_succ] at x0 x1 x2 x3 x4
              go_wp2_with fail
              refine ⟨SameC.of_ext hx34 (by simp; omega), wpQuiet_nil ?_⟩
              go_wp2_with fail
              have rS := five_set r4 (.int .i64 (kindP x)) (.int .i64 a) (.int .i64 b) (.int .i64 cc) (.int .i64 d)
              have hXS := five_ext (hX2.trans (hX3.trans hx34)) (g := w.heap.size) (Nat.le_refl _) (.int .i64 (kindP x)) (.int .i64 a) (.int .i64 b) (.int .i64 cc) (.int .i64 d)
              have hSS := samec_five (SameC.of_ext (cs := [(w2.heap.size, 0), (w2.heap.size, 1), (w2.heap.size, 2), (w2.heap.size, 3), (w2.heap.size, 4)]) hx34 (by simp; omega)) (g := w.heap.size) (by simp; omega) (.int .i64 (kindP x)) (.int .i64 a) (.int .i64 b) (.int .i64 cc) (.int .i64 d)
              generalize (((((w4.setCell ⟨w.heap.size, 0, none⟩ (.int .i64 (kindP x))).setCell ⟨w.heap.size, 1, none⟩ (.int .i64 a)).setCell ⟨w.heap.size, 2, none⟩ (.int .i64 b)).setCell ⟨w.heap.size, 3, none⟩ (.int .i64 cc)).setCell ⟨w.heap.size, 4, none⟩ (.int .i64 d)) = W5 at *
              refine ⟨hSS, ?_⟩
              repeat (go_big_quiet_step (fail))
              refine wpQuiet_nil ?_
              have y0 := rS.cell 0
              have y1 := rS.cell 1
              have y2 := rS.cell 2
              have y3 := rS.cell 3
              have y4 := rS.cell 4
              simp only [List.getElem?_cons_zero, List.getElem?_cons_succ] at y0 y1 y2 y3 y4
              go_wp2_with fail
              exact bodyPost_ret (v := .tuple #[.agg #[.int .i64 (kindP x), .int .i64 a, .int .i64 b, .int .i64 cc, .int .i64 d], .bool (evB ⟨kindP x, a, b, cc, d⟩)]) (by simp [results, Tryd.results63, go_sem, y0, y1, y2, y3, y4]) rfl ⟨by rw [HE.out], hXS⟩
        · have HE := hide (show rp = noEv by rw [HRP2.out, hM]; exact evOf_other (by omega))
          go_wp2_with fail
          have rS := five_set hr2 (.int .i64 0) (.int .i64 0) (.int .i64 0) (.int .i64 0) (.int .i64 0)
          have hXS := five_ext (hX1.trans hx2) (g := w.heap.size) (Nat.le_refl _) (.int .i64 0) (.int .i64 0) (.int .i64 0) (.int .i64 0) (.int .i64 0)
          generalize (((((w2.setCell ⟨w.heap.size, 0, none⟩ (.int .i64 0)).setCell ⟨w.heap.size, 1, none⟩ (.int .i64 0)).setCell ⟨w.heap.size, 2, none⟩ (.int .i64 0)).setCell ⟨w.heap.size, 3, none⟩ (.int .i64 0)).setCell ⟨w.heap.size, 4, none⟩ (.int .i64 0)) = W5 at *
          have y0 := rS.cell 0
          have y1 := rS.cell 1
          have y2 := rS.cell 2
          have y3 := rS.cell 3
          have y4 := rS.cell 4
          simp only [List.getElem?_cons_zero, List.getElem?_cons_succ] at y0 y1 y2 y3 y4
          exact bodyPost_ret (v := .tuple #[.agg #[.int .i64 0, .int .i64 0, .int .i64 0, .int .i64 0, .int .i64 0], .bool false]) (by simp [results, Tryd.results63, go_sem, y0, y1, y2, y3, y4]) rfl ⟨by rw [HE.out]; rfl, hXS⟩
      · have HE := hide (show rp = noEv by rw [HRP2.out, hM]; rfl)
        have hr2 := hR1.ext hx2
        have hlt2 := hr2.lt
        have x0 := hr2.cell 0
        have x1 := hr2.cell 1
        have x2 := hr2.cell 2
        have x3 := hr2.cell 3
        have x4 := hr2.cell 4
        have hf := hr2.frozen
        simp only [List.getElem?_cons_zero, List.getElem?_cons_succ] at x0 x1 x2 x3 x4
        go_wp2_with fail
        have rS := five_set hr2 (.int .i64 0) (.int .i64 0) (.int .i64 0) (.int .i64 0) (.int .i64 0)
        have hXS := five_ext (hX1.trans hx2) (g := w.heap.size) (Nat.le_refl _) (.int .i64 0) (.int .i64 0) (.int .i64 0) (.int .i64 0) (.int .i64 0)
        generalize (((((w2.setCell ⟨w.heap.size, 0, none⟩ (.int .i64 0)).setCell ⟨w.heap.size, 1, none⟩ (.int .i64 0)).setCell ⟨w.heap.size, 2, none⟩ (.int .i64 0)).setCell ⟨w.heap.size, 3, none⟩ (.int .i64 0)).setCell ⟨w.heap.size, 4, none⟩ (.int .i64 0)) = W5 at *
        have y0 := rS.cell 0
        have y1 := rS.cell 1
        have y2 := rS.cell 2
        have y3 := rS.cell 3
        have y4 := rS.cell 4
        simp only [List.getElem?_cons_zero, List.getElem?_cons_succ] at y0 y1 y2 y3 y4
        exact bodyPost_ret (v := .tuple #[.agg #[.int .i64 0, .int .i64 0, .int .i64 0, .int .i64 0, .int .i64 0], .bool false]) (by simp [results, Tryd.results63, go_sem, y0, y1, y2, y3, y4]) rfl ⟨by rw [HE.out]; rfl, hXS⟩
end Go.Proofs.YtglbiddddflmeaaDoor
