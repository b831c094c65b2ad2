

/-
  The reference's damage to a text.
-/
import Derived.Test.YtglbiddddflmeaaDoorDrawK
import Derived.Test.YtglbiddddflmeaaDoorJouE
namespace Go.Proofs.YtglbiddddflmeaaDoor
open Go.RowKit
open Go.Lib hiding intOf
/-- some text of a bounded length -/
def DrawnTxt (m : Nat) (a : Nat) (A : Option Addr) (n c : Nat) (w : World) (e : Ending) (w' : World) : Prop :=
  ∃ l : List UInt8, e = .returned (.string (mkB l)) ∧ l.length ≤ m ∧ SrcAt w' a A n c ∧ Only a w w'
theorem cut_low (l : List UInt8) (k : Nat) : (mkB l).extract 0 k = mkB (l.take k) := by rw [mkB_extract]; simp
theorem cut_high (l : List UInt8) (k : Nat) : (mkB l).extract k l.length = mkB (l.drop k) := by
  rw [mkB_extract, List.take_of_length_le (by rw [List.length_drop]; exact Nat.le_refl _)]
theorem dmg_cell {w : World} {g : Nat} (h : Row w g 9 [.string (⟨#[48]⟩), .string (⟨#[49]⟩), .string (⟨#[32]⟩), .string (⟨#[46]⟩), .string (⟨#[45]⟩), .string (⟨#[97]⟩), .string (⟨#[47]⟩), .string (⟨#[10]⟩)]) (j : Nat) (hj : j < 8) : ∃ ch, w.cell? ⟨g, j, none⟩ = some (.string (mkB [ch])) := by
  rw [h.cell j]
  have : j = 0 ∨ j = 1 ∨ j = 2 ∨ j = 3 ∨ j = 4 ∨ j = 5 ∨ j = 6 ∨ j = 7 := by omega
  rcases this with rfl | rfl | rfl | rfl | rfl | rfl | rfl | rfl
  · exact ⟨48, rfl⟩
  · exact ⟨49, rfl⟩
  · exact ⟨32, rfl⟩
  · exact ⟨46, rfl⟩
  · exact ⟨45, rfl⟩
  · exact ⟨97, rfl⟩
  · exact ⟨47, rfl⟩
  · exact ⟨10, rfl⟩
set_option maxHeartbeats 1000000 in
set_option maxRecDepth 8000 in
theorem c_l01Damage (l : List UInt8) (hl : l.length ≤ 1000000) (a : Nat) (A : Option Addr) (n c : Nat) (bs : List Int) (w0 w : World) (hbs : SliceOf w0 1 byteC A n c bs) (hbd : ∀ z ∈ bs, 0 ≤ z ∧ z ≤ 255) (hx0 : Ext w0 w) (ha : w0.heap.size ≤ a) (hsrc : SrcAt w a A n c) (hn : n ≤ 1048576) :
    Calls Tryd.prog 66 #[.pointer (some ⟨a, 0, none⟩), .string (mkB l)] w (DrawnTxt (l.length + 1) a A n c w) := by
  have nxt := fun (m : Int) (w : World) hx0 hsrc => c_l01Next a m A n c bs w0 w hbs hbd hx0 ha hsrc hn
  have NX := hide nxt
  clear nxt
  have hsz : (mkB l).size = l.length := rfl
  go_enter Tryd.func66, Tryd.ntmps66
  go_wp2_with fail
  refine (NX.out ((l.length : Int) + 1) _ hx0 hsrc (by omega) (by omega)).mono ?_
  rintro e w1 ⟨x1, rfl, hx1, hx1', hs1, ho1⟩
  have hE1 := hx0.only ho1 ha
  obtain ⟨k, rfl⟩ := Int.eq_ofNat_of_zero_le hx1
  have hk : k ≤ l.length := by omega
  go_wp2_with fail
  refine (NX.out 8 _ hE1 hs1 (by omega) (by omega)).mono ?_
  rintro e w2 ⟨x2, rfl, hx2, hx2', hs2, ho2⟩
  have hE2 := hE1.only ho2 ha
  have hO2 := ho1.trans ho2
  have hcl := cut_low l k
  have hch := cut_high l k
  clear ho1 ho2 hs1 hE1 hx1 hx1'
  by_cases h0 : x2 = 0
  · subst h0
    go_wp2_with fail
    go_ret
    exact ⟨l.take k, rfl, by rw [List.length_take]; omega, hs2, hO2⟩
  · have b0 : (x2 == 0) = false := by rw [beq_eq_false_iff_ne]; exact h0
    by_cases h1 : x2 = 1
    · subst h1
      have q1 : (mkB (l.take k)).size ≤ 1000000 := by rw [mkB_size, List.length_take]; omega
      have q2 : (mkB (l.drop k)).size ≤ 1000000 := by rw [mkB_size, List.length_drop]; omega
      have ha2 : a < w2.heap.size := hs2.lt
      go_wp2_with fail
      refine wp_region_phT [] (.two [0, 1, 2, 4, 9, 10, 11] 3 (.one [] 5 (.one [6] 7 (.last [8, 12, 13]))) 5 (.one [] 3 (.one [6] 7 (.last [8, 12, 13])))) (by kernel_rfl) (by kernel_rfl) (by intro c a w d v h; cases d <;> exact h) ?_
      simp only [wpPhT, pickL, nthO]
      repeat (go_big_quiet_step (fail))
      refine wpQuiet_nil ⟨?_, ?_⟩
      · go_wp2_with fail
        refine ⟨fun _ h => (by cases h), wpQuiet_nil ?_⟩
        have hr3 : Row (w2.alloc (.cells #[.string (⟨#[48]⟩), .string (⟨#[49]⟩), .string (⟨#[32]⟩), .string (⟨#[46]⟩), .string (⟨#[45]⟩), .string (⟨#[97]⟩), .string (⟨#[47]⟩), .string (⟨#[10]⟩)] 9)).drew w2.heap.size 9 [.string (⟨#[48]⟩), .string (⟨#[49]⟩), .string (⟨#[32]⟩), .string (⟨#[46]⟩), .string (⟨#[45]⟩), .string (⟨#[97]⟩), .string (⟨#[47]⟩), .string (⟨#[10]⟩)] := (Row.new w2 _ _).drew
        have hx3 : Ext w2 (w2.alloc (.cells #[.string (⟨#[48]⟩), .string (⟨#[49]⟩), .string (⟨#[32]⟩), .string (⟨#[46]⟩), .string (⟨#[45]⟩), .string (⟨#[97]⟩), .string (⟨#[47]⟩), .string (⟨#[10]⟩)] 9)).drew := (Ext.alloc _ _).drew
        generalize (w2.alloc (.cells #[.string (⟨#[48]⟩), .string (⟨#[49]⟩), .string (⟨#[32]⟩), .string (⟨#[46]⟩), .string (⟨#[45]⟩), .string (⟨#[97]⟩), .string (⟨#[47]⟩), .string (⟨#[10]⟩)] 9)).drew = w3 at *
        go_wp2_with fail
        refine (NX.out 8 _ (hE2.trans hx3) (hs2.ext hx3) (by omega) (by omega)).mono ?_
        rintro e w4 ⟨y, rfl, hy1, hy2, hs4, ho4⟩
        obtain ⟨j, rfl⟩ := Int.eq_ofNat_of_zero_le hy1
        have hj : j < 8 := by omega
        obtain ⟨ch, hz⟩ := dmg_cell (hr3.only ho4 (by omega)) j hj
        have hl4 := (hr3.only ho4 (by omega)).lt
        have q3 : (mkB [ch]).size = 1 := rfl
        have hO4 := hO2.trans ((Only.of_ext hx3 a).trans ho4)
        go_wp2_with fail
        refine ⟨fun _ h => (by cases h), ?_⟩
        have H1 := mkB_append (l.take k) [ch]
        have H2 := mkB_append (l.take k ++ [ch]) (l.drop k)
        have q4 : (mkB (l.take k ++ [ch])).size ≤ 1000001 := by rw [mkB_size, List.length_append, List.length_take, List.length_singleton]; omega
        have HL := hide (show (l.take k ++ ch :: l.drop k).length ≤ l.length + 1 by simp; omega)
        repeat (go_big_quiet_step (fail))
        refine wpQuiet_nil ?_
        go_wp2_with fail
        refine ⟨fun _ h => (by cases h), ?_⟩
        repeat (go_big_quiet_step (fail))
        refine wpQuiet_nil ?_
        go_wp2_with fail
        go_ret
        exact ⟨l.take k ++ ch :: l.drop k, rfl, HL.out, hs4, hO4⟩
      · go_wp2_with fail
        refine (NX.out 8 _ (hE2.drew) (hs2.ext (Ext.refl _).drew) (by omega) (by omega)).mono ?_
        rintro e w3 ⟨y, rfl, hy1, hy2, hs3, ho3⟩
        obtain ⟨j, rfl⟩ := Int.eq_ofNat_of_zero_le hy1
        have hj : j < 8 := by omega
        go_wp2_with fail
        refine ⟨fun _ h => (by cases h), wpQuiet_nil ?_⟩
        have hr4 : Row (w3.alloc (.cells #[.string (⟨#[48]⟩), .string (⟨#[49]⟩), .string (⟨#[32]⟩), .string (⟨#[46]⟩), .string (⟨#[45]⟩), .string (⟨#[97]⟩), .string (⟨#[47]⟩), .string (⟨#[10]⟩)] 9)) w3.heap.size 9 [.string (⟨#[48]⟩), .string (⟨#[49]⟩), .string (⟨#[32]⟩), .string (⟨#[46]⟩), .string (⟨#[45]⟩), .string (⟨#[97]⟩), .string (⟨#[47]⟩), .string (⟨#[10]⟩)] := Row.new w3 _ _
        have hx4 : Ext w3 (w3.alloc (.cells #[.string (⟨#[48]⟩), .string (⟨#[49]⟩), .string (⟨#[32]⟩), .string (⟨#[46]⟩), .string (⟨#[45]⟩), .string (⟨#[97]⟩), .string (⟨#[47]⟩), .string (⟨#[10]⟩)] 9)) := Ext.alloc _ _
        obtain ⟨ch, hz⟩ := dmg_cell hr4 j hj
        have hl4 := hr4.lt
        have q3 : (mkB [ch]).size = 1 := rfl
        have hs4 := hs3.ext hx4
        have hO4 := hO2.trans (((Only.refl a w2).drew.trans ho3).trans (Only.of_ext hx4 a))
        go_wp2_with fail
        refine ⟨fun _ h => (by cases h), ?_⟩
        have H1 := mkB_append (l.take k) [ch]
        have H2 := mkB_append (l.take k ++ [ch]) (l.drop k)
        have q4 : (mkB (l.take k ++ [ch])).size ≤ 1000001 := by rw [mkB_size, List.length_append, List.length_take, List.length_singleton]; omega
        have HL := hide (show (l.take k ++ ch :: l.drop k).length ≤ l.length + 1 by simp; omega)
        repeat (go_big_quiet_step (fail))
        refine wpQuiet_nil ?_
        go_wp2_with fail
        refine ⟨fun _ h => (by cases h), ?_⟩
        repeat (go_big_quiet_step (fail))
        refine wpQuiet_nil ?_
        go_wp2_with fail
        go_ret
        exact ⟨l.take k ++ ch :: l.drop k, rfl, HL.out, hs4, hO4⟩
    · have b1 : (x2 == 1) = false := by rw [beq_eq_false_iff_ne]; exact h1
      by_cases h2 : x2 = 2
      · subst h2
        by_cases hlt : k < l.length
        · have hch2 := cut_high l (k + 1)
          have hlt' : (k : Int) < (l.length : Int) := by omega
          have q1 : (mkB (l.take k)).size ≤ 1000000 := by rw [mkB_size, List.length_take]; omega
          have q2 : (mkB (l.drop (k + 1))).size ≤ 1000000 := by rw [mkB_size, List.length_drop]; omega
          have HCT := hide (mkB_append (l.take k) (l.drop (k + 1)))
          go_wp2_with fail
          refine wp_region_ph [] [0, 1, 2, 3, 4, 5, 6, 7, 8] (by kernel_rfl) (by kernel_rfl) (by intro c a w d v h; cases d <;> exact h) ?_
          simp only [wpPh, pickL, nthO]
          repeat (go_big_quiet_step (fail))
          refine wpQuiet_nil ?_
          go_wp2_with fail
          go_ret
          exact ⟨l.take k ++ l.drop (k + 1), by rw [HCT.out]; rfl, by simp; omega, hs2.ext (Ext.refl _).drew, hO2.trans (Only.refl _ _).drew⟩
        · have hlt' : ¬ (k : Int) < (l.length : Int) := by omega
          go_wp2_with fail
          go_ret
          exact ⟨l, rfl, by omega, hs2, hO2⟩
      · have b2 : (x2 == 2) = false := by rw [beq_eq_false_iff_ne]; exact h2
        go_wp2_with fail
        go_ret
        exact ⟨l, rfl, by omega, hs2, hO2⟩
end Go.Proofs.YtglbiddddflmeaaDoor
