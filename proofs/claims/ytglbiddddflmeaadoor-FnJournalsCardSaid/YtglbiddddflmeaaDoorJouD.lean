

/-
  The line of an event, of the reference.
-/
import Derived.Test.YtglbiddddflmeaaDoorJouC
namespace Go.Proofs.YtglbiddddflmeaaDoor
open Go.RowKit
open Go.Lib hiding intOf
theorem c_l32Words (w : World) :
    Calls Tryd.prog 67 #[] w (fun e w' => e = .returned (.slice (some ⟨w.heap.size, 0, none⟩) 3 3) ∧ w' = w.alloc (.cells #[.string (mkB wNom), .string (mkB wRead), .string (mkB wClose)] 9)) := by
  go_enter Tryd.func67, Tryd.ntmps67
  go_wp2_with fail
  go_ret
  exact ⟨rfl, rfl⟩
theorem words_cell {w' : World} {g : Nat} (h : Row w' g 9 [.string (mkB wNom), .string (mkB wRead), .string (mkB wClose)]) (M : Nat) (hM : M < 3) : w'.cell? ⟨g, M, none⟩ = some (.string (mkB (evWord ((M : Int) + 1)))) := by
  rw [h.cell M]
  have : M = 0 ∨ M = 1 ∨ M = 2 := by omega
  rcases this with rfl | rfl | rfl <;> rfl
def tailL (xs : List Int) : List UInt8 := xs.flatMap fun x => 32 :: itoa x
theorem headL_tail (k a b c d : Int) : headL ⟨k, a, b, c, d⟩ = evWord k ++ tailL [a, b, c, d] := by
  simp [headL, join_four, tailL]
theorem tailL_take {xs : List Int} {j : Nat} {x : Int} (h : xs[j]? = some x) : tailL (xs.take (j + 1)) = tailL (xs.take j) ++ 32 :: itoa x := by
  rw [List.take_add_one, h]
  simp [tailL]
set_option maxHeartbeats 4000000 in
theorem c_l32Line (p : Event) (s : Int) (w : World) (he : evB p = true) (s0 : 0 ≤ s) (s1 : s < 99991) :
    Calls Tryd.prog 57 #[.agg #[.int .i64 p.kind, .int .i64 p.a, .int .i64 p.b, .int .i64 p.c, .int .i64 p.d], .int .i64 s] w (Ret (.tuple #[.string (mkB (lineL p s)), .int .i64 (sumE p s)]) w) := by
  have hhl := headL_len p he
  have HL := hide (show lineL p s = headL p ++ 32 :: itoa (sumE p s) from rfl)
  have HSE := hide (show sumE p s = sumL s (headL p) from rfl)
  have HE0 := hide (headL_tail p.kind p.a p.b p.c p.d)
  have HE := hide (show headL p = evWord p.kind ++ tailL [p.a, p.b, p.c, p.d] from HE0.out)
  clear HE0
  generalize headL p = hd at *
  generalize lineL p s = ln at *
  generalize sumE p s = sm at *
  obtain ⟨hk, ha, hb, hc, hdd⟩ := evB_bounds he
  clear he
  obtain ⟨k, a, b, c, d⟩ := p
  simp only at hk ha hb hc hdd HE
  rw [inB_true] at hk
  obtain ⟨M, rfl⟩ : ∃ M : Nat, k = (M : Int) + 1 := ⟨k.toNat - 1, by omega⟩
  have hM : M < 3 := by omega
  obtain ⟨W, HW⟩ : ∃ W, Hid (W = w.alloc (.cells #[.int .i64 ((M : Int) + 1), .int .i64 a, .int .i64 b, .int .i64 c, .int .i64 d] 38)) := ⟨_, hide rfl⟩
  have hR : Row W w.heap.size 38 [.int .i64 ((M : Int) + 1), .int .i64 a, .int .i64 b, .int .i64 c, .int .i64 d] := by rw [HW.out]; exact Row.new _ _ _
  have hx0 : Ext w W := by rw [HW.out]; exact Ext.alloc _ _
  have hlt := hR.lt
  have x0 := hR.cell 0
  have x1 := hR.cell 1
  have x2 := hR.cell 2
  have x3 := hR.cell 3
  have x4 := hR.cell 4
  simp only [List.getElem?_cons_zero, List.getElem?_cons_succ] at x0 x1 x2 x3 x4
  have hzw : W.heap.size = w.heap.size + 1 := by rw [HW.out]; simp
  obtain ⟨W1, HW1⟩ : ∃ W1, Hid (W1 = W.alloc (.cells #[.int .i64 a, .int .i64 b, .int .i64 c, .int .i64 d] 2)) := ⟨_, hide rfl⟩
  have hx1 : Ext W W1 := by rw [HW1.out]; exact Ext.alloc _ _
  have hrow : RowOf W1 (w.heap.size + 1) 2 intC [a, b, c, d] := by rw [HW1.out, ← hzw]; exact Row.new W 2 [.int .i64 a, .int .i64 b, .int .i64 c, .int .i64 d]
  have y0 := (hR.ext hx1).cell 0
  have hlt1 := (hR.ext hx1).lt
  simp only [List.getElem?_cons_zero] at y0
  have hwl := evWord_len ((M : Int) + 1)
  go_enter Tryd.func57, Tryd.ntmps57
  go_wp2_with fail
  rw [← HW.out, ← HW1.out]
  refine wp_region_ph [([1, 2, 3], 0)] [4, 5, 6] (by kernel_rfl) (by kernel_rfl) (by intro c a w d v h; cases d <;> exact h) ?_
  simp only [wpPh, pickL, nthO]
  repeat (go_big_quiet_step (fail))
  refine wpQuiet_nil ?_
  go_wp2_with fail
  refine (c_l32Words _).mono ?_
  rintro e w2 ⟨rfl, rfl⟩
  obtain ⟨W2, HW2⟩ : ∃ W2, Hid (W2 = (W1.alloc (.cells #[.string (mkB wNom), .string (mkB wRead), .string (mkB wClose)] 9)).drew) := ⟨_, hide rfl⟩
  have hwr : Row W2 W1.heap.size 9 [.string (mkB wNom), .string (mkB wRead), .string (mkB wClose)] := by rw [HW2.out]; exact (Row.new W1 _ _).drew
  have hx2 : Ext W1 W2 := by rw [HW2.out]; exact (Ext.alloc _ _).drew
  have hx2d : Ext W1.drew W2 := by rw [HW2.out]; exact Ext.alloc W1.drew _
  have hwc := words_cell hwr M hM
  have hwlt := hwr.lt
  go_wp2_with fail
  rw [← HW2.out]
  refine ⟨hx2d, ?_⟩
  generalize hwd : evWord ((M : Int) + 1) = wd at *
  have HWD := hide hwd
  clear hwd
  repeat (go_big_quiet_step (fail))
  refine wpQuiet_nil ?_
  have hrow2 := hrow.ext hx2
  have hX2 := hx0.trans (hx1.trans hx2)
  clear x0 x1 x2 x3 x4 hlt hlt1 y0 hwc hwlt hrow hR hwr hx0 hx1 hx2 hx2d
  have hl := hide (show ∀ j, j ≤ 4 → (tailL ([a, b, c, d].take j)).length ≤ 1000000011 * j ∧ (wd ++ tailL ([a, b, c, d].take j)).length ≤ 4000000100 from by
    have i1 := itoa_len a (by omega) (by omega)
    have i2 := itoa_len b (by omega) (by omega)
    have i3 := itoa_len c (by omega) (by omega)
    have i4 := itoa_len d (by omega) (by omega)
    intro j hj
    have : j = 0 ∨ j = 1 ∨ j = 2 ∨ j = 3 ∨ j = 4 := by omega
    rcases this with rfl | rfl | rfl | rfl | rfl <;> simp [tailL] <;> omega)
  go_wp2_with fail
  go_loopw [7, 8] (fun v i wr => ∃ (j : Nat), j ≤ 4 ∧ i = .int .i64 j ∧ v = .string (mkB (wd ++ tailL ([a, b, c, d].take j))) ∧ Ext W2 wr) (fun _ i _ => 4 - (intOf i).toNat)
  case atStart => exact ⟨0, Nat.zero_le _, rfl, by simp [tailL], Ext.refl _⟩
  case round =>
    obtain ⟨j, hj, rfl, rfl, hx⟩ := hrel
    have hlj := (hl.out j hj).2
    by_cases hj4 : j < 4
    · have hlj1 := (hl.out (j + 1) (by omega)).2
      have hsl := RowOf.slice (hrow2.ext hx) intC_len (n := 4) rfl (by omega)
      obtain ⟨b', off, x, hA, hb', hxk, hc0⟩ := hsl.get1 hj4
      injection hA with hA
      injection hA with hA1 hA2
      subst hA1 hA2
      rw [Nat.zero_add] at hc0
      have hbx : -1000000000 ≤ x ∧ x ≤ 1000000000 := by
        have := List.mem_of_getElem? hxk
        simp at this
        omega
      have HX := hide hxk
      clear hxk hsl
      have HT := hide (tailL_take HX.out)
      generalize htj : wd ++ tailL ([a, b, c, d].take j) = tj at *
      have q1 : (mkB tj).size ≤ 4000000100 := hlj
      have g1 : mkB tj ++ (⟨#[32]⟩ : ByteArray) = mkB (tj ++ [32]) := mkB_append tj [32]
      have G1 := hide g1
      clear g1
      go_wp2_with fail
      refine (c_l12Number x (by omega) (by omega) _).mono ?_
      rintro e w3 ⟨rfl, hx3⟩
      rw [G1.out]
      have q2 : (mkB (tj ++ [32])).size ≤ 4000000101 := by rw [mkB_size]; simp; omega
      have q3 : (mkB (itoa x)).size ≤ 1000000010 := itoa_len x hbx.1 hbx.2
      have g2 : mkB (tj ++ [32]) ++ mkB (itoa x) = mkB (wd ++ tailL ([a, b, c, d].take (j + 1))) := by
        rw [mkB_append, HT.out, ← htj]; simp
      have G2 := hide g2
      clear g2
      go_wp2_with fail
      go_roundw
      case rel => exact ⟨j + 1, by omega, by go_num, by rw [G2.out], hx.trans hx3⟩
      case measure => simp [intOf]; omega
    · obtain rfl : j = 4 := by omega
      have h4 : wd ++ tailL ([a, b, c, d].take 4) = hd := by rw [HE.out]; rfl
      have H4 := hide h4
      rw [h4] at hlj
      rw [H4.out]
      clear h4
      have q3 : (mkB hd).size = hd.length := rfl
      go_wp2_with fail
      go_loop [9, 10] (fun v i => ∃ (j : Nat) (z : Int), j ≤ hd.length ∧ i = .int .i64 j ∧ v = .int .i64 z ∧ 0 ≤ z ∧ z < 99991 ∧ Hid (sumL z (hd.drop j) = sm)) (fun _ i => hd.length - (intOf i).toNat)
      case atStart => exact ⟨0, s, Nat.zero_le _, rfl, rfl, s0, s1, hide (by rw [HSE.out]; rfl)⟩
      case round =>
        obtain ⟨j, z, hj, rfl, rfl, z0, z1, HZ⟩ := hrel
        by_cases hjl : j < hd.length
        · obtain ⟨ch, hch⟩ : ∃ ch, hd[j]? = some ch := ⟨_, List.getElem?_eq_getElem hjl⟩
          have hat := str_at hd j ch hch wr
          have HCH := hide hch
          clear hch
          have hcb : (ch.toNat : Int) < 256 := by have := ch.toNat_lt; omega
          have hc0 : 0 ≤ (ch.toNat : Int) := by omega
          generalize hcn : (ch.toNat : Int) = cn at *
          have HCN := hide hcn
          clear hcn
          go_wp2_with fail
          go_round
          case rel => exact ⟨j + 1, (257 * z + cn + 1) % 99991, by omega, by go_num, by go_num, Int.emod_nonneg _ (by omega), Int.emod_lt_of_pos _ (by omega), hide (by rw [← HZ.out, sumL_drop hd j ch z HCH.out, HCN.out])⟩
          case measure => simp [intOf]; omega
        · obtain rfl : j = hd.length := by omega
          have HZ2 := hide (show z = sm by have := HZ.out; rwa [List.drop_length] at this)
          clear HZ
          have Z : ∃ zn : Nat, z = zn := ⟨z.toNat, by omega⟩
          obtain ⟨zn, rfl⟩ := Z
          have IL := hide (itoa_nonneg zn)
          go_wp2_with fail
          refine (c_l01Dec zn (by omega) _).mono ?_
          rintro e w3 ⟨rfl, hx3⟩
          have g1 : mkB hd ++ (⟨#[32]⟩ : ByteArray) = mkB (hd ++ [32]) := mkB_append hd [32]
          rw [g1]
          have il := itoa_len zn (by omega) (by omega)
          have q4 : (mkB (hd ++ [32])).size ≤ 4000000101 := by rw [mkB_size]; simp; omega
          have q5 : (mkB (decDigits zn)).size ≤ 1000000010 := by rw [mkB_size, ← IL.out]; exact il
          have hend : mkB (hd ++ [32]) ++ mkB (decDigits zn) = mkB ln := by
            rw [mkB_append, HL.out, ← HZ2.out, IL.out]
            simp
          have HEND := hide hend
          clear g1 hend
          go_wp2_with fail
          rw [HEND.out]
          exact bodyPost_ret (v := .tuple #[.string (mkB ln), .int .i64 zn]) (by simp [results, Tryd.results57, go_sem]) rfl (Ret.of (by rw [HZ2.out]) (hX2.trans (hx.trans hx3)))
end Go.Proofs.YtglbiddddflmeaaDoor
