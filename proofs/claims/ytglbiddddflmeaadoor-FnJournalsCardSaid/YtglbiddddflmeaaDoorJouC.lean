

/-
  The line of an event, of the program: eventLine.
-/
import Derived.Test.YtglbiddddflmeaaDoorJouB
namespace Go.Proofs.YtglbiddddflmeaaDoor
open Go.RowKit
open Go.Lib hiding intOf
theorem str_at (l : List UInt8) (k : Nat) (c : UInt8) (h : l[k]? = some c) (W : World) : (Instr.index 9 (.string (mkB l)) (.int .i64 (k : Int))).run Tryd.prog W = .ok (.int .u8 (c.toNat : Int)) W := by
  obtain ⟨hk, hc⟩ := List.getElem?_eq_some_iff.1 h
  rw [run_index_string W 9 (mkB l) .i64 k Tryd.underlying9, dif_pos ⟨by omega, by rw [mkB_size]; omega⟩]
  have : (mkB l)[(k : Int).toNat]'(by rw [mkB_size]; simpa using hk) = c := hc
  rw [this]
theorem evWord_len (k : Int) : (evWord k).length ≤ 8 := by
  unfold evWord
  split
  · decide
  · split <;> decide
theorem sumL_drop (l : List UInt8) (k : Nat) (c : UInt8) (x : Int) (h : l[k]? = some c) : sumL x (l.drop k) = sumL ((257 * x + (c.toNat : Int) + 1) % 99991) (l.drop (k + 1)) := by
  obtain ⟨hk, hc⟩ := List.getElem?_eq_some_iff.1 h
  rw [List.drop_eq_getElem_cons hk, hc]
  rfl
theorem headL_len (e : Event) (he : evB e = true) : (headL e).length ≤ 4000000100 := by
  obtain ⟨_, ha, hb, hc, hd⟩ := evB_bounds he
  have h0 := evWord_len e.kind
  have h1 := itoa_len e.a (by omega) (by omega)
  have h2 := itoa_len e.b (by omega) (by omega)
  have h3 := itoa_len e.c (by omega) (by omega)
  have h4 := itoa_len e.d (by omega) (by omega)
  rw [headL, join_four]
  simp
  omega
set_option maxHeartbeats 4000000 in
theorem c_eventLine (p : Event) (s : Int) (w : World) (he : evB p = true) (s0 : 0 ≤ s) (s1 : s < 99991) (hg : GlobJ w) :
    Calls Tryd.prog 42 #[.agg #[.int .i64 p.kind, .int .i64 p.a, .int .i64 p.b, .int .i64 p.c, .int .i64 p.d], .int .i64 s] w (Ret (.tuple #[.string (mkB (lineL p s ++ [10])), .int .i64 (sumE p s)]) w) := by
  have hhl := headL_len p he
  have HHL := hide hhl
  have hsb := hide (sumE_bound p s s0 s1)
  have HE := hide (show headL p = evWord p.kind ++ 32 :: join ([p.a, p.b, p.c, p.d].map itoa) [32] from rfl)
  have HL := hide (show lineL p s = headL p ++ 32 :: itoa (sumE p s) from rfl)
  have HSE := hide (show sumE p s = sumL s (headL p) from rfl)
  generalize headL p = hd at *
  generalize lineL p s = ln at *
  generalize sumE p s = sm at *
  obtain ⟨hk, ha, hb, hc, hdd⟩ := evB_bounds he
  clear he
  obtain ⟨k, a, b, c, d⟩ := p
  simp only at hk ha hb hc hdd HE
  rw [inB_true] at hk
  obtain ⟨K, rfl⟩ : ∃ K : Nat, k = K := ⟨k.toNat, by omega⟩
  obtain ⟨W, HW⟩ : ∃ W, Hid (W = w.alloc (.cells #[.int .i64 K, .int .i64 a, .int .i64 b, .int .i64 c, .int .i64 d] 38)) := ⟨_, hide rfl⟩
  have hR : Row W w.heap.size 38 [.int .i64 K, .int .i64 a, .int .i64 b, .int .i64 c, .int .i64 d] := by rw [HW.out]; exact Row.new _ _ _
  have hx0 : Ext w W := by rw [HW.out]; exact Ext.alloc _ _
  have hG := hg.ext hx0
  have hwd := hG.words K (by omega)
  rw [if_neg (by omega)] at hwd
  have hlt := hR.lt
  have x0 := hR.cell 0
  have x1 := hR.cell 1
  have x2 := hR.cell 2
  have x3 := hR.cell 3
  have x4 := hR.cell 4
  simp only [List.getElem?_cons_zero, List.getElem?_cons_succ] at x0 x1 x2 x3 x4
  have hz0 : 0 < W.heap.size := by omega
  have hwl := evWord_len K
  have hsz1 : (mkB (evWord K)).size ≤ 8 := hwl
  generalize hwe : evWord K = wd at *
  go_enter Tryd.func42, Tryd.ntmps42
  go_wp2_with fail
  rw [← HW.out]
  refine wp_region_ph [([0, 1, 2, 3, 4, 5, 6, 7, 8, 9, 10, 11, 12], 13), ([], 14)] [15, 16] (by kernel_rfl) (by kernel_rfl) (by intro c a w d v h; cases d <;> exact h) ?_
  simp only [wpPh, pickL, nthO]
  repeat (go_big_quiet_step (fail))
  refine wpQuiet_nil ?_
  go_wp2_with fail
  have hx1 : Ext W (W.alloc (.cells #[.int .i64 a, .int .i64 b, .int .i64 c, .int .i64 d] 2)).drew := (Ext.alloc _ _).drew
  have hrow : RowOf (W.alloc (.cells #[.int .i64 a, .int .i64 b, .int .i64 c, .int .i64 d] 2)).drew W.heap.size 2 intC [a, b, c, d] := (Row.new W 2 [.int .i64 a, .int .i64 b, .int .i64 c, .int .i64 d]).drew
  refine ⟨Ext.alloc W.drew _, wpQuiet_nil ?_⟩
  have hG1 := hG.ext hx1
  generalize (W.alloc (.cells #[.int .i64 a, .int .i64 b, .int .i64 c, .int .i64 d] 2)).drew = W1 at *
  go_wp2_with fail
  have hjl : (join ([a, b, c, d].map itoa) [32]).length ≤ hd.length := by rw [HE.out]; simp; omega
  refine (c_joinNumbers (some ⟨W.heap.size, 0, none⟩) 4 4 [a, b, c, d] [32] _ (hrow.slice intC_len rfl (by omega)) (by omega) (by intro x hx; simp at hx; omega) (by omega) hG1).mono ?_
  rintro e w2 ⟨rfl, hx2⟩
  generalize hjn : join ([a, b, c, d].map itoa) [32] = jn at *
  go_wp2_with fail
  refine ⟨hx2, ?_⟩
  have HJN := hide hjn
  have HWE := hide hwe
  clear hjn hwe
  have h12 : mkB wd ++ (⟨#[32]⟩ : ByteArray) = mkB (wd ++ [32]) := mkB_append wd [32]
  rw [h12]
  have q1 : (mkB (wd ++ [32])).size ≤ 9 := by rw [mkB_size]; simp; omega
  have q2 : (mkB jn).size ≤ 4000000100 := by rw [mkB_size]; omega
  have h23 : mkB (wd ++ [32]) ++ mkB jn = mkB hd := by rw [mkB_append, HE.out]; simp
  clear h12
  have H23 := hide h23
  clear h23
  repeat (go_big_quiet_step (fail))
  refine wpQuiet_nil ?_
  rw [H23.out]
  have q3 : (mkB hd).size = hd.length := rfl
  have hsz : hd.length ≤ 4000000100 := hhl
  have hG2 := hG1.ext hx2
  have hX2 := hx0.trans (hx1.trans hx2)
  clear x0 x1 x2 x3 x4 hlt hwd hR hG hrow hx0 hx1 hz0
  go_wp2_with fail
  go_loop [1, 7] (fun v i => ∃ (j : Nat) (z : Int), j ≤ hd.length ∧ i = .int .i64 j ∧ v = .int .i64 z ∧ 0 ≤ z ∧ z < 99991 ∧ Hid (sumL z (hd.drop j) = sm)) (fun _ i => hd.length - (intOf i).toNat)
  case atStart => exact ⟨0, s, Nat.zero_le _, rfl, rfl, s0, s1, hide (by rw [HSE.out]; rfl)⟩
  case round =>
    obtain ⟨j, z, hj, rfl, rfl, z0, z1, HZ⟩ := hrel
    by_cases hjl : j < hd.length
    · obtain ⟨ch, hch⟩ : ∃ ch, hd[j]? = some ch := ⟨_, List.getElem?_eq_getElem hjl⟩
      have hat := str_at hd j ch hch w2
      have HCH := hide hch
      clear hch
      have hcb : (ch.toNat : Int) < 256 := by have := ch.toNat_lt; omega
      have hc0 : 0 ≤ (ch.toNat : Int) := by omega
      generalize hcn : (ch.toNat : Int) = cn at *
      have HCN := hide hcn
      clear hcn
      go_wp2_with fail
      go_round
      case rel => exact ⟨j + 1, (257 * z + cn + 1) % 99991, by omega, by go_num, by go_num, Int.emod_nonneg _ (by omega), Int.emod_lt_of_pos _ (by omega), hide (by rw [← HZ.out, sumL_drop hd j ch z HCH.out, HCN.out])⟩
      case measure => simp [intOf]; omega
    · obtain rfl : j = hd.length := by omega
      have HZ2 := hide (show z = sm by have := HZ.out; rwa [List.drop_length] at this)
      clear HZ
      go_wp2_with fail
      refine (c_decimal z (by omega) (by omega) _ hG2).mono ?_
      rintro e w3 ⟨rfl, hx3⟩
      have g1 : mkB hd ++ (⟨#[32]⟩ : ByteArray) = mkB (hd ++ [32]) := mkB_append hd [32]
      rw [g1]
      have il := itoa_len z (by omega) (by omega)
      have q4 : (mkB (hd ++ [32])).size ≤ 4000000101 := by rw [mkB_size]; simp; omega
      have q5 : (mkB (itoa z)).size ≤ 1000000010 := il
      have q6 : (mkB (hd ++ [32]) ++ mkB (itoa z)).size ≤ 5000000111 := by rw [ByteArray.size_append]; omega
      have hend : mkB (hd ++ [32]) ++ mkB (itoa z) ++ (⟨#[10]⟩ : ByteArray) = mkB (ln ++ [10]) := by
        rw [mkB_append]
        show _ ++ mkB [10] = _
        rw [mkB_append, HL.out, HZ2.out]
        simp
      have HEND := hide hend
      clear g1 hend
      go_wp2_with fail
      rw [HEND.out]
      exact bodyPost_ret (v := .tuple #[.string (mkB (ln ++ [10])), .int .i64 z]) (by simp [results, Tryd.results42, go_sem]) rfl (Ret.of (by rw [HZ2.out]) (hX2.trans hx3))
end Go.Proofs.YtglbiddddflmeaaDoor
