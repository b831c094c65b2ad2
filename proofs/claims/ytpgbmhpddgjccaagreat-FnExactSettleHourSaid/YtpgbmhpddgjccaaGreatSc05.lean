/-
  SettleHour of the program, exactly. The helpers of the laws on terms: copying, comparing, measuring. The helpers of the laws on terms: toTerms, eqTierS, eqTerms. The helpers of the laws on Order: copying, comparing, measuring, marking.
-/
import Derived.Test.YtpgbmhpddgjccaaGreatSc04
import Derived.Test.YtpgbmhpddgjccaaGreatSc03
import Derived.Test.YtpgbmhpddgjccaaGreatSc00
import Derived.Test.YtpgbmhpddgjccaaGreatSa01
import Derived.Test.YtpgbmhpddgjccaaGreatSa23
import Derived.Test.YtpgbmhpddgjccaaGreatSa26
namespace Go.Proofs.YtpgbmhpddgjccaaGreat
open Go.RowKit
/-- a settlement of the call's own, and a code -/
def RetSK (p : Stl × Int) (w : World) (e : Ending) (w' : World) : Prop :=
  ∃ (A0 A1 A2 A3 A4 : Option Addr) (n0 c0 n1 c1 n2 c2 n3 c3 n4 c4 : Nat) (X : Stl) (z : Int), e = .returned (.tuple #[.agg #[.slice A0 n0 c0, .slice A1 n1 c1, .slice A2 n2 c2, .slice A3 n3 c3, .slice A4 n4 c4], .int .i64 z]) ∧ StlOwn w' w.heap.size A0 A1 A2 A3 A4 n0 c0 n1 c1 n2 c2 n3 c3 n4 c4 X ∧ Ext w w' ∧ Hid ((X, z) = p)
theorem OwnA.nil0 {α : Type} {w : World} {t : TypeId} {f : α → List Value} : OwnA w t f none 0 0 ([] : List α) := ⟨rfl, Nat.le_refl _, by omega, fun h => absurd h (by omega)⟩
theorem own_zero (w : World) (lo : Nat) : StlOwn w lo none none none none none 0 0 0 0 0 0 0 0 0 0 zeroS :=
  ⟨OwnA.nil0, OwnA.nil0, OwnA.nil0, OwnA.nil0, OwnA.nil0, fun b hb => by simp [blkOf] at hb, fun i j b _ hi _ => by
    match i, hi with
    | 0, h => simp [blkOf] at h
    | 1, h => simp [blkOf] at h
    | 2, h => simp [blkOf] at h
    | 3, h => simp [blkOf] at h
    | 4, h => simp [blkOf] at h
    | n + 5, h => simp at h⟩
theorem rdB_one {n1 : Nat} {R : Option Addr} {nr cr : Nat} {rd : List Reading} : rdB n1 [⟨R, nr, cr, rd⟩] = readsB n1 rd := by simp [rdB]
theorem StlOwn.low {w : World} {lo lo' : Nat} {A0 A1 A2 A3 A4 : Option Addr} {n0 c0 n1 c1 n2 c2 n3 c3 n4 c4 : Nat} {X : Stl} (h : StlOwn w lo A0 A1 A2 A3 A4 n0 c0 n1 c1 n2 c2 n3 c3 n4 c4 X) (hl : lo' ≤ lo) : StlOwn w lo' A0 A1 A2 A3 A4 n0 c0 n1 c1 n2 c2 n3 c3 n4 c4 X :=
  ⟨h.o0, h.o1, h.o2, h.o3, h.o4, fun b hb => Nat.le_trans hl (h.lo b hb), h.sep⟩
set_option maxHeartbeats 2000000 in
theorem c_SettleHour (A1 A2 : Option Addr) (n1 c1 n2 c2 : Nat) (ns : List Node) (ps : List Pipe) (A : Option Addr) (n c : Nat) (xs : List Contract) (B : Option Addr) (m d : Nat) (L : List Nomination) (h : Int) (R : Option Addr) (nr cr : Nat) (rd : List Reading) (band percent price : Int) (K : Option Addr) (kn kc : Nat) (ts : List Tier) (w : World) (hs1 : SliceOf w 3 Node.cells A1 n1 c1 ns) (hs2 : SliceOf w 5 Pipe.cells A2 n2 c2 ps) (hs : SliceOf w 8 Contract.cells A n c xs) (hL : SliceOf w 4 Nomination.cells B m d L) (hR : SliceOf w 2 Reading.cells R nr cr rd) (hK : SliceOf w 2 Tier.cells K kn kc ts) : Calls Tryz.prog 42 #[.agg #[.slice A1 n1 c1, .slice A2 n2 c2], .slice A n c, .slice B m d, .int .i64 h, .slice R nr cr, .agg #[.int .i64 band, .int .i64 percent, .int .i64 price, .slice K kn kc]] w (RetSK (shV n1 ns ps xs L h rd band percent price ts) w) := by
  obtain ⟨W0, HW0⟩ : ∃ W0, Hid ((((w.alloc (.cells #[.slice A1 n1 c1, .slice A2 n2 c2] 45)).alloc (.cells #[.int .i64 band, .int .i64 percent, .int .i64 price, .slice K kn kc] 73)).alloc (.cells #[.slice none 0 0, .slice none 0 0, .slice none 0 0, .slice none 0 0, .slice none 0 0] 28)) = W0) := ⟨_, hide rfl⟩
  have hN : Row W0 w.heap.size 45 [.slice A1 n1 c1, .slice A2 n2 c2] := by rw [← HW0.out]; exact ((Row.new w 45 [.slice A1 n1 c1, .slice A2 n2 c2]).ext (Ext.alloc _ _)).ext (Ext.alloc _ _)
  have hT : Row W0 (w.heap.size + 1) 73 [.int .i64 band, .int .i64 percent, .int .i64 price, .slice K kn kc] := by rw [← HW0.out]; exact (Row.newG (W := (w.alloc (.cells #[.slice A1 n1 c1, .slice A2 n2 c2] 45))) _ [.int .i64 band, .int .i64 percent, .int .i64 price, .slice K kn kc] (by simp)).ext (Ext.alloc _ _)
  have hS : Row W0 (w.heap.size + 2) 28 [.slice none 0 0, .slice none 0 0, .slice none 0 0, .slice none 0 0, .slice none 0 0] := by rw [← HW0.out]; exact Row.newG (W := ((w.alloc (.cells #[.slice A1 n1 c1, .slice A2 n2 c2] 45)).alloc (.cells #[.int .i64 band, .int .i64 percent, .int .i64 price, .slice K kn kc] 73))) _ [.slice none 0 0, .slice none 0 0, .slice none 0 0, .slice none 0 0, .slice none 0 0] (by simp)
  have hx0 : Ext w W0 := by rw [← HW0.out]; exact ((Ext.alloc _ _).and_alloc _).and_alloc _
  have hz0 : w.heap.size + 3 = W0.heap.size := by rw [← HW0.out]; simp
  have hm1 : n1 ≤ 9223372036854775807 := Nat.le_trans hs1.cap hs1.max
  have hb0 := hN.cell 0
  have hb1 := hN.cell 1
  simp at hb0 hb1
  have hbl := hN.lt
  obtain ⟨Z, HZ⟩ : ∃ Z, Hid (shC n1 ns ps xs L h rd band percent price ts = Z) := ⟨_, hide rfl⟩
  have HBAD : Hid (Z ≠ 0 → shV n1 ns ps xs L h rd band percent price ts = (zeroS, Z)) := hide (fun h => by unfold shV; rw [HZ.out, if_neg h])
  go_enter Tryz.func42, Tryz.ntmps42
  go_wp2_with fail
  rw [HW0.out]
  refine (c_IsNetwork A1 A2 n1 c1 n2 c2 ns ps _ (hs1.ext hx0) (hs2.ext hx0)).mono ?_
  cases hnet : netB ns ps
  · have hZ1 : Z = 1 := by rw [← HZ.out]; unfold shC; rw [if_pos hnet]
    have HR : Hid (shV n1 ns ps xs L h rd band percent price ts = (zeroS, 1)) := hide (by rw [HBAD.out (by omega), hZ1])
    clear hnet hZ1
    rintro e w1 ⟨rfl, hx1⟩
    have hSr := hS.ext hx1
    have r0 := hSr.cell 0
    have r1 := hSr.cell 1
    have r2 := hSr.cell 2
    have r3 := hSr.cell 3
    have r4 := hSr.cell 4
    simp at r0 r1 r2 r3 r4
    have rf := hSr.frozen
    have rl := hSr.lt
    have hRF := five_rowS (u0 := .slice none 0 0) (u1 := .slice none 0 0) (u2 := .slice none 0 0) (u3 := .slice none 0 0) (u4 := .slice none 0 0) hSr
    have tS := Turn.fiveS (g := w.heap.size + 2) w1 (.slice none 0 0) (.slice none 0 0) (.slice none 0 0) (.slice none 0 0) (.slice none 0 0)
    have f0 := hRF.cell 0
    have f1 := hRF.cell 1
    have f2 := hRF.cell 2
    have f3 := hRF.cell 3
    have f4 := hRF.cell 4
    simp at f0 f1 f2 f3 f4
    have HXF := hide ((hx0.trans hx1).turn tS (fun b hb => by omega))
    clear hRF tS hSr
    go_wp2_with fail
    refine bodyPost_ret (v := .tuple #[.agg #[.slice none 0 0, .slice none 0 0, .slice none 0 0, .slice none 0 0, .slice none 0 0], .int .i64 1]) (by simp [results, Tryz.results42, go_sem, f0, f1, f2, f3, f4]) rfl ?_
    exact ⟨_, _, _, _, _, _, _, _, _, _, _, _, _, _, _, zeroS, _, rfl, own_zero _ _, HXF.out, hide HR.out.symm⟩
  rintro e w1 ⟨rfl, hx1⟩
  have HNT := hide hnet
  have HZ2 : Hid ((if isTermsB band percent price ts = false then 1 else setV n1 xs (readsB n1 rd) L h) = Z) := hide (by rw [← HZ.out]; unfold shC; rw [hnet]; rfl)
  clear hnet hb0 hb1 hbl
  have hTr := hT.ext hx1
  have y0 := hTr.cell 0
  have y1 := hTr.cell 1
  have y2 := hTr.cell 2
  have y3 := hTr.cell 3
  simp at y0 y1 y2 y3
  have hyl := hTr.lt
  have hX1 := hx0.trans hx1
  go_wp2_with fail
  refine (c_isTerms band percent price K kn kc ts _ (hK.ext hX1)).mono ?_
  cases hte : isTermsB band percent price ts
  · have hZ1 : Z = 1 := by rw [← HZ2.out, if_pos hte]
    have HR : Hid (shV n1 ns ps xs L h rd band percent price ts = (zeroS, 1)) := hide (by rw [HBAD.out (by omega), hZ1])
    clear hte hZ1 y0 y1 y2 y3 hyl hTr
    rintro e w2 ⟨rfl, hx2⟩
    have hx02 := hx1.trans hx2
    have hSr := hS.ext hx02
    have r0 := hSr.cell 0
    have r1 := hSr.cell 1
    have r2 := hSr.cell 2
    have r3 := hSr.cell 3
    have r4 := hSr.cell 4
    simp at r0 r1 r2 r3 r4
    have rf := hSr.frozen
    have rl := hSr.lt
    have hRF := five_rowS (u0 := .slice none 0 0) (u1 := .slice none 0 0) (u2 := .slice none 0 0) (u3 := .slice none 0 0) (u4 := .slice none 0 0) hSr
    have tS := Turn.fiveS (g := w.heap.size + 2) w2 (.slice none 0 0) (.slice none 0 0) (.slice none 0 0) (.slice none 0 0) (.slice none 0 0)
    have f0 := hRF.cell 0
    have f1 := hRF.cell 1
    have f2 := hRF.cell 2
    have f3 := hRF.cell 3
    have f4 := hRF.cell 4
    simp at f0 f1 f2 f3 f4
    have HXF := hide ((hx0.trans hx02).turn tS (fun b hb => by omega))
    clear hRF tS hSr
    go_wp2_with fail
    refine bodyPost_ret (v := .tuple #[.agg #[.slice none 0 0, .slice none 0 0, .slice none 0 0, .slice none 0 0, .slice none 0 0], .int .i64 1]) (by simp [results, Tryz.results42, go_sem, f0, f1, f2, f3, f4]) rfl ?_
    exact ⟨_, _, _, _, _, _, _, _, _, _, _, _, _, _, _, zeroS, _, rfl, own_zero _ _, HXF.out, hide HR.out.symm⟩
  rintro e w2 ⟨rfl, hx2⟩
  have HTE := hide hte
  have HZ3 : Hid (setV n1 xs (readsB n1 rd) L h = Z) := hide (by rw [← HZ2.out, if_neg (by rw [hte]; decide)])
  clear hte y0 y1 y2 y3 hyl hTr
  have hx02 := hx1.trans hx2
  have hX2 := hx0.trans hx02
  have hNr := hN.ext hx02
  have hb0 := hNr.cell 0
  have hb1 := hNr.cell 1
  simp at hb0 hb1
  have hbl := hNr.lt
  obtain ⟨W3, HW3⟩ : ∃ W3, Hid (w2.alloc (.cells #[.slice R nr cr] 60) = W3) := ⟨_, hide rfl⟩
  have hx3 : Ext w2 W3 := by rw [← HW3.out]; exact Ext.alloc _ _
  have hX3 := hX2.trans hx3
  have hsr : SliceOf W3 1 RS.cells (some ⟨w2.heap.size, 0, none⟩) 1 1 [⟨R, nr, cr, rd⟩] := by rw [← HW3.out]; exact new_one rs_len w2 60 _
  have HRS : Hid (∀ q ∈ ([⟨R, nr, cr, rd⟩] : List RS), SliceOf W3 2 Reading.cells q.A q.n q.c q.xs) := hide (fun q hq => by rw [List.mem_singleton] at hq; subst hq; exact hR.ext hX3)
  go_wp2_with fail
  rw [HW3.out]
  refine (c_checkSettle A1 A2 n1 c1 n2 c2 ns ps A n c xs B m d L h _ (hs1.ext hX3) (hs2.ext hX3) (hs.ext hX3) (hL.ext hX3) HNT.out (some ⟨w2.heap.size, 0, none⟩) 1 1 _ hsr HRS.out).mono ?_
  rw [rdB_one, HZ3.out]
  rintro e w5 ⟨rfl, hx5⟩
  clear hb0 hb1 hbl hNr hsr
  have hx05 := (hx02.trans hx3).trans hx5
  have hX5 := hx0.trans hx05
  by_cases h0 : Z = 0
  · subst h0
    have HKR := hide (setV_ok HNT.out HZ3.out)
    have HR : Hid (shV n1 ns ps xs L h rd band percent price ts = (stlH ps n1 xs L h rd band percent price ts, 0)) := hide (by unfold shV; rw [if_pos HZ.out])
    have hNr := hN.ext hx05
    have hb0 := hNr.cell 0
    have hb1 := hNr.cell 1
    simp at hb0 hb1
    have hbl := hNr.lt
    have hTr := hT.ext hx05
    have y0 := hTr.cell 0
    have y1 := hTr.cell 1
    have y2 := hTr.cell 2
    have y3 := hTr.cell 3
    simp at y0 y1 y2 y3
    have hyl := hTr.lt
    go_wp2_with fail
    refine (c_settleHour A1 A2 n1 c1 n2 c2 ns ps A n c xs B m d L h R nr cr rd band percent price K kn kc ts _ (hs1.ext hX5) (hs2.ext hX5) (hs.ext hX5) (hL.ext hX5) (hR.ext hX5) (hK.ext hX5) HKR.out.2 HKR.out.1 (valid_of HTE.out)).mono ?_
    rintro e w6 ⟨A0, A1', A2', A3, A4, m0, d0, m1, d1, m2, d2, m3, d3, m4, d4, rfl, hX, hx6⟩
    clear hb0 hb1 hbl hNr y0 y1 y2 y3 hyl hTr
    have hz5 := hX5.size
    have hz05 := hx05.size
    have hSr := hS.ext (hx05.trans hx6)
    have r0 := hSr.cell 0
    have r1 := hSr.cell 1
    have r2 := hSr.cell 2
    have r3 := hSr.cell 3
    have r4 := hSr.cell 4
    simp at r0 r1 r2 r3 r4
    have rf := hSr.frozen
    have rl := hSr.lt
    have hRF := five_rowS (u0 := .slice A0 m0 d0) (u1 := .slice A1' m1 d1) (u2 := .slice A2' m2 d2) (u3 := .slice A3 m3 d3) (u4 := .slice A4 m4 d4) hSr
    have tS := Turn.fiveS (g := w.heap.size + 2) w6 (.slice A0 m0 d0) (.slice A1' m1 d1) (.slice A2' m2 d2) (.slice A3 m3 d3) (.slice A4 m4 d4)
    have f0 := hRF.cell 0
    have f1 := hRF.cell 1
    have f2 := hRF.cell 2
    have f3 := hRF.cell 3
    have f4 := hRF.cell 4
    simp at f0 f1 f2 f3 f4
    have HXF := hide ((hX5.trans hx6).turn tS (fun b hb => by omega))
    have HXA := hide ((hX.turn tS (fun b hb => by omega)).low hz5)
    clear hRF tS hSr hX
    go_wp2_with fail
    refine bodyPost_ret (v := .tuple #[.agg #[.slice A0 m0 d0, .slice A1' m1 d1, .slice A2' m2 d2, .slice A3 m3 d3, .slice A4 m4 d4], .int .i64 0]) (by simp [results, Tryz.results42, go_sem, f0, f1, f2, f3, f4]) rfl ?_
    exact ⟨_, _, _, _, _, _, _, _, _, _, _, _, _, _, _, _, _, rfl, HXA.out, HXF.out, hide HR.out.symm⟩
  · have HR : Hid (shV n1 ns ps xs L h rd band percent price ts = (zeroS, Z)) := hide (HBAD.out h0)
    have hb : (Z != 0) = true := by rw [bne_iff_ne]; exact h0
    have hSr := hS.ext hx05
    have r0 := hSr.cell 0
    have r1 := hSr.cell 1
    have r2 := hSr.cell 2
    have r3 := hSr.cell 3
    have r4 := hSr.cell 4
    simp at r0 r1 r2 r3 r4
    have rf := hSr.frozen
    have rl := hSr.lt
    have hRF := five_rowS (u0 := .slice none 0 0) (u1 := .slice none 0 0) (u2 := .slice none 0 0) (u3 := .slice none 0 0) (u4 := .slice none 0 0) hSr
    have tS := Turn.fiveS (g := w.heap.size + 2) w5 (.slice none 0 0) (.slice none 0 0) (.slice none 0 0) (.slice none 0 0) (.slice none 0 0)
    have f0 := hRF.cell 0
    have f1 := hRF.cell 1
    have f2 := hRF.cell 2
    have f3 := hRF.cell 3
    have f4 := hRF.cell 4
    simp at f0 f1 f2 f3 f4
    have HXF := hide ((hx0.trans hx05).turn tS (fun b hb => by omega))
    clear hRF tS hSr
    go_wp2_with fail
    refine bodyPost_ret (v := .tuple #[.agg #[.slice none 0 0, .slice none 0 0, .slice none 0 0, .slice none 0 0, .slice none 0 0], .int .i64 Z]) (by simp [results, Tryz.results42, go_sem, f0, f1, f2, f3, f4]) rfl ?_
    exact ⟨_, _, _, _, _, _, _, _, _, _, _, _, _, _, _, zeroS, _, rfl, own_zero _ _, HXF.out, hide HR.out.symm⟩
end Go.Proofs.YtpgbmhpddgjccaaGreat

namespace Go.Proofs.YtpgbmhpddgjccaaGreat
open Go.RowKit

theorem c_toTier (u f : Int) (w : World) :
    Calls Tryz.prog 205 #[.agg #[.int .i64 u, .int .i64 f]] w (Ret (.agg #[.int .i64 u, .int .i64 f]) w) := by
  go_enter Tryz.func205, Tryz.ntmps205
  go_wp2
  exact bodyPost_ret (v := .agg #[.int .i64 u, .int .i64 f]) (by simp [results, Tryz.results205, go_sem]) rfl ⟨rfl, (((Ext.refl _).and_alloc _).and_alloc _).and_alloc _⟩

theorem c_eqTier (u f u' f' : Int) (w : World) :
    Calls Tryz.prog 206 #[.agg #[.int .i64 u, .int .i64 f], .agg #[.int .i64 u', .int .i64 f']] w (Ret (.bool (decide (u = u') && decide (f = f'))) w) := by
  go_enter Tryz.func206, Tryz.ntmps206
  go_wp2
  all_goals
    go_ret
    refine Ret.bool ?_ (((Ext.refl _).and_alloc _).and_alloc _)
    simp_all

theorem c_szTierS (A : Option Addr) (n c : Nat) (left : Int) (w : World) (hn : n ≤ c) (hc : c ≤ 9223372036854775807) (h0 : 0 ≤ left) (h1 : left ≤ 1048576) :
    Calls Tryz.prog 134 #[.slice A n c, .int .i64 left] w fun e w' => e = .returned (.int .i64 (if left < n then -1 else left - n)) ∧ w = w' := by
  go_enter Tryz.func134, Tryz.ntmps134
  go_wp2
  all_goals
    go_ret
    simp <;> omega

theorem c_szTerms (band percent price left : Int) (A : Option Addr) (n c : Nat) (w : World) (hn : n ≤ c) (hc : c ≤ 9223372036854775807) (h0 : 0 ≤ left) (h1 : left ≤ 1048576) :
    Calls Tryz.prog 53 #[.agg #[.int .i64 band, .int .i64 percent, .int .i64 price, .slice A n c], .int .i64 left] w (Ret (.int .i64 (if left < n then -1 else left - n)) w) := by
  go_enter Tryz.func53, Tryz.ntmps53
  go_wp2_with (go_at_call 134; refine (c_szTierS _ _ _ _ _ hn hc h0 h1).mono ?_; rintro e w' ⟨rfl, rfl⟩)
  all_goals
    go_ret
    refine Ret.int ?_ (Ext.alloc _ _)
    first | omega | rfl

theorem tier_len (t : Tier) : t.cells.length = 2 := rfl
theorem tier_info : (Tryz.prog.info? 70).map (fun i => (i.zero, i.size, i.bytes)) = some (some (.agg #[.int .i64 0, .int .i64 0]), 2, 16) := by kernel_rfl

set_option maxHeartbeats 1000000 in
theorem c_toTierS (A : Option Addr) (n c : Nat) (ts : List Tier) (w : World) (hs : SliceOf w 2 Tier.cells A n c ts) (hn : n ≤ 1048576) :
    Calls Tryz.prog 135 #[.slice A n c] w (NewRow 70 Tier.cells ts w) := by
  have hmk := fun W => run_make_flat (P := Tryz.prog) 71 70 _ _ 2 16 Tryz.underlying71 tier_info (f := Tier.cells) ⟨0, 0⟩ rfl rfl rfl (by omega) n (by omega) (by omega) W
  have hR0 := Row.new w 70 ((List.replicate n (⟨0, 0⟩ : Tier)).flatMap Tier.cells)
  go_enter Tryz.func135, Tryz.ntmps135
  go_wp2_with fail
  go_loopw [4] (fun i wr => ∃ (k : Nat) (L : List Tier), k ≤ n ∧ i = .int .i64 k ∧ L.length = n ∧ RowOf wr w.heap.size 70 Tier.cells L ∧ Hid (∀ j, j < k → L[j]? = ts[j]?) ∧ Ext w wr) (fun i _ => n - (intOf i).toNat)
  case atStart => exact ⟨0, _, Nat.zero_le _, rfl, List.length_replicate, hR0, hide (fun j hj => absurd hj (by omega)), Ext.alloc _ _⟩
  case round =>
    obtain ⟨k, L, hk, rfl, hL, hrow, HK, hx⟩ := hrel
    clear hR0 hmk
    have hgs := hrow.lt
    by_cases hlt : k < n
    · obtain ⟨b, off, x, rfl, hb, hxk, hc⟩ := (hs.ext hx).get hlt
      have hc0 := hc 0 _ rfl
      have hc1 := hc 1 _ rfl
      clear hc
      simp only [Nat.add_zero] at hc0
      have Hx := hide hxk
      have HL := hide hL
      clear hxk hL
      go_wp2_with (go_at_call 205; refine (c_toTier _ _ _).mono ?_; rintro e w1 ⟨rfl, hx1⟩; have hrow1 := hrow.ext hx1; obtain ⟨v0, hv0⟩ := hrow1.there tier_len (i := k) (by rw [HL.out]; exact hlt) (j := 0) (by omega); obtain ⟨v1, hv1⟩ := hrow1.there tier_len (i := k) (by rw [HL.out]; exact hlt) (j := 1) (by omega); have hf0 := hrow1.frozen (k * 2); have hf1 := hrow1.frozen (k * 2 + 1); rw [Nat.add_zero] at hv0)
      go_roundw
      case rel =>
        refine ⟨k + 1, L.set k x, by omega, by go_num, by simpa using HL.out, hrow1.put tier_len (by rw [HL.out]; exact hlt) x, hide ?_, (hx.trans hx1).put (Nat.le_refl _) (k * 2) x.cells⟩
        intro j hj
        rw [List.getElem?_set]
        by_cases e : k = j
        · subst e; rw [if_pos rfl, if_pos (by rw [HL.out]; exact hlt), Hx.out]
        · rw [if_neg e]; exact HK.out j (by omega)
      case measure => simp [intOf]; omega
    · go_wp2
      go_ret
      have hLts : L = ts := by
        apply List.ext_getElem?
        intro j
        by_cases hj : j < n
        · exact HK.out j (by omega)
        · rw [List.getElem?_eq_none (by omega), List.getElem?_eq_none (by have := hs.len; omega)]
      subst hLts
      refine ⟨w.heap.size, ?_, Nat.le_refl _, hrow, hx⟩
      rw [hL]; rfl

end Go.Proofs.YtpgbmhpddgjccaaGreat

namespace Go.Proofs.YtpgbmhpddgjccaaGreat
open Go.RowKit

/-- a new copy of terms -/
def NewTerms (band percent price : Int) (ts : List Tier) (w : World) (e : Ending) (w' : World) : Prop :=
  ∃ g, e = .returned (.agg #[.int .i64 band, .int .i64 percent, .int .i64 price, .slice (some ⟨g, 0, none⟩) ts.length ts.length]) ∧ w.heap.size ≤ g ∧ RowOf w' g 70 Tier.cells ts ∧ Ext w w'

theorem c_toTerms (band percent price : Int) (A : Option Addr) (n c : Nat) (ts : List Tier) (w : World) (hs : SliceOf w 2 Tier.cells A n c ts) (hn : n ≤ 1048576) :
    Calls Tryz.prog 55 #[.agg #[.int .i64 band, .int .i64 percent, .int .i64 price, .slice A n c]] w (NewTerms band percent price ts w) := by
  go_enter Tryz.func55, Tryz.ntmps55
  go_wp2_with fail
  refine (c_toTierS A n c ts _ (hs.ext (((Ext.alloc _ _).and_alloc _).and_alloc _)) hn).mono ?_
  rintro e w1 ⟨g, rfl, hg, hrow, hx1⟩
  have hx : Ext w w1 := (((Ext.alloc _ _).and_alloc _).and_alloc _).trans hx1
  have hcl := hx1.cell
  have hfr := hx1.frozen
  have hz := hx1.size
  simp at hz hg
  go_wp2
  refine bodyPost_ret (v := .agg #[.int .i64 band, .int .i64 percent, .int .i64 price, .slice (some ⟨g, 0, none⟩) ts.length ts.length]) (by simp [results, Tryz.results55, go_sem, hcl]) rfl ⟨g, rfl, by omega, ?_, ?_⟩
  · repeat (refine RowOf.far ?_ (by first | (simp; done) | (simp; omega) | omega) _)
    exact hrow
  · repeat (refine Ext.setCell ?_ (by first | (simp; done) | (simp; omega) | omega) _)
    exact hx

set_option maxHeartbeats 1000000 in
theorem c_eqTierS (A A' : Option Addr) (n c n' c' : Nat) (ts : List Tier) (w : World) (hs : SliceOf w 2 Tier.cells A n c ts) (hs' : SliceOf w 2 Tier.cells A' n' c' ts) :
    Calls Tryz.prog 137 #[.slice A n c, .slice A' n' c'] w (Ret (.bool true) w) := by
  have hl := hs.len
  obtain rfl : n = n' := by rw [hs.len, hs'.len]
  have hm := hs.max
  have hcp := hs.cap
  clear hl
  go_enter Tryz.func137, Tryz.ntmps137
  go_wp2_with fail
  go_loopw [5] (fun i wr => ∃ (k : Nat), k ≤ n ∧ i = .int .i64 k ∧ Ext w wr) (fun i _ => n - (intOf i).toNat)
  case atStart => exact ⟨0, Nat.zero_le _, rfl, Ext.refl _⟩
  case round =>
    obtain ⟨k, hk, rfl, hx⟩ := hrel
    by_cases hlt : k < n
    · obtain ⟨b, off, x, rfl, hb, hxk, hc⟩ := (hs.ext hx).get hlt
      obtain ⟨b', off', x', rfl, hb', hxk', hc'⟩ := (hs'.ext hx).get hlt
      obtain rfl : x = x' := by rw [hxk] at hxk'; injection hxk'
      have hc0 := hc 0 _ rfl
      have hc1 := hc 1 _ rfl
      have hd0 := hc' 0 _ rfl
      have hd1 := hc' 1 _ rfl
      clear hc hc' hxk hxk'
      simp only [Nat.add_zero] at hc0 hd0
      go_wp2_with fail
      refine wp_region_later (by kernel_rfl) (by kernel_rfl) ?_
      repeat (go_big_quiet_step ((go_at_call 206; exact quiet_later (c_eqTier _ _ _ _ _))))
      refine wpQuiet_nil ?_
      intro w1 hx1
      simp only [decide_true, Bool.and_self]
      go_wp2
      go_roundw
      case rel => exact ⟨k + 1, by omega, by go_num, hx.trans hx1⟩
      case measure => simp [intOf]; omega
    · go_wp2
      go_ret
      exact Ret.bool rfl hx

theorem c_eqTerms (band percent price : Int) (A A' : Option Addr) (n c n' c' : Nat) (ts : List Tier) (w : World) (hs : SliceOf w 2 Tier.cells A n c ts) (hs' : SliceOf w 2 Tier.cells A' n' c' ts) :
    Calls Tryz.prog 58 #[.agg #[.int .i64 band, .int .i64 percent, .int .i64 price, .slice A n c], .agg #[.int .i64 band, .int .i64 percent, .int .i64 price, .slice A' n' c']] w (Ret (.bool true) w) := by
  go_enter Tryz.func58, Tryz.ntmps58
  go_wp2_with (go_at_call 137; refine (c_eqTierS _ _ _ _ _ _ ts _ (hs.ext ((Ext.alloc _ _).and_alloc _)) (hs'.ext ((Ext.alloc _ _).and_alloc _))).mono ?_; rintro e w1 ⟨rfl, hx1⟩)
  go_ret
  exact Ret.bool rfl (hx1.box.box)

end Go.Proofs.YtpgbmhpddgjccaaGreat

namespace Go.Proofs.YtpgbmhpddgjccaaGreat
open Go.RowKit


theorem c_eqOrder (x : Order) (w : World) :
    Calls Tryz.prog 207 #[.agg #[.int .i64 x.shipper, .int .i64 x.node, .int .i64 x.amount, .int .i64 x.cls], .agg #[.int .i64 x.shipper, .int .i64 x.node, .int .i64 x.amount, .int .i64 x.cls]] w (Ret (.bool true) w) := by
  go_enter Tryz.func207, Tryz.ntmps207
  go_wp2
  go_ret
  exact Ret.bool rfl (((Ext.refl _).and_alloc _).and_alloc _)




set_option maxHeartbeats 1000000 in
theorem c_eqOrderS (A A' : Option Addr) (n c n' c' : Nat) (ts : List Order) (w : World) (hs : SliceOf w 4 Order.cells A n c ts) (hs' : SliceOf w 4 Order.cells A' n' c' ts) :
    Calls Tryz.prog 140 #[.slice A n c, .slice A' n' c'] w (Ret (.bool true) w) := by
  have hl := hs.len
  obtain rfl : n = n' := by rw [hs.len, hs'.len]
  have hm := hs.max
  have hcp := hs.cap
  clear hl
  go_enter Tryz.func140, Tryz.ntmps140
  go_wp2_with fail
  go_loopw [5] (fun i wr => ∃ (k : Nat), k ≤ n ∧ i = .int .i64 k ∧ Ext w wr) (fun i _ => n - (intOf i).toNat)
  case atStart => exact ⟨0, Nat.zero_le _, rfl, Ext.refl _⟩
  case round =>
    obtain ⟨k, hk, rfl, hx⟩ := hrel
    by_cases hlt : k < n
    · obtain ⟨b, off, x, rfl, hb, hxk, hc⟩ := (hs.ext hx).get hlt
      obtain ⟨b', off', x', rfl, hb', hxk', hc'⟩ := (hs'.ext hx).get hlt
      obtain rfl : x = x' := by rw [hxk] at hxk'; injection hxk'
      have hc0 := hc 0 _ rfl
      have hc1 := hc 1 _ rfl
      have hc2 := hc 2 _ rfl
      have hc3 := hc 3 _ rfl
      have hd0 := hc' 0 _ rfl
      have hd1 := hc' 1 _ rfl
      have hd2 := hc' 2 _ rfl
      have hd3 := hc' 3 _ rfl
      clear hc hc' hxk hxk'
      simp only [Nat.add_zero] at hc0 hd0
      go_wp2_with fail
      refine wp_region_later (by kernel_rfl) (by kernel_rfl) ?_
      repeat (go_big_quiet_step ((go_at_call 207; exact quiet_later (c_eqOrder x _))))
      refine wpQuiet_nil ?_
      intro w1 hx1
      go_wp2
      go_roundw
      case rel => exact ⟨k + 1, by omega, by go_num, hx.trans hx1⟩
      case measure => simp [intOf]; omega
    · go_wp2
      go_ret
      exact Ret.bool rfl hx


/-- the marks from a number on -/
def markOrder (a : Int) (n : Nat) : List Order := (List.range n).map fun (i : Nat) => ⟨a + 4 * (i : Int), a + 4 * (i : Int) + 1, a + 4 * (i : Int) + 2, a + 4 * (i : Int) + 3⟩
theorem markOrder_at (a : Int) (n i : Nat) (h : i < n) : (markOrder a n)[i]? = some ⟨a + 4 * (i : Int), a + 4 * (i : Int) + 1, a + 4 * (i : Int) + 2, a + 4 * (i : Int) + 3⟩ := by
  unfold markOrder; rw [List.getElem?_map, List.getElem?_range h]; rfl
/-- the row is marked; nothing else has turned -/
def MarkedOrder (g : Nat) (A : Option Addr) (n : Nat) (a : Int) (w : World) (e : Ending) (w' : World) : Prop :=
  e = .returned (.int .i64 (a + 4 * n)) ∧ OwnS w' g 193 Order.cells A n (markOrder a n) ∧ Only g w w'
set_option maxHeartbeats 1000000 in
theorem c_markOrderS (g : Nat) (A : Option Addr) (n c : Nat) (ts : List Order) (a : Int) (w : World) (hown0 : OwnS w g 193 Order.cells A n ts) (hn : n ≤ 1000000000) (hcap : n ≤ c) (hmax : c ≤ 9223372036854775807) (ha0 : 0 ≤ a) (ha1 : a ≤ 1000000000000) :
    Calls Tryz.prog 141 #[.slice A n c, .int .i64 a] w (MarkedOrder g A n a w) := by
  go_enter Tryz.func141, Tryz.ntmps141
  go_wp2_with fail
  go_loopw [1, 5] (fun q i wr => ∃ (k : Nat) (K : Int) (L : List Order), k ≤ n ∧ q = .int .i64 K ∧ i = .int .i64 k ∧ a + 4 * (k : Int) ≤ K ∧ K ≤ a + 4 * (k : Int) ∧ OwnS wr g 193 Order.cells A n L ∧ Hid (∀ j, j < k → L[j]? = (markOrder a n)[j]?) ∧ Only g w wr) (fun _ i _ => n - (intOf i).toNat)
  case atStart => exact ⟨0, a, ts, Nat.zero_le _, rfl, rfl, by omega, by omega, hown0, hide (fun j hj => absurd hj (by omega)), Only.refl _ _⟩
  case round =>
    obtain ⟨k, K, L, hk, rfl, rfl, hK0, hK1, hown, HK, hx⟩ := hrel
    by_cases hlt : k < n
    · have hn0 : 0 < n := by omega
      obtain ⟨rfl, _⟩ := hown.2 hn0
      obtain ⟨v0, hv0⟩ := hown.there order_len (i := k) hlt (j := 0) (by omega)
      have hf0 := hown.frozen hn0 (k * 4)
      obtain ⟨v1, hv1⟩ := hown.there order_len (i := k) hlt (j := 1) (by omega)
      have hf1 := hown.frozen hn0 (k * 4 + 1)
      obtain ⟨v2, hv2⟩ := hown.there order_len (i := k) hlt (j := 2) (by omega)
      have hf2 := hown.frozen hn0 (k * 4 + 2)
      obtain ⟨v3, hv3⟩ := hown.there order_len (i := k) hlt (j := 3) (by omega)
      have hf3 := hown.frozen hn0 (k * 4 + 3)
      rw [Nat.add_zero] at hv0
      have HL := hide hown.1
      go_wp2_with fail
      go_roundw
      case rel =>
        refine ⟨k + 1, _, L.set k ⟨K, K + 1, K + 1 + 1, K + 1 + 1 + 1⟩, by omega, rfl, by go_num, by omega, by omega, hown.put order_len hlt ⟨K, K + 1, K + 1 + 1, K + 1 + 1 + 1⟩, hide ?_, hx.put (k * 4) (Order.cells ⟨K, K + 1, K + 1 + 1, K + 1 + 1 + 1⟩)⟩
        intro j hj
        rw [List.getElem?_set]
        by_cases e : k = j
        · subst e
          rw [if_pos rfl, if_pos (by rw [← HL.out]; exact hlt), markOrder_at _ _ _ hlt]
          congr 2 <;> omega
        · rw [if_neg e]; exact HK.out j (by omega)
      case measure => simp [intOf]; omega
    · go_wp2_with fail
      go_ret
      have hLts : L = markOrder a n := by
        apply List.ext_getElem?
        intro j
        by_cases hj : j < n
        · exact HK.out j (by omega)
        · rw [List.getElem?_eq_none (by have := hown.1; omega), List.getElem?_eq_none (by simp [markOrder]; omega)]
      subst hLts
      refine ⟨?_, hown, hx⟩
      obtain rfl : k = n := by omega
      have : K = a + 4 * (k : Int) := by omega
      rw [← this]; rfl

set_option maxHeartbeats 1000000 in
theorem c_heldOrderS (A : Option Addr) (n c : Nat) (a : Int) (w : World) (hs : SliceOf w 4 Order.cells A n c (markOrder a n)) (hn : n ≤ 1000000000) (ha0 : 0 ≤ a) (ha1 : a ≤ 1000000000000) :
    Calls Tryz.prog 142 #[.slice A n c, .int .i64 a] w fun e w' => e = .returned (.int .i64 (a + 4 * n)) ∧ w = w' := by
  have hcap := hs.cap
  have hmax := hs.max
  go_enter Tryz.func142, Tryz.ntmps142
  go_wp2_with fail
  go_loop [1, 5] (fun q i => ∃ (k : Nat) (K : Int), k ≤ n ∧ q = .int .i64 K ∧ i = .int .i64 k ∧ a + 4 * (k : Int) ≤ K ∧ K ≤ a + 4 * (k : Int)) (fun _ i => n - (intOf i).toNat)
  case atStart => exact ⟨0, a, Nat.zero_le _, rfl, rfl, by omega, by omega⟩
  case round =>
    obtain ⟨k, K, hk, rfl, rfl, hK0, hK1⟩ := hrel
    by_cases hlt : k < n
    · obtain ⟨b, off, x, rfl, hb, hxk, hc⟩ := hs.get hlt
      rw [markOrder_at _ _ _ hlt] at hxk
      obtain rfl : (⟨K, K + 1, K + 1 + 1, K + 1 + 1 + 1⟩ : Order) = x := by
        injection hxk with hxk
        rw [← hxk]
        congr 1 <;> omega
      clear hxk
      have hc0 := hc 0 _ rfl
      have hc1 := hc 1 _ rfl
      have hc2 := hc 2 _ rfl
      have hc3 := hc 3 _ rfl
      clear hc
      simp only [Nat.add_zero] at hc0
      go_wp2_with fail
      go_round
      case rel => exact ⟨k + 1, _, by omega, rfl, by go_num, by omega, by omega⟩
      case measure => simp [intOf]; omega
    · go_wp2_with fail
      go_ret
      obtain rfl : k = n := by omega
      have : K = a + 4 * (k : Int) := by omega
      exact ⟨by rw [← this]; rfl, rfl⟩

end Go.Proofs.YtpgbmhpddgjccaaGreat
