
/-
  The reference's draw of terms with two lists of numbers.
-/
import Derived.Test.YtbkmnoedhilopaaDrawU
import Derived.Test.YtbkmnoedhilopaaAppendB
namespace Go.Proofs.Ytbkmnoedhilopaa
open Go.RowKit
theorem intC_one1 (y : Int) : ∀ u ∈ intC y, u.oneCell' = true := by
  intro u hu
  simp [intC] at hu
  subst hu
  rfl
def zeroC (k : Nat) : List Value := (List.replicate k (0 : Int)).flatMap intC
theorem run_make48 (W : World) : (Instr.makeSlice 40 (.int .i64 48) (.int .i64 48)).run Try.prog W = .ok (.slice (some ⟨W.heap.size, 0, none⟩) 48 48) (W.alloc (.cells (zeroC 48).toArray 2)) :=
  run_make_flat (P := Try.prog) 40 2 _ _ 1 8 Try.underlying40 int_info (f := intC) 0 rfl rfl rfl (by omega) 48 (by omega) (by omega) W
theorem run_make49 (W : World) : (Instr.makeSlice 40 (.int .i64 49) (.int .i64 49)).run Try.prog W = .ok (.slice (some ⟨W.heap.size, 0, none⟩) 49 49) (W.alloc (.cells (zeroC 49).toArray 2)) :=
  run_make_flat (P := Try.prog) 40 2 _ _ 1 8 Try.underlying40 int_info (f := intC) 0 rfl rfl rfl (by omega) 49 (by omega) (by omega) W
theorem zeroC_row (W : World) (k : Nat) : OwnS (W.alloc (.cells (zeroC k).toArray 2)) W.heap.size 2 intC (some ⟨W.heap.size, 0, none⟩) k (List.replicate k 0) := by
  have := OwnS.of_row (t := 2) (f := intC) (xs := List.replicate k 0) (Row.new W 2 (zeroC k))
  simpa using this

/-- terms and two lists of numbers -/
def DrawnT3 (w : World) (e : Ending) (w' : World) : Prop :=
  ∃ (band percent price : Int) (A' : Option Addr) (n' c' : Nat) (ts : List Tier) (A1 : Option Addr) (n1 c1 : Nat) (xs : List Int) (A2 : Option Addr) (n2 c2 : Nat) (ys : List Int), e = .returned (.tuple #[.agg #[.int .i64 band, .int .i64 percent, .int .i64 price, .slice A' n' c'], .slice A1 n1 c1, .slice A2 n2 c2]) ∧
    SliceOf w' 2 Tier.cells A' n' c' ts ∧ SliceOf w' 1 intC A1 n1 c1 xs ∧ SliceOf w' 1 intC A2 n2 c2 ys ∧ Ext w w'
/-- what stands while the lists are drawn -/
structure RSt (w0 w2 : World) (a : Nat) (A : Option Addr) (n c : Nat) (cs6 : List Value) (wr : World) (v1 : Value) (L1 : List Int) (v2 : Value) (L2 : List Int) : Prop where
  le0 : w0.heap.size ≤ a
  lt1 : a < w2.heap.size
  size : w2.heap.size < wr.heap.size
  ext : Ext w0 wr
  src : SrcAt wr a A n c
  only : Only a w2 wr
  row6 : Row wr w2.heap.size 29 cs6
  own1 : OwnL wr (w2.heap.size + 1) 2 1 intC v1 L1
  own2 : OwnL wr (w2.heap.size + 1) 2 1 intC v2 L2
  apart : Apart v1 v2
section
variable {w0 w2 wr wr' : World} {a n c : Nat} {A : Option Addr} {cs6 : List Value} {v1 v2 v' : Value} {L1 L2 L' : List Int}
theorem RSt.draw (h : RSt w0 w2 a A n c cs6 wr v1 L1 v2 L2) (ho : Only a wr wr') (hs : SrcAt wr' a A n c) : RSt w0 w2 a A n c cs6 wr' v1 L1 v2 L2 :=
  ⟨h.le0, h.lt1, Nat.lt_of_lt_of_le h.size ho.size, h.ext.only ho h.le0, hs, h.only.trans ho, h.row6.only ho (by have := h.lt1; omega), h.own1.only ho (by have := h.lt1; omega), h.own2.only ho (by have := h.lt1; omega), h.apart⟩
theorem RSt.more (h : RSt w0 w2 a A n c cs6 wr v1 L1 v2 L2) (hx : Ext wr wr') : RSt w0 w2 a A n c cs6 wr' v1 L1 v2 L2 := h.draw (Only.of_ext hx a) (h.src.ext hx)
theorem RSt.app1 (h : RSt w0 w2 a A n c cs6 wr v1 L1 v2 L2) (ha : Appd wr wr' v1 v') (ho : OwnL wr' (w2.heap.size + 1) 2 1 intC v' L') : RSt w0 w2 a A n c cs6 wr' v' L' v2 L2 := by
  obtain ⟨l0, l1, sz, ex, sr, on, r6, o1, o2, ap⟩ := h
  have hx := ha.kept o1 (by omega)
  exact ⟨l0, l1, hx.size, ⟨hx.os.trans ex.os, hx.tape.trans ex.tape, hx.output.trans ex.output, by have := hx.size; omega, fun k hk => (hx.block k (by omega)).trans (ex.block k hk)⟩, sr.kept hx (by omega), on.kept hx (by omega), r6.kept hx (by omega), ho, o2.appd ha ap, ap.appd ha o2⟩
theorem RSt.app2 (h : RSt w0 w2 a A n c cs6 wr v1 L1 v2 L2) (ha : Appd wr wr' v2 v') (ho : OwnL wr' (w2.heap.size + 1) 2 1 intC v' L') : RSt w0 w2 a A n c cs6 wr' v1 L1 v' L' := by
  obtain ⟨l0, l1, sz, ex, sr, on, r6, o1, o2, ap⟩ := h
  have hx := ha.kept o2 (by omega)
  exact ⟨l0, l1, hx.size, ⟨hx.os.trans ex.os, hx.tape.trans ex.tape, hx.output.trans ex.output, by have := hx.size; omega, fun k hk => (hx.block k (by omega)).trans (ex.block k hk)⟩, sr.kept hx (by omega), on.kept hx (by omega), r6.kept hx (by omega), o1.appd ha ap.symm, ho, (ap.symm.appd ha o1).symm⟩
end


theorem alloc_size1 (w : World) (o : Obj) : (w.alloc o).heap.size = w.heap.size + 1 := by simp
set_option maxHeartbeats 4000000 in
theorem c_DrawRollBalance (A : Option Addr) (n c : Nat) (bs : List Int) (w : World) (hbs : SliceOf w 1 byteC A n c bs) (hbd : ∀ z ∈ bs, 0 ≤ z ∧ z ≤ 255) (hn : n ≤ 1048576) :
    Calls Try.prog 36 #[.slice A n c] w (DrawnT3 w) := by
  have HD := hide hbd
  clear hbd
  have hmk48 := hide run_make48
  have hmk49 := hide run_make49
  go_enter Try.func36, Try.ntmps36
  go_wp2_with fail
  refine (c_l01From A n c bs _ (hbs.ext (Ext.alloc _ _)) HD.out).mono ?_
  rintro e w1 ⟨a, rfl, ha, ha1, hs1, hx1⟩
  simp at ha
  go_wp2_with fail
  refine (c_l29Draw a A n c bs w w1 hbs HD.out hx1.box (by omega) hs1 hn).mono ?_
  rintro e w2 ⟨band, percent, price, A', n', c', g, ts, rfl, hnc, hcm, hg, hown, hs2, ho2⟩
  have hz2 := ho2.size
  have hx2 : Ext w w2 := hx1.box.only ho2 (by omega)
  have hR0 := ((Row.new w 29 [.int .i64 0, .int .i64 0, .int .i64 0, .slice none 0 0]).ext hx1).only ho2 (by omega)
  have nxt := fun (m : Int) (w' : World) hx0 hsrc => c_l01Next a m A n c bs w w' hbs HD.out hx0 (by omega) hsrc hn
  have NX := hide nxt
  clear nxt
  have hD : RSt w w2 a A n c [.int .i64 band, .int .i64 percent, .int .i64 price, .slice A' n' c'] (((w2.alloc (.cells #[.int .i64 band, .int .i64 percent, .int .i64 price, .slice A' n' c'] 29)).alloc (.cells #[] 2)).alloc (.cells #[] 2)) (.slice (some ⟨w2.heap.size + 1, 0, none⟩) 0 0) [] (.slice (some ⟨w2.heap.size + 1 + 1, 0, none⟩) 0 0) [] := by
    have hE : ∀ o1 o2 o3, Ext w2 (((w2.alloc o1).alloc o2).alloc o3) := fun _ _ _ => ((Ext.alloc _ _).and_alloc _).and_alloc _
    refine ⟨by omega, by omega, by simp; omega, hx2.trans (hE _ _ _), hs2.ext (hE _ _ _), Only.of_ext (hE _ _ _) a, ((Row.new w2 _ _).alloc _).alloc _, ?_, ?_, ?_⟩
    · have := (OwnL.empty (w2.alloc (.cells #[.int .i64 band, .int .i64 percent, .int .i64 price, .slice A' n' c'] 29)) (w2.heap.size + 1) 2 1 intC (by simp)).ext (Ext.alloc _ (.cells #[] 2))
      simpa using this
    · have := OwnL.empty ((w2.alloc (.cells #[.int .i64 band, .int .i64 percent, .int .i64 price, .slice A' n' c'] 29)).alloc (.cells #[] 2)) (w2.heap.size + 1) 2 1 intC (by simp)
      simpa using this
    · intro k h1 h2
      simp [Value.ownBlock] at h1 h2
      omega
  go_wp2_with fail
  refine (NX.out 9 _ hD.ext hD.src (by omega) (by omega)).mono ?_
  rintro e w3 ⟨x3, rfl, hx3, hx4, hs3, ho3⟩
  have hD3 := hD.draw ho3 hs3
  clear hD ho3 hs3
  go_wp2_with fail
  go_loopw [7, 8, 9] (fun v1 v2 k wr => ∃ (k' : Nat) (L1 L2 : List Int), k' ≤ 9 ∧ k = .int .i64 k' ∧ L1.length + k' ≤ 9 ∧ L2.length + k' ≤ 9 ∧ RSt w w2 a A n c [.int .i64 band, .int .i64 percent, .int .i64 price, .slice A' n' c'] wr v1 L1 v2 L2) (fun _ _ k _ => (intOf k).toNat)
  case atStart =>
    refine ⟨x3.toNat, [], [], by omega, ?_, by simp; omega, by simp; omega, hD3⟩
    rw [Int.toNat_of_nonneg (by omega)]
  case round =>
    obtain ⟨k', L1, L2, hk, rfl, hL1, hL2, hD⟩ := hrel
    clear hD3
    have hszr := hD.size
    by_cases hlt : 0 < k'
    · have hlt' : decide ((0 : Int) < (k' : Int)) = true := by simpa using hlt
      go_wp2_with fail
      refine (NX.out 80 _ hD.ext hD.src (by omega) (by omega)).mono ?_
      rintro e w5 ⟨x5, rfl, hx5, hx6, hs5, ho5⟩
      have hD5 := hD.draw ho5 hs5
      have hsz5 := hD5.size
      clear hD ho5 hs5
      have hD6 := hD5.more (Ext.alloc w5 (.cells #[.int .i64 (x5 - 40)] 2))
      go_wp2_with (at_builtin; refine wpList_append_oneB rfl _ _ 40 rfl (w2.heap.size + 1) 2 _ 1 8 Try.underlying40 int_info rfl (by decide) intC intC_len intC_one1 _ _ rfl (hD6.own1) w5 (x5 - 40) rfl _ rfl (by simp) (by omega) (by omega) (by omega) ?_)
      intro v3 w7 hown3 hap3
      have hD7 := hD6.app1 hap3 hown3
      have hsz7 := hD7.size
      clear hD5 hD6 hown3 hap3
      go_wp2_with fail
      refine (NX.out 300 _ hD7.ext hD7.src (by omega) (by omega)).mono ?_
      rintro e w8 ⟨x8, rfl, hx8, hx9, hs8, ho8⟩
      have hD8 := hD7.draw ho8 hs8
      have hsz8 := hD8.size
      clear hD7 ho8 hs8
      have hD9 := hD8.more (Ext.alloc w8 (.cells #[.int .i64 x8] 2))
      go_wp2_with (at_builtin; refine wpList_append_oneB rfl _ _ 40 rfl (w2.heap.size + 1) 2 _ 1 8 Try.underlying40 int_info rfl (by decide) intC intC_len intC_one1 _ _ rfl (hD9.own2) w8 x8 rfl _ rfl (by simp) (by omega) (by omega) (by omega) ?_)
      intro v4 w10 hown4 hap4
      have hD10 := hD9.app2 hap4 hown4
      clear hD8 hD9 hown4 hap4
      go_wp2_with fail
      go_roundw
      case rel => exact ⟨k' - 1, _, _, by omega, by go_num, by simp; omega, by simp; omega, hD10⟩
      case measure => simp [intOf]; omega
    · have hk0 : k' = 0 := by omega
      subst hk0
      go_wp2_with fail
      refine (NX.out 24 _ hD.ext hD.src (by omega) (by omega)).mono ?_
      rintro e w5 ⟨x5, rfl, hx5, hx6, hs5, ho5⟩
      have hD5 := hD.draw ho5 hs5
      have hsz5 := hD5.size
      clear hD ho5 hs5
      have hxw : x5 = 0 ∨ x5 = 1 ∨ x5 = 2 ∨ ((x5 == 0) = false ∧ (x5 == 1) = false ∧ (x5 == 2) = false) := by
        simp; omega
      rcases hxw with rfl | rfl | rfl | ⟨q0, q1, q2⟩
      · clear hx5 hx6
        have hD6 := hD5.more (Ext.alloc w5 (.cells #[.int .i64 1] 2))
        go_wp2_with (at_builtin; refine wpList_append_oneB rfl _ _ 40 rfl (w2.heap.size + 1) 2 _ 1 8 Try.underlying40 int_info rfl (by decide) intC intC_len intC_one1 _ _ rfl (hD6.own1) w5 (1 : Int) rfl _ rfl (by simp) (by omega) (by omega) (by omega) ?_)
        intro v3 w7 hown3 hap3
        have hD7 := hD6.app1 hap3 hown3
        clear hD5 hD6 hown3 hap3
        generalize L1 ++ [(1 : Int)] = L1 at hD7
        obtain ⟨A1, c1, g1, rfl, hg1, hnc1, hcm1, hown1⟩ := hD7.own1.own intC_len (by omega)
        obtain ⟨A2, c2, g2, rfl, hg2, hnc2, hcm2, hown2⟩ := hD7.own2.own intC_len (by omega)
        have hR9 := hR0.only hD7.only (by omega)
        have q0 := hR9.cell 0
        have q1 := hR9.cell 1
        have q2 := hR9.cell 2
        have q3 := hR9.cell 3
        simp at q0 q1 q2 q3
        have f0 := hR9.frozen 0
        have f1 := hR9.frozen 1
        have f2 := hR9.frozen 2
        have f3 := hR9.frozen 3
        have hl9 := hR9.lt
        have k0 := hD7.row6.cell 0
        have k1 := hD7.row6.cell 1
        have k2 := hD7.row6.cell 2
        have k3 := hD7.row6.cell 3
        simp at k0 k1 k2 k3
        have hl6 := (hD7.row6).lt
        have HK := fun wz : World => hide ((Only.refl w.heap.size wz).put 0 [.int .i64 band, .int .i64 percent, .int .i64 price, .slice A' n' c'])
        have hT9 := hown.only hD7.only (by omega)
        go_wp2_with fail
        refine bodyPost_ret (v := .tuple #[.agg #[.int .i64 band, .int .i64 percent, .int .i64 price, .slice A' n' c'], .slice A1 (L1.length) c1, .slice A2 (L2.length) c2]) (by simp [results, Try.results36, go_sem, q0, q1, q2, q3]) rfl ?_
        exact ⟨band, percent, price, A', n', c', ts, A1, _, c1, _, A2, _, c2, _, rfl, (hT9.only (HK _).out (by omega)).slice tier_len hnc hcm, (hown1.only (HK _).out (by omega)).slice intC_len hnc1 hcm1, (hown2.only (HK _).out (by omega)).slice intC_len hnc2 hcm2, (hx2.only hD7.only (by omega)).only (HK _).out (Nat.le_refl _)⟩
      · clear hx5 hx6
        have hD6 := hD5.more (Ext.alloc w5 (.cells #[.int .i64 30000, .int .i64 30001] 2))
        clear hD5
        go_wp2_with fail
        refine (NX.out 2 _ hD6.ext hD6.src (by omega) (by omega)).mono ?_
        rintro e w6 ⟨y, rfl, hy1, hy2, hs6, ho6⟩
        have hD7 := hD6.draw ho6 hs6
        have hR6 := (Row.new w5 2 [.int .i64 30000, .int .i64 30001]).only ho6 (by omega)
        have hsz6 := hD7.size
        obtain ⟨j, rfl⟩ := Int.eq_ofNat_of_zero_le hy1
        have hj : j < 2 := by omega
        obtain ⟨z, hz⟩ : ∃ z, w6.cell? ⟨w5.heap.size, j, none⟩ = some (.int .i64 z) := by
          rw [hR6.cell]; rcases (show j = 0 ∨ j = 1 by omega) with rfl | rfl <;> exact ⟨_, rfl⟩
        have hb6 := hR6.lt
        have hD8 := hD7.more (Ext.alloc w6 (.cells #[.int .i64 z] 2))
        clear hR6 ho6 hD6 hs6 hy1 hy2
        go_wp2_with (at_builtin; refine wpList_append_oneB rfl _ _ 40 rfl (w2.heap.size + 1) 2 _ 1 8 Try.underlying40 int_info rfl (by decide) intC intC_len intC_one1 _ _ rfl (hD8.own1) w6 z rfl _ rfl (by simp) (by omega) (by omega) (by omega) ?_)
        intro v3 w7 hown3 hap3
        have hD9 := hD8.app1 hap3 hown3
        have hsz7 := hD9.size
        clear hD7 hD8 hown3 hap3
        have hD10 := hD9.more (Ext.alloc w7 (.cells #[.int .i64 0] 2))
        go_wp2_with (at_builtin; refine wpList_append_oneB rfl _ _ 40 rfl (w2.heap.size + 1) 2 _ 1 8 Try.underlying40 int_info rfl (by decide) intC intC_len intC_one1 _ _ rfl (hD10.own2) w7 (0 : Int) rfl _ rfl (by simp) (by omega) (by omega) (by omega) ?_)
        intro v4 w8 hown4 hap4
        have hD11 := hD10.app2 hap4 hown4
        clear hD9 hD10 hown4 hap4
        generalize L1 ++ [z] = L1 at hD11
        generalize L2 ++ [(0 : Int)] = L2 at hD11
        obtain ⟨A1, c1, g1, rfl, hg1, hnc1, hcm1, hown1⟩ := hD11.own1.own intC_len (by omega)
        obtain ⟨A2, c2, g2, rfl, hg2, hnc2, hcm2, hown2⟩ := hD11.own2.own intC_len (by omega)
        have hR9 := hR0.only hD11.only (by omega)
        have q0 := hR9.cell 0
        have q1 := hR9.cell 1
        have q2 := hR9.cell 2
        have q3 := hR9.cell 3
        simp at q0 q1 q2 q3
        have f0 := hR9.frozen 0
        have f1 := hR9.frozen 1
        have f2 := hR9.frozen 2
        have f3 := hR9.frozen 3
        have hl9 := hR9.lt
        have k0 := hD11.row6.cell 0
        have k1 := hD11.row6.cell 1
        have k2 := hD11.row6.cell 2
        have k3 := hD11.row6.cell 3
        simp at k0 k1 k2 k3
        have hl6 := (hD11.row6).lt
        have HK := fun wz : World => hide ((Only.refl w.heap.size wz).put 0 [.int .i64 band, .int .i64 percent, .int .i64 price, .slice A' n' c'])
        have hT9 := hown.only hD11.only (by omega)
        go_wp2_with fail
        refine bodyPost_ret (v := .tuple #[.agg #[.int .i64 band, .int .i64 percent, .int .i64 price, .slice A' n' c'], .slice A1 (L1.length) c1, .slice A2 (L2.length) c2]) (by simp [results, Try.results36, go_sem, q0, q1, q2, q3]) rfl ?_
        exact ⟨band, percent, price, A', n', c', ts, A1, _, c1, _, A2, _, c2, _, rfl, (hT9.only (HK _).out (by omega)).slice tier_len hnc hcm, (hown1.only (HK _).out (by omega)).slice intC_len hnc1 hcm1, (hown2.only (HK _).out (by omega)).slice intC_len hnc2 hcm2, (hx2.only hD11.only (by omega)).only (HK _).out (Nat.le_refl _)⟩
      · clear hx5 hx6
        go_wp2_with fail
        refine (NX.out 2 _ hD5.ext hD5.src (by omega) (by omega)).mono ?_
        rintro e w6 ⟨y, rfl, hy1, hy2, hs6, ho6⟩
        have hD7 := hD5.draw ho6 hs6
        have hsz6 := hD7.size
        clear hs6 ho6
        rcases (show y = 0 ∨ y = 1 by omega) with rfl | rfl
        · have hmk := hmk48.out
          have hE : Ext w6 ((w6.alloc (.cells (zeroC 48).toArray 2)).alloc (.cells (zeroC 48).toArray 2)) := (Ext.alloc _ _).and_alloc _
          have hD8 := hD7.more hE
          have hown1 := (zeroC_row w6 48).ext (Ext.alloc _ (.cells (zeroC 48).toArray 2))
          have hown2 := zeroC_row (w6.alloc (.cells (zeroC 48).toArray 2)) 48
          simp only [alloc_size1] at hown2
          clear hD7 hD5
          have hR9 := hR0.only hD8.only (by omega)
          have q0 := hR9.cell 0
          have q1 := hR9.cell 1
          have q2 := hR9.cell 2
          have q3 := hR9.cell 3
          simp at q0 q1 q2 q3
          have f0 := hR9.frozen 0
          have f1 := hR9.frozen 1
          have f2 := hR9.frozen 2
          have f3 := hR9.frozen 3
          have hl9 := hR9.lt
          have k0 := hD8.row6.cell 0
          have k1 := hD8.row6.cell 1
          have k2 := hD8.row6.cell 2
          have k3 := hD8.row6.cell 3
          simp at k0 k1 k2 k3
          have hl6 := (hD8.row6).lt
          have HK := fun wz : World => hide ((Only.refl w.heap.size wz).put 0 [.int .i64 band, .int .i64 percent, .int .i64 price, .slice A' n' c'])
          have hT9 := hown.only hD8.only (by omega)
          go_wp2_with fail
          refine bodyPost_ret (v := .tuple #[.agg #[.int .i64 band, .int .i64 percent, .int .i64 price, .slice A' n' c'], .slice (some ⟨w6.heap.size, 0, none⟩) 48 48, .slice (some ⟨w6.heap.size + 1, 0, none⟩) 48 48]) (by simp [results, Try.results36, go_sem, q0, q1, q2, q3]) rfl ?_
          exact ⟨band, percent, price, A', n', c', ts, _, _, _, _, _, _, _, _, rfl, (hT9.only (HK _).out (by omega)).slice tier_len hnc hcm, (hown1.only (HK _).out (by omega)).slice intC_len (Nat.le_refl _) (by omega), (hown2.only (HK _).out (by omega)).slice intC_len (Nat.le_refl _) (by omega), (hx2.only hD8.only (by omega)).only (HK _).out (Nat.le_refl _)⟩
        · have hmk := hmk49.out
          have hE : Ext w6 ((w6.alloc (.cells (zeroC 49).toArray 2)).alloc (.cells (zeroC 49).toArray 2)) := (Ext.alloc _ _).and_alloc _
          have hD8 := hD7.more hE
          have hown1 := (zeroC_row w6 49).ext (Ext.alloc _ (.cells (zeroC 49).toArray 2))
          have hown2 := zeroC_row (w6.alloc (.cells (zeroC 49).toArray 2)) 49
          simp only [alloc_size1] at hown2
          clear hD7 hD5
          have hR9 := hR0.only hD8.only (by omega)
          have q0 := hR9.cell 0
          have q1 := hR9.cell 1
          have q2 := hR9.cell 2
          have q3 := hR9.cell 3
          simp at q0 q1 q2 q3
          have f0 := hR9.frozen 0
          have f1 := hR9.frozen 1
          have f2 := hR9.frozen 2
          have f3 := hR9.frozen 3
          have hl9 := hR9.lt
          have k0 := hD8.row6.cell 0
          have k1 := hD8.row6.cell 1
          have k2 := hD8.row6.cell 2
          have k3 := hD8.row6.cell 3
          simp at k0 k1 k2 k3
          have hl6 := (hD8.row6).lt
          have HK := fun wz : World => hide ((Only.refl w.heap.size wz).put 0 [.int .i64 band, .int .i64 percent, .int .i64 price, .slice A' n' c'])
          have hT9 := hown.only hD8.only (by omega)
          go_wp2_with fail
          refine bodyPost_ret (v := .tuple #[.agg #[.int .i64 band, .int .i64 percent, .int .i64 price, .slice A' n' c'], .slice (some ⟨w6.heap.size, 0, none⟩) 49 49, .slice (some ⟨w6.heap.size + 1, 0, none⟩) 49 49]) (by simp [results, Try.results36, go_sem, q0, q1, q2, q3]) rfl ?_
          exact ⟨band, percent, price, A', n', c', ts, _, _, _, _, _, _, _, _, rfl, (hT9.only (HK _).out (by omega)).slice tier_len hnc hcm, (hown1.only (HK _).out (by omega)).slice intC_len (Nat.le_refl _) (by omega), (hown2.only (HK _).out (by omega)).slice intC_len (Nat.le_refl _) (by omega), (hx2.only hD8.only (by omega)).only (HK _).out (Nat.le_refl _)⟩
      · clear hx5 hx6
        obtain ⟨A1, c1, g1, rfl, hg1, hnc1, hcm1, hown1⟩ := hD5.own1.own intC_len (by omega)
        obtain ⟨A2, c2, g2, rfl, hg2, hnc2, hcm2, hown2⟩ := hD5.own2.own intC_len (by omega)
        have hR9 := hR0.only hD5.only (by omega)
        have q0 := hR9.cell 0
        have q1 := hR9.cell 1
        have q2 := hR9.cell 2
        have q3 := hR9.cell 3
        simp at q0 q1 q2 q3
        have f0 := hR9.frozen 0
        have f1 := hR9.frozen 1
        have f2 := hR9.frozen 2
        have f3 := hR9.frozen 3
        have hl9 := hR9.lt
        have k0 := hD5.row6.cell 0
        have k1 := hD5.row6.cell 1
        have k2 := hD5.row6.cell 2
        have k3 := hD5.row6.cell 3
        simp at k0 k1 k2 k3
        have hl6 := (hD5.row6).lt
        have HK := fun wz : World => hide ((Only.refl w.heap.size wz).put 0 [.int .i64 band, .int .i64 percent, .int .i64 price, .slice A' n' c'])
        have hT9 := hown.only hD5.only (by omega)
        go_wp2_with fail
        refine bodyPost_ret (v := .tuple #[.agg #[.int .i64 band, .int .i64 percent, .int .i64 price, .slice A' n' c'], .slice A1 (L1.length) c1, .slice A2 (L2.length) c2]) (by simp [results, Try.results36, go_sem, q0, q1, q2, q3]) rfl ?_
        exact ⟨band, percent, price, A', n', c', ts, A1, _, c1, _, A2, _, c2, _, rfl, (hT9.only (HK _).out (by omega)).slice tier_len hnc hcm, (hown1.only (HK _).out (by omega)).slice intC_len hnc1 hcm1, (hown2.only (HK _).out (by omega)).slice intC_len hnc2 hcm2, (hx2.only hD5.only (by omega)).only (HK _).out (Nat.le_refl _)⟩
end Go.Proofs.Ytbkmnoedhilopaa
