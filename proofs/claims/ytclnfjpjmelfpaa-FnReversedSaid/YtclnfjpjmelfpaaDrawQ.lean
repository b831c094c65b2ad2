
/-
  The reference's draws of ledgers.
-/
import Derived.Test.YtclnfjpjmelfpaaDrawP
import Derived.Test.YtclnfjpjmelfpaaSchedT
import Derived.Test.YtclnfjpjmelfpaaPostO
namespace Go.Proofs.Ytclnfjpjmelfpaa
open Go.RowKit

/-- some ledger, or a list that is none, of the call's own -/
def DrawnLed (a : Nat) (A : Option Addr) (n c : Nat) (w : World) (e : Ending) (w' : World) : Prop :=
  ∃ (v : Value) (L : List Posting), e = .returned v ∧ L.length ≤ 301 ∧ OwnL w' w.heap.size 25 4 Posting.cells v L ∧ SrcAt w' a A n c ∧ Only a w w'
structure LSt (w0 w : World) (a : Nat) (A : Option Addr) (n c : Nat) (wr : World) (v : Value) (L : List Posting) : Prop where
  le0 : w0.heap.size ≤ a
  lt1 : a < w.heap.size
  size : w.heap.size ≤ wr.heap.size
  ext : Ext w0 wr
  src : SrcAt wr a A n c
  only : Only a w wr
  own : OwnL wr w.heap.size 25 4 Posting.cells v L
section
variable {w0 w wr wr' : World} {a n c : Nat} {A : Option Addr} {v v' : Value} {L L' : List Posting}
theorem LSt.draw (h : LSt w0 w a A n c wr v L) (ho : Only a wr wr') (hs : SrcAt wr' a A n c) : LSt w0 w a A n c wr' v L :=
  ⟨h.le0, h.lt1, Nat.le_trans h.size ho.size, h.ext.only ho h.le0, hs, h.only.trans ho, h.own.only ho h.lt1⟩
theorem LSt.more (h : LSt w0 w a A n c wr v L) (hx : Ext wr wr') : LSt w0 w a A n c wr' v L := h.draw (Only.of_ext hx a) (h.src.ext hx)
theorem LSt.app (h : LSt w0 w a A n c wr v L) (hx : ∀ w1 : World, w1.heap.size ≤ w.heap.size → Ext w1 wr → Ext w1 wr') (ho : OwnL wr' w.heap.size 25 4 Posting.cells v' L') : LSt w0 w a A n c wr' v' L' := by
  obtain ⟨l0, l1, sz, ex, sr, on, ow⟩ := h
  have hk := kept_append sz hx
  exact ⟨l0, l1, hk.size, hx w0 (by omega) ex, sr.kept hk l1, on.kept hk (Nat.le_refl _), ho⟩
theorem LSt.fresh (h : LSt w0 w a A n c wr v L) : LSt w0 w a A n c (wr.alloc (.cells #[] 25)) (.slice (some ⟨wr.heap.size, 0, none⟩) 0 0) [] :=
  { h.more (Ext.alloc wr _) with own := OwnL.empty wr w.heap.size 25 4 Posting.cells h.size }
end

set_option maxHeartbeats 2000000 in
theorem c_l30Draw (a : Nat) (A : Option Addr) (n c : Nat) (bs : List Int) (w0 w : World) (hbs : SliceOf w0 1 byteC A n c bs) (hbd : ∀ z ∈ bs, 0 ≤ z ∧ z ≤ 255) (hx0 : Ext w0 w) (ha : w0.heap.size ≤ a) (hsrc : SrcAt w a A n c) (hn : n ≤ 1048576) :
    Calls Try.prog 65 #[.pointer (some ⟨a, 0, none⟩)] w (DrawnLed a A n c w) := by
  have nxt := fun (m : Int) (w : World) hx0 hsrc => c_l01Next a m A n c bs w0 w hbs hbd hx0 ha hsrc hn
  have NX := hide nxt
  clear nxt
  have one := fun (w : World) hx0 hsrc => c_l30DrawOne a A n c bs w0 w hbs hbd hx0 ha hsrc hn
  have ONE := hide one
  clear one
  have hal := hsrc.lt
  have hD0 : LSt w0 w a A n c (w.alloc (.cells #[] 25)) (.slice (some ⟨w.heap.size, 0, none⟩) 0 0) [] :=
    LSt.fresh (v := .slice none 0 0) (L := []) ⟨ha, hal, Nat.le_refl _, hx0, hsrc, Only.refl _ _, OwnL.nil_ _ _ _ _ _⟩
  go_enter Try.func65, Try.ntmps65
  go_wp2_with fail
  refine (NX.out 9 _ hD0.ext hD0.src (by omega) (by omega)).mono ?_
  rintro e w1 ⟨x1, rfl, hx1, hx2, hs1, ho1⟩
  have hD1 := hD0.draw ho1 hs1
  clear hD0 ho1 hs1
  go_wp2_with fail
  go_loopw [3, 4] (fun v k wr => ∃ (k' : Nat) (L : List Posting), k' ≤ 9 ∧ k = .int .i64 k' ∧ L.length + k' ≤ 9 ∧ LSt w0 w a A n c wr v L) (fun _ k _ => (intOf k).toNat)
  case atStart =>
    refine ⟨x1.toNat, [], by omega, ?_, by simp; omega, hD1⟩
    rw [Int.toNat_of_nonneg (by omega)]
  case round =>
    obtain ⟨k', L, hk, rfl, hL, hD⟩ := hrel
    clear hD1
    have hszr := hD.size
    by_cases hlt : 0 < k'
    · have hlt' : decide ((0 : Int) < (k' : Int)) = true := by simpa using hlt
      go_wp2_with fail
      refine (ONE.out _ hD.ext hD.src).mono ?_
      rintro e w2 ⟨d, k, g, m, rfl, hs2, ho2⟩
      have hD2 := hD.draw ho2 hs2
      have hsz2 := hD2.size
      clear hD ho2 hs2
      have hD3 := hD2.more (Ext.alloc w2 (.cells #[.int .i64 d, .int .i64 k, .int .i64 g, .int .i64 m] 25))
      go_wp2_with (at_builtin; go_must (refine wpList_append_one rfl _ _ 31 rfl w.heap.size 25 _ 4 32 Try.underlying31 posting_info rfl (by decide) Posting.cells post_len post_one _ _ rfl (hD3.own) w2 ⟨d, k, g, m⟩ rfl _ rfl (by simp) (by omega) (by omega) (by omega) ?_))
      intro v4 w4 hown4 hx4
      have hD4 := hD3.app hx4 hown4
      clear hD2 hD3 hown4 hx4
      go_wp2_with fail
      go_roundw
      case rel => exact ⟨k' - 1, _, by omega, by go_num, by simp; omega, hD4⟩
      case measure => simp [intOf]; omega
    · have hk0 : k' = 0 := by omega
      subst hk0
      go_wp2_with fail
      refine (NX.out 60 _ hD.ext hD.src (by omega) (by omega)).mono ?_
      rintro e w2 ⟨x2, rfl, hx3, hx4, hs2, ho2⟩
      have hD2 := hD.draw ho2 hs2
      clear hD ho2 hs2
      by_cases h0 : x2 = 0
      · subst h0
        clear hx3 hx4
        have hD3 := hD2.fresh
        go_wp2_with fail
        go_loopw [3] (fun v wr => ∃ (A' : Option Addr) (c' : Nat) (L : List Posting), v = .slice A' L.length c' ∧ L.length ≤ 301 ∧ LSt w0 w a A n c wr v L) (fun v _ => 302 - (match v with | .slice _ n _ => n | _ => 0))
        case atStart => exact ⟨_, _, [], rfl, by simp, hD3⟩
        case round =>
          obtain ⟨A', c', L, rfl, hL, hD⟩ := hrel
          clear hD2 hD3
          have hszr := hD.size
          go_wp2_with fail
          refine (NX.out 2 _ hD.ext hD.src (by omega) (by omega)).mono ?_
          rintro e w5 ⟨x5, rfl, hx5, hx6, hs5, ho5⟩
          have hD5 := hD.draw ho5 hs5
          have hsz5 := hD5.size
          clear hD ho5 hs5
          have e1 : IntKind.i64.wrap (300 + x5) = 300 + x5 := IntWalk.i64_in _ (by omega)
          by_cases hlt : (L.length : Int) < 300 + x5
          · have hlt' : decide ((L.length : Int) < 300 + x5) = true := by simpa using hlt
            have hD6 := hD5.more (Ext.alloc w5 (.cells #[.int .i64 1, .int .i64 2, .int .i64 1, .int .i64 0] 25))
            go_wp2_with (at_builtin; go_must (refine wpList_append_one rfl _ _ 31 rfl w.heap.size 25 _ 4 32 Try.underlying31 posting_info rfl (by decide) Posting.cells post_len post_one _ _ rfl (hD6.own) w5 ⟨1, 2, 1, 0⟩ rfl _ rfl (by simp) (by omega) (by omega) (by omega) ?_))
            intro v7 w7 hown7 hx7
            have hD7 := hD6.app hx7 hown7
            clear hD5 hD6 hown7 hx7
            obtain ⟨A7, c7, rfl, _, _⟩ := hD7.own.form
            go_wp2_with fail
            go_roundw
            case rel => exact ⟨A7, c7, _, rfl, by simp; omega, hD7⟩
            case measure => simp; omega
          · have hlt' : decide ((L.length : Int) < 300 + x5) = false := by simpa using hlt
            go_wp2_with fail
            go_ret
            exact ⟨_, _, rfl, hL, hD5.own, hD5.src, hD5.only⟩
      · have h0' : (x2 == 0) = false := by simpa using h0
        go_wp2_with fail
        go_ret
        exact ⟨_, _, rfl, by omega, hD2.own, hD2.src, hD2.only⟩

/-- a ledger that is drawn, and an account -/
def DrawnLS (w : World) (e : Ending) (w' : World) : Prop :=
  ∃ (A' : Option Addr) (n' c' : Nat) (ps : List Posting) (acc : Int), e = .returned (.tuple #[.slice A' n' c', .int .i64 acc]) ∧ n' ≤ 301 ∧ SliceOf w' 4 Posting.cells A' n' c' ps ∧ Ext w w'
def DrawnL1 (w : World) (e : Ending) (w' : World) : Prop :=
  ∃ (A' : Option Addr) (n' c' : Nat) (ps : List Posting), e = .returned (.slice A' n' c') ∧ n' ≤ 301 ∧ SliceOf w' 4 Posting.cells A' n' c' ps ∧ Ext w w'
def DrawnP1 (w : World) (e : Ending) (w' : World) : Prop := ∃ d k g m : Int, e = .returned (.agg #[.int .i64 d, .int .i64 k, .int .i64 g, .int .i64 m]) ∧ Ext w w'

theorem c_DrawReverseLedger (A : Option Addr) (n c : Nat) (bs : List Int) (w : World) (hbs : SliceOf w 1 byteC A n c bs) (hbd : ∀ z ∈ bs, 0 ≤ z ∧ z ≤ 255) (hn : n ≤ 1048576) :
    Calls Try.prog 44 #[.slice A n c] w (DrawnL1 w) := by
  have HD := hide hbd
  clear hbd
  go_enter Try.func44, Try.ntmps44
  go_wp2_with fail
  refine (c_l01From A n c bs _ hbs HD.out).mono ?_
  rintro e w1 ⟨a, rfl, ha, ha1, hs1, hx1⟩
  go_wp2_with fail
  refine (c_l30Draw a A n c bs w w1 hbs HD.out hx1 ha hs1 hn).mono ?_
  rintro e w2 ⟨v, L, rfl, hL, hown, hs2, ho2⟩
  obtain ⟨A', c', g, rfl, hg, hnc, hcm, ho⟩ := hown.own post_len (by omega)
  go_wp2_with fail
  go_ret
  exact ⟨_, _, _, _, rfl, hL, ho.slice post_len hnc hcm, hx1.only ho2 ha⟩

set_option maxHeartbeats 2000000 in
theorem c_DrawIsPosting (A : Option Addr) (n c : Nat) (bs : List Int) (w : World) (hbs : SliceOf w 1 byteC A n c bs) (hbd : ∀ z ∈ bs, 0 ≤ z ∧ z ≤ 255) (hn : n ≤ 1048576) :
    Calls Try.prog 28 #[.slice A n c] w (DrawnP1 w) := by
  have HD := hide hbd
  clear hbd
  go_enter Try.func28, Try.ntmps28
  go_wp2_with fail
  refine (c_l01From A n c bs _ (hbs.ext (Ext.alloc _ _)) HD.out).mono ?_
  rintro e w1 ⟨a, rfl, ha, ha1, hs1, hx1⟩
  simp at ha
  go_wp2_with fail
  refine (c_l30DrawOne a A n c bs w w1 hbs HD.out hx1.box (by omega) hs1 hn).mono ?_
  rintro e w2 ⟨d, k, g, m, rfl, hs2, ho2⟩
  have hR0 := ((Row.new w 25 [.int .i64 0, .int .i64 0, .int .i64 0, .int .i64 0]).ext hx1).only ho2 (by omega)
  have q0 := hR0.cell 0
  have q1 := hR0.cell 1
  have q2 := hR0.cell 2
  have q3 := hR0.cell 3
  have f0 := hR0.frozen 0
  have f1 := hR0.frozen 1
  have f2 := hR0.frozen 2
  have f3 := hR0.frozen 3
  simp at q0 q1 q2 q3
  have hl0 := hR0.lt
  have hk : Only w.heap.size w2 (putCells w2 w.heap.size 0 [.int .i64 d, .int .i64 k, .int .i64 g, .int .i64 m]) := (Only.refl _ _).put _ _
  have hfin : DrawnP1 w (.returned (.agg #[.int .i64 d, .int .i64 k, .int .i64 g, .int .i64 m])) (putCells w2 w.heap.size 0 [.int .i64 d, .int .i64 k, .int .i64 g, .int .i64 m]) :=
    ⟨d, k, g, m, rfl, (hx1.box.only ho2 (by omega)).only hk (Nat.le_refl _)⟩
  have HF := hide hfin
  clear hfin hR0 hk
  go_wp2_with fail
  refine bodyPost_ret (v := .agg #[.int .i64 d, .int .i64 k, .int .i64 g, .int .i64 m]) (by simp [results, Try.results28, go_sem, q0, q1, q2, q3]) rfl ?_
  exact HF.out

set_option maxHeartbeats 2000000 in
theorem c_DrawStatementOf (A : Option Addr) (n c : Nat) (bs : List Int) (w : World) (hbs : SliceOf w 1 byteC A n c bs) (hbd : ∀ z ∈ bs, 0 ≤ z ∧ z ≤ 255) (hn : n ≤ 1048576) :
    Calls Try.prog 24 #[.slice A n c] w (DrawnLS w) := by
  have HD := hide hbd
  clear hbd
  go_enter Try.func24, Try.ntmps24
  go_wp2_with fail
  refine (c_l01From A n c bs _ hbs HD.out).mono ?_
  rintro e w1 ⟨a, rfl, ha, ha1, hs1, hx1⟩
  have nxt := fun (m : Int) (w' : World) hx0 hsrc => c_l01Next a m A n c bs w w' hbs HD.out hx0 ha hsrc hn
  have NX := hide nxt
  clear nxt
  go_wp2_with fail
  refine (c_l30Draw a A n c bs w w1 hbs HD.out hx1 ha hs1 hn).mono ?_
  rintro e w2 ⟨v, L, rfl, hL, hown, hs2, ho2⟩
  have hx2 := hx1.only ho2 ha
  obtain ⟨A', c', g, rfl, hg, hnc, hcm, ho⟩ := hown.own post_len (by omega)
  clear hown
  go_wp2_with fail
  refine (NX.out 16 _ hx2 hs2 (by omega) (by omega)).mono ?_
  rintro e w3 ⟨x3, rfl, hx3, hx4, hs3, ho3⟩
  have hx30 := hx2.only ho3 ha
  have hsl := ho.only ho3 (by omega)
  by_cases h0 : x3 = 0
  · subst h0
    clear hx3 hx4
    have hal3 := hs3.lt
    go_wp2_with fail
    refine wp_region_phT [] (.two [0, 2] 1 (.one [] 3 (.one [4, 6] 5 (.last [7]))) 3 (.one [6] 1 (.one [4] 5 (.last [7])))) (by kernel_rfl) (by kernel_rfl) (by intro c a w d v h; cases d <;> exact h) ?_
    simp only [wpPhT, pickL, nthO]
    repeat (go_big_quiet_step (fail))
    refine wpQuiet_nil ?_
    refine ⟨?_, ?_⟩
    · have hR := Row.new w3 2 [.int .i64 (-1), .int .i64 23, .int .i64 24]
      go_wp2_with fail
      refine ⟨fun _ h => (by cases h), ?_⟩
      refine wpQuiet_nil ?_
      go_wp2_with fail
      refine (NX.out 3 _ ((hx30.and_alloc _).drew) (hs3.ext ((Ext.alloc _ _).drew)) (by omega) (by omega)).mono ?_
      rintro e w4 ⟨y, rfl, hy1, hy2, hs4, ho4⟩
      have hR4 := hR.drew.only ho4 (by omega)
      have hb4 := hR4.lt
      obtain ⟨j, rfl⟩ := Int.eq_ofNat_of_zero_le hy1
      have hj : j < 3 := by omega
      obtain ⟨z, hz⟩ : ∃ z, w4.cell? ⟨w3.heap.size, j, none⟩ = some (.int .i64 z) := by
        rw [hR4.cell]; rcases (show j = 0 ∨ j = 1 ∨ j = 2 by omega) with rfl | rfl | rfl <;> exact ⟨_, rfl⟩
      have hE : Only a w3 w4 := (Only.of_ext ((Ext.alloc w3 _).drew) a).trans ho4
      have hfin : DrawnLS w (.returned (.tuple #[.slice A' L.length c', .int .i64 z])) w4 := ⟨A', _, c', L, z, rfl, hL, (hsl.only hE (by omega)).slice post_len hnc hcm, hx30.only hE ha⟩
      clear hR hR4 ho4 hE
      go_wp2_with fail
      refine ⟨fun _ h => (by cases h), ?_⟩
      repeat (go_big_quiet_step (fail))
      refine wpQuiet_nil ?_
      go_wp2_with fail
      refine ⟨fun _ h => (by cases h), ?_⟩
      repeat (go_big_quiet_step (fail))
      refine wpQuiet_nil ?_
      go_wp2_with fail
      go_ret2
      exact hfin
    · go_wp2_with fail
      refine (NX.out 3 _ hx30.drew (hs3.ext (Ext.refl _).drew) (by omega) (by omega)).mono ?_
      rintro e w4 ⟨y, rfl, hy1, hy2, hs4, ho4⟩
      have hR := Row.new w4 2 [.int .i64 (-1), .int .i64 23, .int .i64 24]
      obtain ⟨j, rfl⟩ := Int.eq_ofNat_of_zero_le hy1
      have hj : j < 3 := by omega
      have hE : Only a w3 w4 := (Only.of_ext ((Ext.refl w3).drew) a).trans ho4
      obtain ⟨z, hz⟩ : ∃ z, (w4.alloc (.cells #[.int .i64 (-1), .int .i64 23, .int .i64 24] 2)).cell? ⟨w4.heap.size, j, none⟩ = some (.int .i64 z) := by
        rw [hR.cell]; rcases (show j = 0 ∨ j = 1 ∨ j = 2 by omega) with rfl | rfl | rfl <;> exact ⟨_, rfl⟩
      have hE5 := hE.trans (Only.of_ext (Ext.alloc w4 (.cells #[.int .i64 (-1), .int .i64 23, .int .i64 24] 2)) a)
      have hfin : DrawnLS w (.returned (.tuple #[.slice A' L.length c', .int .i64 z])) (w4.alloc (.cells #[.int .i64 (-1), .int .i64 23, .int .i64 24] 2)) := ⟨A', _, c', L, z, rfl, hL, (hsl.only hE5 (by omega)).slice post_len hnc hcm, hx30.only hE5 ha⟩
      have hb5 := hR.lt
      clear hR ho4 hE hE5
      go_wp2_with fail
      refine ⟨fun _ h => (by cases h), ?_⟩
      repeat (go_big_quiet_step (fail))
      refine wpQuiet_nil ?_
      generalize hw5 : w4.alloc (.cells #[.int .i64 (-1), .int .i64 23, .int .i64 24] 2) = w5 at *
      go_wp2_with fail
      refine ⟨fun _ h => (by cases h), ?_⟩
      repeat (go_big_quiet_step (fail))
      refine wpQuiet_nil ?_
      go_wp2_with fail
      refine ⟨fun _ h => (by cases h), ?_⟩
      repeat (go_big_quiet_step (fail))
      refine wpQuiet_nil ?_
      go_wp2_with fail
      go_ret2
      exact hfin
  · have h0' : (x3 == 0) = false := by simpa using h0
    go_wp2_with fail
    refine (NX.out 6 _ hx30 hs3 (by omega) (by omega)).mono ?_
    rintro e w4 ⟨y, rfl, hy1, hy2, hs4, ho4⟩
    go_wp2_with fail
    go_ret2
    exact ⟨A', _, c', L, y, rfl, hL, (hsl.only ho4 (by omega)).slice post_len hnc hcm, hx30.only ho4 ha⟩

theorem c_DrawSettleLedger (A : Option Addr) (n c : Nat) (bs : List Int) (w : World) (hbs : SliceOf w 1 byteC A n c bs) (hbd : ∀ z ∈ bs, 0 ≤ z ∧ z ≤ 255) (hn : n ≤ 1048576) :
    Calls Try.prog 46 #[.slice A n c] w (DrawnLS w) := by
  have HD := hide hbd
  clear hbd
  go_enter Try.func46, Try.ntmps46
  go_wp2_with fail
  refine (c_DrawStatementOf A n c bs _ hbs HD.out hn).mono ?_
  rintro e w1 ⟨A', n', c', ps, acc, rfl, hn', hs, hx⟩
  go_wp2_with fail
  go_ret2
  exact ⟨A', n', c', ps, acc, rfl, hn', hs, hx⟩
end Go.Proofs.Ytclnfjpjmelfpaa
