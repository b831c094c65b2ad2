/-
  Orders and readings together: validity, of the program.
-/
import Derived.Test.YtegkeeeohileiaaSa39
namespace Go.Proofs.Ytegkeeeohileiaa
open Go.RowKit
set_option maxHeartbeats 4000000 in
theorem c_checkReads0 (A1 A2 : Option Addr) (n1 c1 n2 c2 : Nat) (ns : List Node) (ps : List Pipe) (O : Option Addr) (no co : Nat) (os : List Order) (A : Option Addr) (n c : Nat) (L : List Reading) (w : World) (hs1 : SliceOf w 3 Node.cells A1 n1 c1 ns) (hs2 : SliceOf w 5 Pipe.cells A2 n2 c2 ps) (hso : SliceOf w 4 Order.cells O no co os) (hs : SliceOf w 2 Reading.cells A n c L) (hN : ordC n1 ns ps os = 0) :
    Calls Try.prog 18 #[.agg #[.slice A1 n1 c1, .slice A2 n2 c2], .slice O no co, .slice A n c] w (Ret (.int .i64 (if readsB n1 L = true then 0 else 3)) w) := by
  have hm1 := hs1.max
  have hp1 := hs1.cap
  have hm := hs.max
  have hcap := hs.cap
  have HL := hide hs.len
  have HRy := hide (show readsB n1 L = true → (if readsB n1 L = true then (0 : Int) else 3) = 0 by intro h; rw [if_pos h])
  have HRn := hide (show readsB n1 L = false → (if readsB n1 L = true then (0 : Int) else 3) = 3 by intro h; rw [if_neg (by rw [h]; decide)])
  have HN := hide hN
  clear hN
  generalize (if readsB n1 L = true then (0 : Int) else 3) = Z at *
  by_cases h48 : n ≤ 48
  case neg =>
    have HR := hide (HRn.out (reads_long HL.out h48))
    have h2' : (48 : Int) < n := by omega
    go_enter Try.func18, Try.ntmps18
    go_wp2_with fail
    refine (c_checkOrders A1 A2 n1 c1 n2 c2 ns ps O no co os _ (hs1.ext (Ext.alloc _ _)) (hs2.ext (Ext.alloc _ _)) (hso.ext (Ext.alloc _ _))).mono ?_
    rw [HN.out]
    rintro e w1 ⟨rfl, hx1⟩
    go_wp2_with fail
    go_ret
    exact Ret.int HR.out hx1.box
  go_enter Try.func18, Try.ntmps18
  go_wp2_with fail
  refine (c_checkOrders A1 A2 n1 c1 n2 c2 ns ps O no co os _ (hs1.ext (Ext.alloc _ _)) (hs2.ext (Ext.alloc _ _)) (hso.ext (Ext.alloc _ _))).mono ?_
  rw [HN.out]
  rintro e w1 ⟨rfl, hx1⟩
  have hX1 : NetBox w A1 A2 n1 c1 n2 c2 w1 := ⟨hx1⟩
  clear hx1
  go_wp2_with fail
  go_loopw [21] (fun i wr => ∃ k : Nat, k ≤ n ∧ i = .int .i64 k ∧ Hid (∀ j, j < k → readOkB n1 L j = true) ∧ NetBox w A1 A2 n1 c1 n2 c2 wr) (fun i _ => n - (intOf i).toNat)
  case atStart => exact ⟨0, Nat.zero_le _, rfl, hide (fun j hj => absurd hj (by omega)), hX1⟩
  case round =>
    obtain ⟨k, hk, rfl, HK, hX⟩ := hrel
    clear hX1
    have hx := hX.ext.box
    obtain ⟨x0, x1, hz⟩ := hX.cell
    by_cases hlt : k < n
    · obtain ⟨bb, off, r, rfl, hbb, hxk, t⟩ := (hs.ext hx).get hlt
      have t0 := t 0 _ rfl
      have t1 := t 1 _ rfl
      simp only [Nat.add_zero] at t0
      clear t
      have HX := hide (readOk_at (nn := n1) hxk)
      clear hxk
      have hRI := ReadIn.new wr r
      rcases read_ways n1 r with ⟨h1, HB⟩ | hways
      · rw [HB] at HX
        have HR := hide (HRn.out (reads_no HL.out hlt HX.out))
        go_wp2_with fail
        refine (c_isNodeOf A1 A2 n1 c1 n2 c2 r.node _ (by omega)).mono ?_
        rw [h1]
        rintro e w2 ⟨rfl, hx2⟩
        go_wp2_with fail
        go_ret
        exact Ret.int HR.out ((hx.and_alloc _).trans hx2)
      have h1 : inB r.node 0 ((n1 : Int) - 1) = true := by rcases hways with ⟨h, _⟩ | ⟨h, _⟩ | ⟨h, _⟩ <;> exact h
      have HWY := hide hways
      clear hways
      go_wp2_with fail
      refine (c_isNodeOf A1 A2 n1 c1 n2 c2 r.node _ (by omega)).mono ?_
      rw [h1]
      rintro e w2 ⟨rfl, hx2⟩
      clear h1
      have hR2 := hRI.ext hx2
      obtain ⟨hl2, v0, v1⟩ := hR2
      have hX2 : NetBox w A1 A2 n1 c1 n2 c2 w2 := ⟨(hX.ext.and_alloc _).trans hx2⟩
      rcases HWY.out with ⟨_, h2, HB⟩ | ⟨_, h2, h3, HB⟩ | ⟨_, h2, h3, HB⟩
      · rw [HB] at HX
        have HR := hide (HRn.out (reads_no HL.out hlt HX.out))
        go_wp2_with (go_at_call 32; refine (c_within _ _ _ _).mono ?_; rintro e w' ⟨rfl, rfl⟩)
        go_ret
        exact Ret.int HR.out hX2.ext.box
      · rw [HB] at HX
        have HR := hide (HRn.out (reads_no HL.out hlt HX.out))
        go_wp2_with (go_at_call 32; refine (c_within _ _ _ _).mono ?_; rintro e w' ⟨rfl, rfl⟩)
        go_ret
        exact Ret.int HR.out hX2.ext.box
      · rw [HB] at HX
        have hs2k := (hs.ext hX2.ext.box).take (show k ≤ n by omega)
        go_wp2_with (go_at_call 32; refine (c_within _ _ _ _).mono ?_; rintro e w' ⟨rfl, rfl⟩)
        refine (c_ContainsRead _ k c (L.take k) r _ _ hs2k (hRI.ext hx2)).mono ?_
        cases hh : hasR (L.take k) r
        · rw [hh] at HX
          have HO := hide (all_upto HK.out HX.out)
          rintro e w3 ⟨rfl, hx3⟩
          go_wp2_with fail
          go_roundw
          case rel => exact ⟨k + 1, by omega, by go_num, HO, ⟨hX2.ext.trans hx3⟩⟩
          case measure => simp [intOf]; omega
        · rw [hh] at HX
          have HR := hide (HRn.out (reads_no HL.out hlt HX.out))
          rintro e w3 ⟨rfl, hx3⟩
          go_wp2_with fail
          go_ret
          exact Ret.int HR.out (hX2.ext.box.trans hx3)
    · have HR := hide (HRy.out (reads_yes HL.out h48 (fun j hj => HK.out j (by omega))))
      go_wp2_with fail
      go_ret
      exact Ret.int HR.out hx


theorem ordC_ok {n1 : Int} {ns : List Node} {ps : List Pipe} {os : List Order} (h : ordC n1 ns ps os = 0) : netB ns ps = true ∧ ordersB n1 os = true := by
  unfold ordC at h
  split at h
  · rename_i h1
    refine ⟨h1, ?_⟩
    split at h
    · assumption
    · cases h
  · cases h
theorem allC_ok {n1 : Int} {ns : List Node} {ps : List Pipe} {os : List Order} {rs : List Reading} (h : allC n1 ns ps os rs = 0) : netB ns ps = true ∧ ordersB n1 os = true ∧ readsB n1 rs = true := by
  unfold allC at h
  split at h
  · rename_i h1
    obtain ⟨a, b⟩ := ordC_ok h1
    refine ⟨a, b, ?_⟩
    split at h
    · assumption
    · cases h
  · rename_i h1; exact absurd h h1
theorem allC_none (n1 : Int) (ns : List Node) (ps : List Pipe) (rs : List Reading) : allC n1 ns ps [] rs = if netB ns ps = true then (if readsB n1 rs = true then 0 else 3) else 1 := by
  unfold allC ordC
  have h : ordersB n1 [] = true := rfl
  cases netB ns ps
  · rfl
  · rw [h]; rfl
set_option maxHeartbeats 1000000 in
theorem c_checkReadings (A1 A2 : Option Addr) (n1 c1 n2 c2 : Nat) (ns : List Node) (ps : List Pipe) (O : Option Addr) (no co : Nat) (os : List Order) (A : Option Addr) (n c : Nat) (rs : List Reading) (w : World) (hs1 : SliceOf w 3 Node.cells A1 n1 c1 ns) (hs2 : SliceOf w 5 Pipe.cells A2 n2 c2 ps) (hso : SliceOf w 4 Order.cells O no co os) (hs : SliceOf w 2 Reading.cells A n c rs) : Calls Try.prog 18 #[.agg #[.slice A1 n1 c1, .slice A2 n2 c2], .slice O no co, .slice A n c] w (Ret (.int .i64 (allC n1 ns ps os rs)) w) := by
  by_cases hC : ordC n1 ns ps os = 0
  · unfold allC
    rw [if_pos hC]
    exact c_checkReads0 A1 A2 n1 c1 n2 c2 ns ps O no co os A n c rs w hs1 hs2 hso hs hC
  · have HR := hide (show allC n1 ns ps os rs = ordC n1 ns ps os by unfold allC; rw [if_neg hC])
    rw [HR.out]
    have hb : (ordC n1 ns ps os == 0) = false := by rw [beq_eq_false_iff_ne]; exact hC
    have hx0 : Ext w (w.alloc (.cells #[.slice A1 n1 c1, .slice A2 n2 c2] 27)) := Ext.alloc _ _
    clear hC
    go_enter Try.func18, Try.ntmps18
    go_wp2_with fail
    refine (c_checkOrders A1 A2 n1 c1 n2 c2 ns ps O no co os _ (hs1.ext hx0) (hs2.ext hx0) (hso.ext hx0)).mono ?_
    rintro e w1 ⟨rfl, hx1⟩
    generalize ordC n1 ns ps os = Z at *
    go_wp2_with fail
    go_ret
    exact Ret.int rfl (hx0.trans hx1)
theorem slice_none {α : Type} (w : World) (size : Nat) (f : α → List Value) : SliceOf w size f none 0 0 [] := ⟨rfl, Nat.le_refl _, Nat.zero_le _, fun h => absurd h (Nat.lt_irrefl 0)⟩
end Go.Proofs.Ytegkeeeohileiaa
