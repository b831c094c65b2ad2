/-
  Books: validity, of the program and of the reference, with the network.
-/
import Derived.Test.YtjpmiokbgpggbaaGreatQa09
namespace Go.Proofs.YtjpmiokbgpggbaaGreat
open Go.RowKit
set_option maxHeartbeats 2000000 in
theorem c_l20Book (A1 A2 : Option Addr) (n1 c1 n2 c2 : Nat) (A : Option Addr) (n c : Nat) (xs : List Contract) (w : World) (hn : n1 ≤ 9223372036854775807) (hs : SliceOf w 8 Contract.cells A n c xs) :
    Calls Tryz.prog 124 #[.agg #[.slice A1 n1 c1, .slice A2 n2 c2], .slice A n c] w (Ret (.bool (bookB n1 xs)) w) := by
  have hm := hs.max
  have hcap := hs.cap
  have hl := hs.len
  by_cases h : n ≤ 32
  · have HR := hide (show bookB n1 xs = xs.all (conB n1) by simp [bookB, ← hl, h])
    have HL := hide hl
    clear hl
    go_enter Tryz.func124, Tryz.ntmps124
    go_wp2_with fail
    go_loopw [5] (fun i wr => ∃ k : Nat, k ≤ n ∧ i = .int .i64 k ∧ Hid (∀ (j : Nat) (p : Contract), j < k → xs[j]? = some p → conB n1 p = true) ∧ NetBox w A1 A2 n1 c1 n2 c2 wr) (fun i _ => n - (intOf i).toNat)
    case atStart => exact ⟨0, Nat.zero_le _, rfl, hide (fun j p hj => absurd hj (by omega)), ⟨Ext.refl _⟩⟩
    case round =>
      obtain ⟨k, hk, rfl, HK, hX⟩ := hrel
      have hx := hX.ext.box
      obtain ⟨x0, x1, hz⟩ := hX.cell
      by_cases hlt : k < n
      · obtain ⟨bb, off, p, rfl, hbb, hxk, t⟩ := (hs.ext hx).get hlt
        have t0 := (t 0 _ rfl)
        have t1 := (t 1 _ rfl)
        have t2 := (t 2 _ rfl)
        have t3 := (t 3 _ rfl)
        have t4 := (t 4 _ rfl)
        have t5 := (t 5 _ rfl)
        have t6 := (t 6 _ rfl)
        have t7 := (t 7 _ rfl)
        clear t
        simp only [Nat.add_zero] at t0
        have HX := hide hxk
        clear hxk
        go_wp2_with fail
        refine wp_region_ph [([0, 1, 2, 3, 4], 5)] [6] (by kernel_rfl) (by kernel_rfl) (by intro c a w d v h; cases d <;> exact h) ?_
        simp only [wpPh, pickL, nthO]
        repeat (go_big_quiet_step (fail))
        refine wpQuiet_nil ?_
        go_wp2_with fail
        refine (c_l20Is A1 A2 n1 c1 n2 c2 p _ hn).mono ?_
        cases hp : conB n1 p
        · rintro e w1 ⟨rfl, hx1⟩
          have HF := hide (show bookB n1 xs = false by rw [HR.out, List.all_eq_false]; exact ⟨p, List.mem_of_getElem? HX.out, by simp [hp]⟩)
          go_wp2_with fail
          refine ⟨hx1, ?_⟩
          repeat (go_big_quiet_step (fail))
          refine wpQuiet_nil ?_
          go_wp2_with fail
          go_ret
          exact Ret.bool HF.out (hx.drew.trans hx1)
        · rintro e w1 ⟨rfl, hx1⟩
          go_wp2_with fail
          refine ⟨hx1, ?_⟩
          repeat (go_big_quiet_step (fail))
          refine wpQuiet_nil ?_
          go_wp2_with fail
          go_roundw
          case rel =>
            refine ⟨k + 1, by omega, by go_num, hide fun j q hj hq => ?_, ⟨hX.ext.trans ((Ext.refl _).drew.trans hx1)⟩⟩
            by_cases e : j = k
            · subst e; rw [HX.out] at hq; injection hq with hq; subst hq; exact hp
            · exact HK.out j q (by omega) hq
          case measure => simp [intOf]; omega
      · have HF := hide (show bookB n1 xs = true by
          rw [HR.out, List.all_eq_true]; intro q hq
          obtain ⟨j, hj, rfl⟩ := List.mem_iff_getElem.1 hq
          exact HK.out j _ (by have := HL.out; omega) (List.getElem?_eq_getElem hj))
        go_wp2_with fail
        go_ret
        exact Ret.bool HF.out hx
  · have HR := hide (show bookB n1 xs = false by simp [bookB, ← hl, h])
    clear hl
    have h' : (32 : Int) < n := by omega
    go_enter Tryz.func124, Tryz.ntmps124
    go_wp2_with fail
    go_ret
    exact Ret.bool HR.out (Ext.alloc _ _)

def bookC (n1 : Int) (ns : List Node) (ps : List Pipe) (xs : List Contract) : Int := if netB ns ps = false then 1 else if bookB n1 xs = false then 3 else 0
set_option maxHeartbeats 1000000 in
theorem c_specIsBook (A1 A2 : Option Addr) (n1 c1 n2 c2 : Nat) (ns : List Node) (ps : List Pipe) (A : Option Addr) (n c : Nat) (xs : List Contract) (w : World) (hs1 : SliceOf w 3 Node.cells A1 n1 c1 ns) (hs2 : SliceOf w 5 Pipe.cells A2 n2 c2 ps) (hs : SliceOf w 8 Contract.cells A n c xs)(hnm : ∀ x ∈ ns, x.name.size ≤ 1048576) :
    Calls Tryz.prog 81 #[.agg #[.slice A1 n1 c1, .slice A2 n2 c2], .slice A n c] w (Ret (.bool (netB ns ps && bookB n1 xs)) w) := by
  have hm1 := hs1.max
  have hp1 := hs1.cap
  cases hN : netB ns ps
  · go_enter Tryz.func81, Tryz.ntmps81
    go_wp2_with fail
    refine (c_specIsNetwork A1 A2 n1 c1 n2 c2 ns ps _ (hs1.ext (Ext.alloc _ _)) (hs2.ext (Ext.alloc _ _)) hnm).mono ?_
    rw [hN]
    rintro e w1 ⟨rfl, hx1⟩
    go_wp2_with fail
    go_ret
    exact Ret.bool rfl hx1.box
  · go_enter Tryz.func81, Tryz.ntmps81
    go_wp2_with fail
    refine (c_specIsNetwork A1 A2 n1 c1 n2 c2 ns ps _ (hs1.ext (Ext.alloc _ _)) (hs2.ext (Ext.alloc _ _)) hnm).mono ?_
    rw [hN]
    rintro e w1 ⟨rfl, hx1⟩
    have hX : NetBox w A1 A2 n1 c1 n2 c2 w1 := ⟨hx1⟩
    obtain ⟨x0, x1, hz⟩ := hX.cell
    go_wp2_with fail
    refine (c_l20Book A1 A2 n1 c1 n2 c2 A n c xs _ (by omega) (hs.ext hx1.box)).mono ?_
    rintro e w2 ⟨rfl, hx2⟩
    go_wp2_with fail
    go_ret
    exact Ret.bool rfl (hx1.box.trans hx2)

set_option maxHeartbeats 1000000 in
theorem c_checkBook (A1 A2 : Option Addr) (n1 c1 n2 c2 : Nat) (ns : List Node) (ps : List Pipe) (A : Option Addr) (n c : Nat) (xs : List Contract) (w : World) (hs1 : SliceOf w 3 Node.cells A1 n1 c1 ns) (hs2 : SliceOf w 5 Pipe.cells A2 n2 c2 ps) (hs : SliceOf w 8 Contract.cells A n c xs) :
    Calls Tryz.prog 118 #[.agg #[.slice A1 n1 c1, .slice A2 n2 c2], .slice A n c] w (Ret (.int .i64 (bookC n1 ns ps xs)) w) := by
  have hm1 := hs1.max
  have hp1 := hs1.cap
  cases hN : netB ns ps
  · have HR := hide (show bookC n1 ns ps xs = 1 by simp [bookC, hN])
    go_enter Tryz.func118, Tryz.ntmps118
    go_wp2_with fail
    refine (c_IsNetwork A1 A2 n1 c1 n2 c2 ns ps _ (hs1.ext (Ext.alloc _ _)) (hs2.ext (Ext.alloc _ _))).mono ?_
    rw [hN]
    rintro e w1 ⟨rfl, hx1⟩
    go_wp2_with fail
    go_ret
    exact Ret.int HR.out hx1.box
  cases hB : bookB n1 xs
  · have HR := hide (show bookC n1 ns ps xs = 3 by simp [bookC, hN, hB])
    go_enter Tryz.func118, Tryz.ntmps118
    go_wp2_with fail
    refine (c_IsNetwork A1 A2 n1 c1 n2 c2 ns ps _ (hs1.ext (Ext.alloc _ _)) (hs2.ext (Ext.alloc _ _))).mono ?_
    rw [hN]
    rintro e w1 ⟨rfl, hx1⟩
    have hX : NetBox w A1 A2 n1 c1 n2 c2 w1 := ⟨hx1⟩
    obtain ⟨x0, x1, hz⟩ := hX.cell
    go_wp2_with fail
    refine (c_isBook A1 A2 n1 c1 n2 c2 A n c xs _ (by omega) (hs.ext hx1.box)).mono ?_
    rw [hB]
    rintro e w2 ⟨rfl, hx2⟩
    go_wp2_with fail
    go_ret
    exact Ret.int HR.out (hx1.box.trans hx2)
  · have HR := hide (show bookC n1 ns ps xs = 0 by simp [bookC, hN, hB])
    go_enter Tryz.func118, Tryz.ntmps118
    go_wp2_with fail
    refine (c_IsNetwork A1 A2 n1 c1 n2 c2 ns ps _ (hs1.ext (Ext.alloc _ _)) (hs2.ext (Ext.alloc _ _))).mono ?_
    rw [hN]
    rintro e w1 ⟨rfl, hx1⟩
    have hX : NetBox w A1 A2 n1 c1 n2 c2 w1 := ⟨hx1⟩
    obtain ⟨x0, x1, hz⟩ := hX.cell
    go_wp2_with fail
    refine (c_isBook A1 A2 n1 c1 n2 c2 A n c xs _ (by omega) (hs.ext hx1.box)).mono ?_
    rw [hB]
    rintro e w2 ⟨rfl, hx2⟩
    go_wp2_with fail
    go_ret
    exact Ret.int HR.out (hx1.box.trans hx2)
end Go.Proofs.YtjpmiokbgpggbaaGreat
