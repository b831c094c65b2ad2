
/-
  The helpers of the laws on nodes, networks, lists of lists: measuring.
-/
import Derived.Test.YtjpmiokbgpggbaaNodeH
namespace Go.Proofs.Ytjpmiokbgpggbaa
open Go.RowKit
/-- what a measuring helper leaves: -1, or what is left and what is known then -/
def Sized (P : Prop) (left : Int) (w : World) (e : Ending) (w' : World) : Prop := ∃ z : Int, e = .returned (.int .i64 z) ∧ Ext w w' ∧ (z = -1 ∨ (0 ≤ z ∧ z ≤ left ∧ P))
def Named (ns : List Node) : Prop := ∀ x ∈ ns, x.name.size ≤ 1048576
def Named0 (ns : List Node) : Prop := ∀ x ∈ ns, x.name.size ≤ 9223372036854775807
theorem c_szNode (x : Node) (left : Int) (w : World) (h0 : 0 ≤ left) (h1 : left ≤ 1048576) (hx : x.name.size ≤ 9223372036854775807) :
    Calls Try.prog 92 #[.agg #[.string x.name, .int .i64 x.low, .int .i64 x.high], .int .i64 left] w (Sized (x.name.size ≤ 1048576) left w) := by
  by_cases h : left < x.name.size
  · have e1 : IntKind.i64.wrap (left - (x.name.size : Int)) = left - (x.name.size : Int) := IntWalk.i64_in _ (by omega)
    have h' : left - (x.name.size : Int) < 0 := by omega
    go_enter Try.func92, Try.ntmps92
    go_wp2_with fail
    go_ret
    exact ⟨-1, rfl, Ext.alloc _ _, .inl rfl⟩
  · have e1 : IntKind.i64.wrap (left - (x.name.size : Int)) = left - (x.name.size : Int) := IntWalk.i64_in _ (by omega)
    have h' : ¬ left - (x.name.size : Int) < 0 := by omega
    go_enter Try.func92, Try.ntmps92
    go_wp2_with fail
    go_ret
    exact ⟨_, rfl, Ext.alloc _ _, .inr ⟨by omega, by omega, by omega⟩⟩
set_option maxHeartbeats 1000000 in
theorem c_szNodeS (A : Option Addr) (n c : Nat) (ns : List Node) (left : Int) (w : World) (hs : SliceOf w 3 Node.cells A n c ns) (hnm : Named0 ns) (h0 : 0 ≤ left) (h1 : left ≤ 1048576) :
    Calls Try.prog 50 #[.slice A n c, .int .i64 left] w (Sized (n ≤ 1048576 ∧ Named ns) left w) := by
  have hm := hs.max
  have hcap := hs.cap
  have HL := hide hs.len
  have HNM := hide hnm
  clear hnm
  by_cases h : left < n
  · have h' : left - (n : Int) < 0 := by omega
    go_enter Try.func50, Try.ntmps50
    go_wp2_with fail
    go_ret
    exact ⟨-1, rfl, Ext.refl _, .inl rfl⟩
  have h' : ¬ left - (n : Int) < 0 := by omega
  have hn : n ≤ 1048576 := by omega
  go_enter Try.func50, Try.ntmps50
  go_wp2_with fail
  go_loopw [1, 5] (fun z i wr => ∃ (k : Nat) (y : Int), k ≤ n ∧ z = .int .i64 y ∧ i = .int .i64 k ∧ 0 ≤ y ∧ y ≤ left ∧ Hid (∀ (j : Nat) (p : Node), j < k → ns[j]? = some p → p.name.size ≤ 1048576) ∧ Ext w wr) (fun _ i _ => n - (intOf i).toNat)
  case atStart => exact ⟨0, _, Nat.zero_le _, rfl, rfl, by omega, by omega, hide (fun j p hj => absurd hj (by omega)), Ext.refl _⟩
  case round =>
    obtain ⟨k, y, hk, rfl, rfl, hy0, hy1, HK, hx⟩ := hrel
    by_cases hlt : k < n
    · obtain ⟨bb, off, p, rfl, hbb, hxk, t⟩ := (hs.ext hx).get hlt
      have t0 := t 0 _ rfl
      have t1 := t 1 _ rfl
      have t2 := t 2 _ rfl
      simp only [Nat.add_zero] at t0
      have hp := HNM.out p (List.mem_of_getElem? hxk)
      have HX := hide hxk
      clear hxk t
      go_wp2_with fail
      refine (c_szNode p y _ hy0 (by omega) hp).mono ?_
      rintro e w1 ⟨z, rfl, hx1, rfl | ⟨hz0, hz1, hz2⟩⟩
      · go_wp2_with fail
        go_ret
        exact ⟨-1, rfl, hx.trans hx1, .inl rfl⟩
      · have hz' : ¬ z < 0 := by omega
        go_wp2_with fail
        go_roundw
        case rel =>
          refine ⟨k + 1, z, by omega, rfl, by go_num, by omega, by omega, hide fun j q hj hq => ?_, hx.trans hx1⟩
          by_cases e : j = k
          · subst e; rw [HX.out] at hq; injection hq with hq; subst hq; exact hz2
          · exact HK.out j q (by omega) hq
        case measure => simp [intOf]; omega
    · go_wp2_with fail
      go_ret
      refine ⟨y, rfl, hx, .inr ⟨hy0, hy1, hn, fun q hq => ?_⟩⟩
      obtain ⟨j, hj, rfl⟩ := List.mem_iff_getElem.1 hq
      exact HK.out j _ (by have := HL.out; omega) (List.getElem?_eq_getElem hj)
theorem c_szNetwork (A1 A2 : Option Addr) (n1 c1 n2 c2 : Nat) (ns : List Node) (left : Int) (w : World) (hs1 : SliceOf w 3 Node.cells A1 n1 c1 ns) (h21 : n2 ≤ c2) (h22 : c2 ≤ 9223372036854775807) (hnm : Named0 ns) (h0 : 0 ≤ left) (h1 : left ≤ 1048576) :
    Calls Try.prog 15 #[.agg #[.slice A1 n1 c1, .slice A2 n2 c2], .int .i64 left] w (Sized ((n1 ≤ 1048576 ∧ Named ns) ∧ n2 ≤ 1048576) left w) := by
  go_enter Try.func15, Try.ntmps15
  go_wp2_with fail
  refine (c_szNodeS A1 n1 c1 ns left _ (hs1.ext (Ext.alloc _ _)) hnm h0 h1).mono ?_
  rintro e w1 ⟨z, rfl, hx1, rfl | ⟨hz0, hz1, hz2⟩⟩
  · go_wp2_with fail
    go_ret
    exact ⟨-1, rfl, hx1.box, .inl rfl⟩
  have hz' : ¬ z < 0 := by omega
  have hcl := hx1.cell
  go_wp2_with fail
  refine (c_szPipeS A2 n2 c2 z _ h21 h22 hz0 (by omega)).mono ?_
  rintro e w' ⟨rfl, rfl⟩
  by_cases h : z < n2
  · rw [if_pos h]
    go_wp2_with fail
    go_ret
    exact ⟨-1, rfl, hx1.box, .inl rfl⟩
  · rw [if_neg h]
    have h' : ¬ z - (n2 : Int) < 0 := by omega
    go_wp2_with fail
    go_ret
    exact ⟨_, rfl, hx1.box, .inr ⟨by omega, by omega, hz2, by omega⟩⟩
end Go.Proofs.Ytjpmiokbgpggbaa
