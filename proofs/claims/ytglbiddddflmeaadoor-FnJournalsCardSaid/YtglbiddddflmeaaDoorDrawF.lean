

/-
  The reference's source of numbers is made of the code.
-/
import Derived.Test.YtglbiddddflmeaaDoorDraw
namespace Go.Proofs.YtglbiddddflmeaaDoor
open Go.RowKit

/-- a new source -/
def NewSrc (A : Option Addr) (n c : Nat) (w : World) (e : Ending) (w' : World) : Prop :=
  ∃ a, e = .returned (.pointer (some ⟨a, 0, none⟩)) ∧ w.heap.size ≤ a ∧ a < w'.heap.size ∧ SrcAt w' a A n c ∧ Ext w w'
theorem NewSrc.of {A : Option Addr} {n c a : Nat} {w w' : World} (h0 : w.heap.size ≤ a) (h1 : a < w'.heap.size) (hs : SrcAt w' a A n c) (hx : Ext w w') : NewSrc A n c w (.returned (.pointer (some ⟨a, 0, none⟩))) w' := ⟨a, rfl, h0, h1, hs, hx⟩

set_option maxHeartbeats 2000000 in
theorem c_l01From (A : Option Addr) (n c : Nat) (bs : List Int) (w : World) (hbs : SliceOf w 1 byteC A n c bs) (hbd : ∀ z ∈ bs, 0 ≤ z ∧ z ≤ 255) :
    Calls Tryd.prog 49 #[.slice A n c] w (NewSrc A n c w) := by
  have hm := hbs.max
  have hcap := hbs.cap
  have hR0 := Row.new w 98 [.slice A n c, .int .i64 0, .int .i64 50311]
  go_enter Tryd.func49, Tryd.ntmps49
  go_wp2_with fail
  go_loopw [4] (fun i wr => ∃ (k : Nat) (s : Int), k ≤ n ∧ i = .int .i64 k ∧ Row wr w.heap.size 98 [.slice A n c, .int .i64 0, .int .i64 s] ∧ 0 ≤ s ∧ s < 2147483647 ∧ Ext w wr) (fun i _ => n - (intOf i).toNat)
  case atStart => exact ⟨0, 50311, Nat.zero_le _, rfl, hR0, by omega, by omega, Ext.alloc _ _⟩
  case round =>
    obtain ⟨k, s, hk, rfl, hrow, hs0, hs1, hx⟩ := hrel
    clear hR0
    have hgs := hrow.lt
    have hfin : NewSrc A n c w (.returned (.pointer (some ⟨w.heap.size, 0, none⟩))) wr := NewSrc.of (Nat.le_refl _) hgs ⟨0, s, hrow, by omega, by omega, hs0, hs1⟩ hx
    by_cases hlt : k < n
    · by_cases h64 : k < 64
      · obtain ⟨b, off, z, rfl, hb, hzk, hc⟩ := hbs.get hlt
        have hz : wr.cell? ⟨b, off + k, none⟩ = some (.int .u8 z) := by
          rw [hx.cell _ _ hb]; simpa using hc 0 _ rfl
        obtain ⟨hz0, hz1⟩ := hbd z (List.mem_of_getElem? hzk)
        have c2 := hrow.cell 2
        simp at c2
        have f2 := hrow.frozen 2
        have hrow2 := hrow.set_ 2 (.int .i64 ((s * 41 + z) % 2147483647))
        simp at hrow2
        have e1 : IntKind.i64.wrap z = z := IntWalk.i64_in _ (by omega)
        clear hc hzk hbd hfin
        go_wp2_with fail
        refine wp_region_tail 15 (by kernel_rfl) (by kernel_rfl) ?_
        simp only [List.take_succ_cons, List.take_zero, List.drop_succ_cons, List.drop_zero]
        repeat (go_big_quiet_step (fail))
        refine wpQuiet_nil ?_
        go_wp2_with fail
        go_round
        case rel =>
          refine ⟨k + 1, _, by omega, by go_num, hrow2, by omega, by omega, ?_⟩
          exact Ext.setCell (Ext.drewN hx _) (Nat.le_refl _) _
        case measure => simp [intOf]; omega
      · go_wp2_with fail
        go_ret
        exact hfin
    · go_wp2_with fail
      go_ret
      exact hfin

end Go.Proofs.YtglbiddddflmeaaDoor
