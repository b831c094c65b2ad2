/-
  The reference's source of numbers: l01From and l01Next. What is drawn is some number below a bound. The reference's source of numbers is made of the code.
-/
import Derived.Test.YtegkeeeohileiaaSa00
import Derived.Test.YtegkeeeohileiaaSa02
import Derived.Test.YtegkeeeohileiaaSa03
namespace Go.Proofs.Ytegkeeeohileiaa
open Go.RowKit

def byteC (z : Int) : List Value := [.int .u8 z]
/-- a source behind a pointer -/
def SrcAt (w : World) (a : Nat) (A : Option Addr) (n c : Nat) : Prop :=
  ∃ at_ seed : Int, Row w a 61 [.slice A n c, .int .i64 at_, .int .i64 seed] ∧ 0 ≤ at_ ∧ at_ ≤ n ∧ 0 ≤ seed ∧ seed < 2147483647
/-- a number below m (0 where m is 1 or less) -/
def Drawn (m : Int) (a : Nat) (A : Option Addr) (n c : Nat) (w : World) (e : Ending) (w' : World) : Prop :=
  ∃ x : Int, e = .returned (.int .i64 x) ∧ 0 ≤ x ∧ (x < m ∨ x = 0) ∧ SrcAt w' a A n c ∧ Only a w w'
theorem Drawn.of {m x : Int} {a : Nat} {A : Option Addr} {n c : Nat} {w w' : World} (h0 : 0 ≤ x) (h1 : x < m ∨ x = 0) (hs : SrcAt w' a A n c) (hk : Only a w w') : Drawn m a A n c w (.returned (.int .i64 x)) w' := ⟨x, rfl, h0, h1, hs, hk⟩

set_option maxHeartbeats 2000000 in
theorem c_l01Next (a : Nat) (m : Int) (A : Option Addr) (n c : Nat) (bs : List Int) (w0 w : World) (hbs : SliceOf w0 1 byteC A n c bs) (hbd : ∀ z ∈ bs, 0 ≤ z ∧ z ≤ 255) (hx0 : Ext w0 w) (ha : w0.heap.size ≤ a) (hsrc : SrcAt w a A n c) (hn : n ≤ 1048576) (hm1 : -9000000000000000000 ≤ m) (hm2 : m ≤ 9000000000000000000) :
    Calls Try.prog 29 #[.pointer (some ⟨a, 0, none⟩), .int .i64 m] w (Drawn m a A n c w) := by
  by_cases hm : m ≤ 1
  · go_enter Try.func29, Try.ntmps29
    go_wp2_with fail
    go_ret
    exact Drawn.of (by omega) (.inr rfl) hsrc (Only.refl _ _)
  obtain ⟨t, seed, hrow, ht0, ht1, hs0, hs1⟩ := hsrc
  obtain ⟨t, rfl⟩ := Int.eq_ofNat_of_zero_le ht0
  have c0 := hrow.cell 0
  have c1 := hrow.cell 1
  have c2 := hrow.cell 2
  simp at c0 c1 c2
  have f1 := hrow.frozen 1
  have f2 := hrow.frozen 2
  have hal := hrow.lt
  have hsd : 0 ≤ (seed * 48271 + 7) % 2147483647 ∧ (seed * 48271 + 7) % 2147483647 < 2147483647 := by omega
  have hrow2 := hrow.set_ 2 (.int .i64 ((seed * 48271 + 7) % 2147483647))
  simp at hrow2
  have hmod : ∀ x : Int, 0 ≤ x → 0 ≤ x % m ∧ x % m < m := fun x _ => ⟨Int.emod_nonneg _ (by omega), Int.emod_lt_of_pos _ (by omega)⟩
  have HM := hide hmod
  clear hmod
  by_cases hlt : t < n
  · obtain ⟨b, off, z, rfl, hb, hzk, hc⟩ := hbs.get hlt
    have hz : w.cell? ⟨b, off + t, none⟩ = some (.int .u8 z) := by
      rw [hx0.cell _ _ hb]; simpa using hc 0 _ rfl
    obtain ⟨hz0, hz1⟩ := hbd z (List.mem_of_getElem? hzk)
    have hba : b ≠ a := by omega
    have hbl : b < w.heap.size := by have := hx0.size; omega
    have e1 : IntKind.i64.wrap z = z := IntWalk.i64_in _ (by omega)
    have hlt' : decide (t < n) = true := by simpa using hlt
    clear hc hzk hbd
    have hrow3 := hrow2.set_ 1 (.int .i64 ((t : Int) + 1))
    simp at hrow3
    have e2 : IntKind.i64.wrap ((seed * 48271 + 7) % 2147483647 / 19 + z) = (seed * 48271 + 7) % 2147483647 / 19 + z := IntWalk.i64_in _ (by omega)
    have hfin : ∀ (x : Int) (k k' : Nat), 0 ≤ x → Drawn m a (some ⟨b, off, none⟩) n c w (.returned (.int .i64 (x % m))) ((((w.setCell ⟨a, 2, none⟩ (.int .i64 ((seed * 48271 + 7) % 2147483647))).drewN k').setCell ⟨a, 1, none⟩ (.int .i64 ((t : Int) + 1))).drewN k) := by
      intro x k k' hx
      obtain ⟨r0, r1⟩ := HM.out x hx
      exact Drawn.of r0 (.inl r1) ⟨_, _, hrow3, by omega, by omega, hsd.1, hsd.2⟩ (((((Only.refl a w).setCell (p := ⟨a, 2, none⟩) rfl _).drewN _).setCell (p := ⟨a, 1, none⟩) rfl _).drewN _)
    have hfin0 : ∀ (x : Int) (k' : Nat), 0 ≤ x → Drawn m a (some ⟨b, off, none⟩) n c w (.returned (.int .i64 (x % m))) (((w.setCell ⟨a, 2, none⟩ (.int .i64 ((seed * 48271 + 7) % 2147483647))).drewN k').setCell ⟨a, 1, none⟩ (.int .i64 ((t : Int) + 1))) := fun x k' hx => hfin x 0 k' hx
    have HF0 := hide hfin0
    clear hfin0
    have HF := hide hfin
    clear hfin
    have hw : (m ≤ 256 ∧ (((t : Int) + 1) % 2 == 0) = true) ∨ decide (m ≤ 256) = false ∨ (m ≤ 256 ∧ (((t : Int) + 1) % 2 == 0) = false) := by
      by_cases h : m ≤ 256
      · cases h2 : (((t : Int) + 1) % 2 == 0)
        · exact .inr (.inr ⟨h, rfl⟩)
        · exact .inl ⟨h, rfl⟩
      · right; left; simpa using h
    rcases hw with ⟨g1, g2⟩ | g1 | ⟨g1, g2⟩
    · have e3 : IntKind.i64.wrap ((t : Int) + 1 - 1) = (t : Int) + 1 - 1 := IntWalk.i64_in _ (by omega)
      have e4 : (0 : Int) ≤ (t : Int) + 1 - 1 := by omega
      have e5 : ((t : Int) + 1 - 1).toNat = t := by omega
      go_enter Try.func29, Try.ntmps29
      go_wp2_with fail
      go_quiet (fail)
      go_wp2_with fail
      go_quiet (fail)
      go_wp2_with fail
      go_quiet (fail)
      go_wp2_with fail
      go_ret
      first | exact HF.out z _ _ hz0 | exact HF0.out _ _ (by omega)
    · go_enter Try.func29, Try.ntmps29
      go_wp2_with fail
      go_quiet (fail)
      go_wp2_with fail
      go_quiet (fail)
      go_wp2_with fail
      go_ret
      first | exact HF.out z _ _ hz0 | exact HF0.out _ _ (by omega)
    · go_enter Try.func29, Try.ntmps29
      go_wp2_with fail
      go_quiet (fail)
      go_wp2_with fail
      go_quiet (fail)
      go_wp2_with fail
      go_ret
      first | exact HF.out z _ _ hz0 | exact HF0.out _ _ (by omega)
  · have hlt' : decide (t < n) = false := by simpa using hlt
    go_enter Try.func29, Try.ntmps29
    go_wp2_with fail
    go_quiet (fail)
    go_wp2_with fail
    go_ret
    obtain ⟨r0, r1⟩ := HM.out ((seed * 48271 + 7) % 2147483647 / 19) (by omega)
    exact Drawn.of r0 (.inl r1) ⟨_, _, hrow2, by omega, by omega, hsd.1, hsd.2⟩ (((Only.refl a w).setCell (p := ⟨a, 2, none⟩) rfl _).drewN _)

end Go.Proofs.Ytegkeeeohileiaa

namespace Go.Proofs.Ytegkeeeohileiaa
open Go.RowKit

/-- a new source -/
def NewSrc (A : Option Addr) (n c : Nat) (w : World) (e : Ending) (w' : World) : Prop :=
  ∃ a, e = .returned (.pointer (some ⟨a, 0, none⟩)) ∧ w.heap.size ≤ a ∧ a < w'.heap.size ∧ SrcAt w' a A n c ∧ Ext w w'
theorem NewSrc.of {A : Option Addr} {n c a : Nat} {w w' : World} (h0 : w.heap.size ≤ a) (h1 : a < w'.heap.size) (hs : SrcAt w' a A n c) (hx : Ext w w') : NewSrc A n c w (.returned (.pointer (some ⟨a, 0, none⟩))) w' := ⟨a, rfl, h0, h1, hs, hx⟩

set_option maxHeartbeats 2000000 in
theorem c_l01From (A : Option Addr) (n c : Nat) (bs : List Int) (w : World) (hbs : SliceOf w 1 byteC A n c bs) (hbd : ∀ z ∈ bs, 0 ≤ z ∧ z ≤ 255) :
    Calls Try.prog 17 #[.slice A n c] w (NewSrc A n c w) := by
  have hm := hbs.max
  have hcap := hbs.cap
  have hR0 := Row.new w 61 [.slice A n c, .int .i64 0, .int .i64 50311]
  go_enter Try.func17, Try.ntmps17
  go_wp2_with fail
  go_loopw [4] (fun i wr => ∃ (k : Nat) (s : Int), k ≤ n ∧ i = .int .i64 k ∧ Row wr w.heap.size 61 [.slice A n c, .int .i64 0, .int .i64 s] ∧ 0 ≤ s ∧ s < 2147483647 ∧ Ext w wr) (fun i _ => n - (intOf i).toNat)
  case atStart => exact ⟨0, 50311, Nat.zero_le _, rfl, hR0, by omega, by omega, Ext.alloc _ _⟩
  case round =>
    obtain ⟨k, s, hk, rfl, hrow, hs0, hs1, hx⟩ := hrel
    clear hR0
    have hgs := hrow.lt
    have hfin : NewSrc A n c w (.returned (.pointer (some ⟨w.heap.size, 0, none⟩))) wr := NewSrc.of (Nat.le_refl _) hgs ⟨0, s, hrow, by omega, by omega, hs0, hs1⟩ hx
    by_cases hlt : k < n
    · by_cases h64 : k < 64
      · obtain ⟨b, off, z, rfl, hb, hzk, hc⟩ := hbs.get hlt
        have hz : wr.cell? ⟨b, off + k, none⟩ = some (.int .u8 z) := by
          rw [hx.cell _ _ hb]; simpa using hc 0 _ rfl
        obtain ⟨hz0, hz1⟩ := hbd z (List.mem_of_getElem? hzk)
        have c2 := hrow.cell 2
        simp at c2
        have f2 := hrow.frozen 2
        have hrow2 := hrow.set_ 2 (.int .i64 ((s * 41 + z) % 2147483647))
        simp at hrow2
        have e1 : IntKind.i64.wrap z = z := IntWalk.i64_in _ (by omega)
        clear hc hzk hbd hfin
        go_wp2_with fail
        refine wp_region_tail 15 (by kernel_rfl) (by kernel_rfl) ?_
        simp only [List.take_succ_cons, List.take_zero, List.drop_succ_cons, List.drop_zero]
        repeat (go_big_quiet_step (fail))
        refine wpQuiet_nil ?_
        go_wp2_with fail
        go_round
        case rel =>
          refine ⟨k + 1, _, by omega, by go_num, hrow2, by omega, by omega, ?_⟩
          exact Ext.setCell (Ext.drewN hx _) (Nat.le_refl _) _
        case measure => simp [intOf]; omega
      · go_wp2_with fail
        go_ret
        exact hfin
    · go_wp2_with fail
      go_ret
      exact hfin

end Go.Proofs.Ytegkeeeohileiaa
