
/-
  The reference's draws of a number.
-/
import Derived.Test.YtbkmnoedhilopaaDrawF
namespace Go.Proofs.Ytbkmnoedhilopaa
open Go.RowKit

theorem SrcAt.ext {w w' : World} {a n c : Nat} {A : Option Addr} (h : SrcAt w a A n c) (hx : Ext w w') : SrcAt w' a A n c :=
  let ⟨p, s, hr, r⟩ := h; ⟨p, s, hr.ext hx, r⟩
theorem SrcAt.only {w w' : World} {a g n c : Nat} {A : Option Addr} (h : SrcAt w a A n c) (hx : Only g w w') (hne : a ≠ g) : SrcAt w' a A n c :=
  let ⟨p, s, hr, r⟩ := h; ⟨p, s, hr.only hx hne, r⟩
theorem SrcAt.lt {w : World} {a n c : Nat} {A : Option Addr} (h : SrcAt w a A n c) : a < w.heap.size := let ⟨_, _, hr, _⟩ := h; hr.lt
/-- a number between two bounds -/
def DrawnIn (lo hi : Int) (a : Nat) (A : Option Addr) (n c : Nat) (w : World) (e : Ending) (w' : World) : Prop :=
  ∃ x : Int, e = .returned (.int .i64 x) ∧ lo ≤ x ∧ x ≤ hi ∧ SrcAt w' a A n c ∧ Only a w w'
theorem DrawnIn.of {lo hi x : Int} {a : Nat} {A : Option Addr} {n c : Nat} {w w' : World} (h0 : lo ≤ x) (h1 : x ≤ hi) (hs : SrcAt w' a A n c) (hk : Only a w w') : DrawnIn lo hi a A n c w (.returned (.int .i64 x)) w' := ⟨x, rfl, h0, h1, hs, hk⟩

set_option maxHeartbeats 2000000 in
theorem c_l29DrawNumber (a : Nat) (A : Option Addr) (n c : Nat) (bs : List Int) (w0 w : World) (hbs : SliceOf w0 1 byteC A n c bs) (hbd : ∀ z ∈ bs, 0 ≤ z ∧ z ≤ 255) (hx0 : Ext w0 w) (ha : w0.heap.size ≤ a) (hsrc : SrcAt w a A n c) (hn : n ≤ 1048576) :
    Calls Try.prog 62 #[.pointer (some ⟨a, 0, none⟩)] w (DrawnIn (-1) 1000000001 a A n c w) := by
  have nxt := fun (m : Int) (w : World) hx0 hsrc => c_l01Next a m A n c bs w0 w hbs hbd hx0 ha hsrc hn
  have NX := hide nxt
  clear nxt
  have hal := hsrc.lt
  go_enter Try.func62, Try.ntmps62
  go_wp2_with fail
  refine (NX.out 16 _ hx0 hsrc (by omega) (by omega)).mono ?_
  rintro e w1 ⟨x, rfl, hx1, hx2, hs1, ho1⟩
  by_cases h0 : x = 0
  · subst h0
    clear hx2 hx1
    have hl1 := hs1.lt
    have hR := fun cs => Row.new w1 2 cs
    go_wp2_with fail
    refine (NX.out 4 _ ((hx0.only ho1 ha).trans (Ext.alloc _ _)) (hs1.ext (Ext.alloc _ _)) (by omega) (by omega)).mono ?_
    rintro e w2 ⟨y, rfl, hy1, hy2, hs2, ho2⟩
    have hR2 := (hR [.int .i64 (-1), .int .i64 0, .int .i64 1000000000, .int .i64 1000000001]).only ho2 (by omega)
    have hb2 := hR2.lt
    have c0 := hR2.cell 0
    have c1 := hR2.cell 1
    have c2 := hR2.cell 2
    have c3 := hR2.cell 3
    simp at c0 c1 c2 c3
    have ho := (ho1.trans (Only.of_ext (Ext.alloc w1 _) a)).trans ho2
    have HO := hide ho
    clear ho ho1 ho2 hR2 hR
    have hy : y = 0 ∨ y = 1 ∨ y = 2 ∨ y = 3 := by omega
    clear hy1 hy2
    rcases hy with rfl | rfl | rfl | rfl <;>
    · go_wp2_with fail
      go_ret
      exact DrawnIn.of (by omega) (by omega) hs2 HO.out
  · have h0' : (x == 0) = false := by simpa using h0
    go_wp2_with fail
    refine (NX.out 300 _ (hx0.only ho1 ha) hs1 (by omega) (by omega)).mono ?_
    rintro e w2 ⟨y, rfl, hy1, hy2, hs2, ho2⟩
    go_wp2_with fail
    go_ret
    exact DrawnIn.of (by omega) (by omega) hs2 (ho1.trans ho2)

end Go.Proofs.Ytbkmnoedhilopaa
