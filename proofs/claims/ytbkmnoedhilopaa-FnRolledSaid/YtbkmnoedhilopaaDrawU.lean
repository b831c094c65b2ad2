
/-
  The reference's draws of terms with numbers.
-/
import Derived.Test.YtbkmnoedhilopaaDrawL
import Derived.Test.YtbkmnoedhilopaaSchedK
namespace Go.Proofs.Ytbkmnoedhilopaa
open Go.RowKit

/-- terms and a number -/
def DrawnT1 (w : World) (e : Ending) (w' : World) : Prop :=
  ∃ (band percent price x : Int) (A' : Option Addr) (n' c' g : Nat) (ts : List Tier), e = .returned (.tuple #[.agg #[.int .i64 band, .int .i64 percent, .int .i64 price, .slice A' n' c'], .int .i64 x]) ∧ -1 ≤ x ∧ x ≤ 1000000001 ∧ n' ≤ c' ∧ c' ≤ 9223372036854775807 ∧ w.heap.size ≤ g ∧ OwnS w' g 57 Tier.cells A' n' ts ∧ Ext w w'
/-- terms and two numbers -/
def DrawnT2 (w : World) (e : Ending) (w' : World) : Prop :=
  ∃ (band percent price x y : Int) (A' : Option Addr) (n' c' g : Nat) (ts : List Tier), e = .returned (.tuple #[.agg #[.int .i64 band, .int .i64 percent, .int .i64 price, .slice A' n' c'], .int .i64 x, .int .i64 y]) ∧ -1000000001 ≤ x ∧ x ≤ 1000000001 ∧ -1 ≤ y ∧ y ≤ 1000000001 ∧ n' ≤ c' ∧ c' ≤ 9223372036854775807 ∧ w.heap.size ≤ g ∧ OwnS w' g 57 Tier.cells A' n' ts ∧ Ext w w'

set_option maxHeartbeats 2000000 in
theorem c_DrawToleranceFor (A : Option Addr) (n c : Nat) (bs : List Int) (w : World) (hbs : SliceOf w 1 byteC A n c bs) (hbd : ∀ z ∈ bs, 0 ≤ z ∧ z ≤ 255) (hn : n ≤ 1048576) :
    Calls Try.prog 55 #[.slice A n c] w (DrawnT1 w) := by
  have HD := hide hbd
  clear hbd
  go_enter Try.func55, Try.ntmps55
  go_wp2_with fail
  refine (c_l01From A n c bs _ (hbs.ext (Ext.alloc _ _)) HD.out).mono ?_
  rintro e w1 ⟨a, rfl, ha, ha1, hs1, hx1⟩
  simp at ha
  go_wp2_with fail
  refine (c_l29Draw a A n c bs w w1 hbs HD.out hx1.box (by omega) hs1 hn).mono ?_
  rintro e w2 ⟨band, percent, price, A', n', c', g, ts, rfl, hnc, hcm, hg, hown, hs2, ho2⟩
  have hz2 := ho2.size
  have hx2 : Ext w w2 := hx1.box.only ho2 (by omega)
  have hR0 := ((Row.new w 29 [.int .i64 0, .int .i64 0, .int .i64 0, .slice none 0 0]).ext hx1).only ho2 (by omega)
  have hR2 := Row.new w2 29 [.int .i64 band, .int .i64 percent, .int .i64 price, .slice A' n' c']
  have hl2 := hR2.lt
  have k0 := hR2.cell 0
  have k1 := hR2.cell 1
  have k2 := hR2.cell 2
  have k3 := hR2.cell 3
  simp at k0 k1 k2 k3
  have hl0 := hR0.lt
  have hgl := hown.lt
  go_wp2_with fail
  refine wp_region_phB [w2.heap.size] [([0, 1], 2), ([], 3)] [4] (by kernel_rfl) (by kernel_rfl) (by intro c a w d v h; cases d <;> exact h) ?_
  simp only [wpPhB, pickL, nthO]
  repeat (go_big_quiet_step (fail))
  refine wpQuiet_nil ?_
  go_wp2_with fail
  refine (c_l29DrawNumber a A n c bs w _ hbs HD.out ((hx2.and_alloc _).drew) (by omega) (hs2.ext ((Ext.alloc _ _).drew)) hn).mono ?_
  rintro e w3 ⟨x, rfl, hx3, hx4, hs3, ho3⟩
  have hz3 := ho3.size
  simp at hz3
  have ho3' : Only a w2 w3 := (Only.of_ext ((Ext.alloc w2 _).drew) a).trans ho3
  go_wp2_with fail
  have hsb := (SameB.refl [w2.heap.size] (w2.alloc (.cells #[.int .i64 band, .int .i64 percent, .int .i64 price, .slice A' n' c'] 29))).drew.trans (SameB.of_only ho3 (by simp; omega))
  refine ⟨hsb, wpQuiet_nil ?_⟩
  have hR3 := hR0.only ho3' (by omega)
  have q0 := hR3.cell 0
  have q1 := hR3.cell 1
  have q2 := hR3.cell 2
  have q3 := hR3.cell 3
  have f0 := hR3.frozen 0
  have f1 := hR3.frozen 1
  have f2 := hR3.frozen 2
  have f3 := hR3.frozen 3
  simp at q0 q1 q2 q3
  have hl3 := hR3.lt
  have hk : Only w.heap.size w3 (putCells w3 w.heap.size 0 [.int .i64 band, .int .i64 percent, .int .i64 price, .slice A' n' c']) := (Only.refl _ _).put _ _
  have hfin : DrawnT1 w (.returned (.tuple #[.agg #[.int .i64 band, .int .i64 percent, .int .i64 price, .slice A' n' c'], .int .i64 x])) (putCells w3 w.heap.size 0 [.int .i64 band, .int .i64 percent, .int .i64 price, .slice A' n' c']) :=
    ⟨band, percent, price, x, A', n', c', g, ts, rfl, hx3, hx4, hnc, hcm, by omega, (hown.only ho3' (by omega)).only hk (by omega), (hx2.only ho3' (by omega)).only hk (Nat.le_refl _)⟩
  have HF := hide hfin
  clear hfin hR0 hR2 hR3 hk
  go_wp2_with fail
  refine ⟨?_, ?_⟩
  · repeat (refine SameB.setCell ?_ (by simp; omega) _)
    exact hsb
  repeat (go_big_quiet_step (fail))
  refine wpQuiet_nil ?_
  go_wp2_with fail
  refine bodyPost_ret (v := .tuple #[.agg #[.int .i64 band, .int .i64 percent, .int .i64 price, .slice A' n' c'], .int .i64 x]) (by simp [results, Try.results55, go_sem, q0, q1, q2, q3]) rfl ?_
  exact HF.out

set_option maxHeartbeats 2000000 in
theorem c_DrawChargeFor (A : Option Addr) (n c : Nat) (bs : List Int) (w : World) (hbs : SliceOf w 1 byteC A n c bs) (hbd : ∀ z ∈ bs, 0 ≤ z ∧ z ≤ 255) (hn : n ≤ 1048576) :
    Calls Try.prog 33 #[.slice A n c] w (DrawnT1 w) := by
  have HD := hide hbd
  clear hbd
  go_enter Try.func33, Try.ntmps33
  go_wp2_with fail
  refine (c_DrawToleranceFor A n c bs _ (hbs.ext (Ext.alloc _ _)) HD.out hn).mono ?_
  rintro e w1 ⟨band, percent, price, x, A', n', c', g, ts, rfl, hy1, hy2, hnc, hcm, hg, hown, hx1⟩
  simp at hg
  have hR0 := (Row.new w 29 [.int .i64 0, .int .i64 0, .int .i64 0, .slice none 0 0]).ext hx1
  have q0 := hR0.cell 0
  have q1 := hR0.cell 1
  have q2 := hR0.cell 2
  have q3 := hR0.cell 3
  simp at q0 q1 q2 q3
  have f0 := hR0.frozen 0
  have f1 := hR0.frozen 1
  have f2 := hR0.frozen 2
  have f3 := hR0.frozen 3
  have hl0 := hR0.lt
  have hk : Only w.heap.size w1 (putCells w1 w.heap.size 0 [.int .i64 band, .int .i64 percent, .int .i64 price, .slice A' n' c']) := (Only.refl _ _).put _ _
  have hfin : DrawnT1 w (.returned (.tuple #[.agg #[.int .i64 band, .int .i64 percent, .int .i64 price, .slice A' n' c'], .int .i64 x])) (putCells w1 w.heap.size 0 [.int .i64 band, .int .i64 percent, .int .i64 price, .slice A' n' c']) :=
    ⟨band, percent, price, x, A', n', c', g, ts, rfl, hy1, hy2, hnc, hcm, by omega, hown.only hk (by omega), hx1.box.only hk (Nat.le_refl _)⟩
  have HF := hide hfin
  clear hfin hR0 hk
  go_wp2_with fail
  refine bodyPost_ret (v := .tuple #[.agg #[.int .i64 band, .int .i64 percent, .int .i64 price, .slice A' n' c'], .int .i64 x]) (by simp [results, Try.results33, go_sem, q0, q1, q2, q3]) rfl ?_
  exact HF.out
end Go.Proofs.Ytbkmnoedhilopaa
