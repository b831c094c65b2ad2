


/-
  RecoverEvents of the program, and the law.
-/
import Derived.Test.YtglbiddddflmeaaDoorJouN
namespace Go.Proofs.YtglbiddddflmeaaDoor
open Go.RowKit
open Go.Lib hiding intOf
set_option maxHeartbeats 1000000 in
set_option maxRecDepth 8000 in
theorem c_RecoverEvents (l : List UInt8) (hl : l.length ≤ 1048576) (w : World) (hg : Glob w) :
    Calls Tryd.prog 27 #[.string (mkB l)] w (RetRec l w) := by
  have hsz : (mkB l).size = l.length := rfl
  by_cases h : 20000 < l.length
  · have HR := hide (show recR l = ([], 0, 3) by unfold recR; rw [if_pos h])
    go_enter Tryd.func27, Tryd.ntmps27
    go_wp2_with fail
    exact bodyPost_ret (v := .tuple #[.slice none 0 0, .int .i64 0, .int .i64 3]) (by simp [results, Tryd.results27, go_sem]) rfl ⟨none, 0, by rw [HR.out]; rfl, by rw [HR.out]; exact OwnA.none_, (by rw [HR.out]; exact fun b hb => by cases hb), Ext.refl _⟩
  · have HR := hide (show recR l = (recS l, (l.length : Int) - longL l, 0) by unfold recR; rw [if_neg h])
    have hle := recS_le l
    have HLL := hide (show longL l = (textL (recS l) 1).length from rfl)
    go_enter Tryd.func27, Tryd.ntmps27
    go_wp2_with fail
    refine (c_readJournal l hl _ hg).mono ?_
    rintro e w1 ⟨A, c, rfl, hoA, hb, hx⟩
    generalize htl : (textL (recS l) 1).length = tl at *
    generalize hsm : sumEs (recS l) 1 = sm at *
    obtain ⟨n, hn⟩ : ∃ n, (recS l).length = n := ⟨_, rfl⟩
    have HN := hide hn
    rw [hn]
    clear hn htl hsm
    have hx2 := hx.and_alloc (.cells #[.slice A n c, .int .i64 (tl : Int), .int .i64 sm] 68)
    have hJ := Row.new w1 68 [.slice A n c, .int .i64 (tl : Int), .int .i64 sm]
    have hoA2 := hoA.ext (Ext.alloc w1 (.cells #[.slice A n c, .int .i64 (tl : Int), .int .i64 sm] 68))
    have j0 := hJ.cell 0
    have j1 := hJ.cell 1
    have j2 := hJ.cell 2
    have jl := hJ.lt
    simp only [List.getElem?_cons_zero, List.getElem?_cons_succ] at j0 j1 j2
    go_wp2_with fail
    refine wp_region_ph [] [0, 1, 2, 3, 4, 5, 6, 7, 8, 9] (by kernel_rfl) (by kernel_rfl) (by intro c a w d v h; cases d <;> exact h) ?_
    simp only [wpPh, pickL, nthO]
    repeat (go_big_quiet_step (fail))
    refine wpQuiet_nil ?_
    go_wp2_with fail
    exact bodyPost_ret (v := .tuple #[.slice A n c, .int .i64 ((l.length : Int) - tl), .int .i64 0]) (by simp [results, Tryd.results27, go_sem]) rfl ⟨A, c, by rw [HR.out, HLL.out, HN.out], by rw [HR.out]; exact hoA2.ext (Ext.refl _).drew, by rw [HR.out]; exact hb, hx2.drew⟩
end Go.Proofs.YtglbiddddflmeaaDoor
