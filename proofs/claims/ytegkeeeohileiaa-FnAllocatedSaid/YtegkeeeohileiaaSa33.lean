/-
  Allocating, of the reference.
-/
import Derived.Test.YtegkeeeohileiaaSa29
import Derived.Test.YtegkeeeohileiaaSa32
namespace Go.Proofs.Ytegkeeeohileiaa
open Go.RowKit
/-- orders of small amounts -/
def Amt (os : List Order) : Prop := ∀ o ∈ os, -30000 ≤ o.amount ∧ o.amount ≤ 30000
theorem wts_take {x : Reading} {os : List Order} {k : Nat} {o : Order} (h : os[k]? = some o) : wts (os.take (k + 1)) x = wts (os.take k) x ++ [wt x o] := by
  unfold wts; rw [List.take_add_one, h, List.map_append]; rfl
theorem wt_bd {x : Reading} {o : Order} (h : -30000 ≤ o.amount ∧ o.amount ≤ 30000) : 0 ≤ wt x o ∧ wt x o ≤ 30000 := by
  refine ⟨wt_nonneg x o, ?_⟩
  unfold wt sgn
  split
  · split
    · split <;> (try split at *) <;> omega
    · omega
  · omega
set_option maxHeartbeats 2000000 in
theorem c_l28Weights (A : Option Addr) (n c : Nat) (os : List Order) (x : Reading) (w : World) (hs : SliceOf w 4 Order.cells A n c os) (hn : n ≤ 100) (ha : Amt os) :
    Calls Try.prog 38 #[.slice A n c, .agg #[.int .i64 x.node, .int .i64 x.amount]] w (RetI (fun o => o = wts os x) w) := by
  have HL := hide hs.len
  have HA := hide ha
  have hB := Row.new w 38 [.int .i64 x.node, .int .i64 x.amount]
  have key : ∀ (g : Int), g = sgn x → (g = 1 ∨ g = -1) := fun g hg => by unfold sgn at hg; split at hg <;> omega
  obtain ⟨g, hg⟩ : ∃ g, sgn x = g := ⟨_, rfl⟩
  have hg1 := key g hg.symm
  have HG := hide hg
  clear hg key ha
  by_cases hneg : x.amount < 0
  · have hgm : g = -1 := by have := HG.out; unfold sgn at this; rw [if_pos hneg] at this; omega
    subst hgm
    clear hg1
    go_enter Try.func38, Try.ntmps38
    go_wp2_with fail
    go_loopw [6, 7] (fun u i wr => ∃ k : Nat, k ≤ n ∧ i = .int .i64 k ∧ OwnL wr (w.heap.size + 1) 2 1 intC u (wts (os.take k) x) ∧ Ext (w.alloc (.cells #[.int .i64 x.node, .int .i64 x.amount] 38)) wr) (fun _ i _ => n - (intOf i).toNat)
    case atStart => exact ⟨0, Nat.zero_le _, rfl, own_new _ _ _ _ _ _ (by simp) (by omega), Ext.alloc _ _⟩
    case round =>
      obtain ⟨k, hk, rfl, hown, hx⟩ := hrel
      have hX := (Ext.alloc w _).trans hx
      have hwz := hx.size
      simp at hwz
      have x0 := (hB.ext hx).cell 0
      have x1 := (hB.ext hx).cell 1
      simp at x0 x1
      have xl := (hB.ext hx).lt
      by_cases hlt : k < n
      · obtain ⟨b, off, o, rfl, hbb, hok, hc⟩ := (hs.ext hX).get hlt
        have j1 := hc 1 _ rfl
        have j2 := hc 2 _ rfl
        have hab := HA.out o (List.mem_of_getElem? hok)
        have HT := hide (wts_take (x := x) hok)
        have hwl : (wts (os.take k) x).length = k := by unfold wts; rw [List.length_map, List.length_take, ← HL.out]; omega
        clear hc hok
        cases hnn : (o.node == x.node)
        · have HW0 := hide (show wt x o = 0 by unfold wt; rw [if_neg (by simpa using hnn)])
          go_wp2_with fail
          refine wp_region_later (by kernel_rfl) (by kernel_rfl) ?_
          repeat (go_big_quiet_step (fail))
          refine wpQuiet_nil ?_
          intro w1 hx1
          have hown1 := hown.ext hx1
          have hx01 := hx.trans hx1
          have hz1 := hx01.size
          simp at hz1
          go_wp2_with (at_builtin; go_must (refine wpList_append_where rfl _ _ 32 rfl (w.heap.size + 1) 2 _ 1 8 Try.underlying32 int_info rfl (by decide) intC intC_len int_one' _ (wts (os.take k) x) rfl (hown1.ext (Ext.alloc _ _)) (w1.heap.size) 0 1 1 [0] rfl (new_int w1 w1.heap.size _ rfl) (by omega) (by omega) (by first | omega | (simp; omega)) ?_))
          intro v2 w2 ho2 hg2 _
          have hx2 := (hx01.and_alloc (.cells #[.int .i64 (0)] 2)).grown hg2 (fun k hk => by have := hown1.block_le hk; simp; omega)
          rw [← HW0.out, ← HT.out] at ho2
          clear hown hown1 hg2
          go_wp2_with fail
          go_roundw
          case rel => exact ⟨k + 1, by omega, by go_num, ho2, hx2⟩
          case measure => simp [intOf]; omega
        · obtain ⟨mm, hmx, hmx1⟩ : ∃ mm : Int, (if o.amount < 0 then -o.amount else 0) = mm ∧ wt x o = mm := ⟨_, rfl, by unfold wt; rw [if_pos (by simpa using hnn), HG.out]; split <;> split <;> omega⟩
          have HW0 := hide hmx1
          clear hmx1
          have e1 : IntKind.i64.wrap (-1 * o.amount) = -1 * o.amount := IntWalk.i64_in _ (by omega)
          go_wp2_with fail
          refine wp_region_later (by kernel_rfl) (by kernel_rfl) ?_
          repeat (go_big_quiet_step (fail))
          refine wpQuiet_nil ?_
          intro w1 hx1
          have hown1 := hown.ext hx1
          have hx01 := hx.trans hx1
          have hz1 := hx01.size
          simp at hz1
          have j2' := (hx1.cell _ _ hbb).trans j2
          have hbb1 := Nat.lt_of_lt_of_le hbb hx1.size
          go_wp2_with (at_builtin; go_must (refine wpList_append_where rfl _ _ 32 rfl (w.heap.size + 1) 2 _ 1 8 Try.underlying32 int_info rfl (by decide) intC intC_len int_one' _ (wts (os.take k) x) rfl (hown1.ext (Ext.alloc _ _)) (w1.heap.size) 0 1 1 [mm] rfl (new_int w1 w1.heap.size _ rfl) (by omega) (by omega) (by first | omega | (simp; omega)) ?_))
          intro v2 w2 ho2 hg2 _
          have hx2 := (hx01.and_alloc (.cells #[.int .i64 (mm)] 2)).grown hg2 (fun k hk => by have := hown1.block_le hk; simp; omega)
          rw [← HW0.out, ← HT.out] at ho2
          clear hown hown1 hg2
          go_wp2_with fail
          go_roundw
          case rel => exact ⟨k + 1, by omega, by go_num, ho2, hx2⟩
          case measure => simp [intOf]; omega
      · obtain rfl : n = k := by omega
        have HT := hide (show os.take n = os by rw [HL.out, List.take_length])
        rw [HT.out] at hown
        go_wp2_with fail
        go_ret
        exact ⟨_, _, rfl, hown.lowG (by omega), hide rfl, hX⟩
  · have hgm : g = 1 := by have := HG.out; unfold sgn at this; rw [if_neg hneg] at this; omega
    subst hgm
    clear hg1
    go_enter Try.func38, Try.ntmps38
    go_wp2_with fail
    go_loopw [6, 7] (fun u i wr => ∃ k : Nat, k ≤ n ∧ i = .int .i64 k ∧ OwnL wr (w.heap.size + 1) 2 1 intC u (wts (os.take k) x) ∧ Ext (w.alloc (.cells #[.int .i64 x.node, .int .i64 x.amount] 38)) wr) (fun _ i _ => n - (intOf i).toNat)
    case atStart => exact ⟨0, Nat.zero_le _, rfl, own_new _ _ _ _ _ _ (by simp) (by omega), Ext.alloc _ _⟩
    case round =>
      obtain ⟨k, hk, rfl, hown, hx⟩ := hrel
      have hX := (Ext.alloc w _).trans hx
      have hwz := hx.size
      simp at hwz
      have x0 := (hB.ext hx).cell 0
      have x1 := (hB.ext hx).cell 1
      simp at x0 x1
      have xl := (hB.ext hx).lt
      by_cases hlt : k < n
      · obtain ⟨b, off, o, rfl, hbb, hok, hc⟩ := (hs.ext hX).get hlt
        have j1 := hc 1 _ rfl
        have j2 := hc 2 _ rfl
        have hab := HA.out o (List.mem_of_getElem? hok)
        have HT := hide (wts_take (x := x) hok)
        have hwl : (wts (os.take k) x).length = k := by unfold wts; rw [List.length_map, List.length_take, ← HL.out]; omega
        clear hc hok
        cases hnn : (o.node == x.node)
        · have HW0 := hide (show wt x o = 0 by unfold wt; rw [if_neg (by simpa using hnn)])
          go_wp2_with fail
          refine wp_region_later (by kernel_rfl) (by kernel_rfl) ?_
          repeat (go_big_quiet_step (fail))
          refine wpQuiet_nil ?_
          intro w1 hx1
          have hown1 := hown.ext hx1
          have hx01 := hx.trans hx1
          have hz1 := hx01.size
          simp at hz1
          go_wp2_with (at_builtin; go_must (refine wpList_append_where rfl _ _ 32 rfl (w.heap.size + 1) 2 _ 1 8 Try.underlying32 int_info rfl (by decide) intC intC_len int_one' _ (wts (os.take k) x) rfl (hown1.ext (Ext.alloc _ _)) (w1.heap.size) 0 1 1 [0] rfl (new_int w1 w1.heap.size _ rfl) (by omega) (by omega) (by first | omega | (simp; omega)) ?_))
          intro v2 w2 ho2 hg2 _
          have hx2 := (hx01.and_alloc (.cells #[.int .i64 (0)] 2)).grown hg2 (fun k hk => by have := hown1.block_le hk; simp; omega)
          rw [← HW0.out, ← HT.out] at ho2
          clear hown hown1 hg2
          go_wp2_with fail
          go_roundw
          case rel => exact ⟨k + 1, by omega, by go_num, ho2, hx2⟩
          case measure => simp [intOf]; omega
        · obtain ⟨mm, hmx, hmx1⟩ : ∃ mm : Int, (if 0 < o.amount then o.amount else 0) = mm ∧ wt x o = mm := ⟨_, rfl, by unfold wt; rw [if_pos (by simpa using hnn), HG.out]; split <;> split <;> omega⟩
          have HW0 := hide hmx1
          clear hmx1
          have e1 : IntKind.i64.wrap (1 * o.amount) = 1 * o.amount := IntWalk.i64_in _ (by omega)
          go_wp2_with fail
          refine wp_region_later (by kernel_rfl) (by kernel_rfl) ?_
          repeat (go_big_quiet_step (fail))
          refine wpQuiet_nil ?_
          intro w1 hx1
          have hown1 := hown.ext hx1
          have hx01 := hx.trans hx1
          have hz1 := hx01.size
          simp at hz1
          have j2' := (hx1.cell _ _ hbb).trans j2
          have hbb1 := Nat.lt_of_lt_of_le hbb hx1.size
          go_wp2_with (at_builtin; go_must (refine wpList_append_where rfl _ _ 32 rfl (w.heap.size + 1) 2 _ 1 8 Try.underlying32 int_info rfl (by decide) intC intC_len int_one' _ (wts (os.take k) x) rfl (hown1.ext (Ext.alloc _ _)) (w1.heap.size) 0 1 1 [mm] rfl (new_int w1 w1.heap.size _ rfl) (by omega) (by omega) (by first | omega | (simp; omega)) ?_))
          intro v2 w2 ho2 hg2 _
          have hx2 := (hx01.and_alloc (.cells #[.int .i64 (mm)] 2)).grown hg2 (fun k hk => by have := hown1.block_le hk; simp; omega)
          rw [← HW0.out, ← HT.out] at ho2
          clear hown hown1 hg2
          go_wp2_with fail
          go_roundw
          case rel => exact ⟨k + 1, by omega, by go_num, ho2, hx2⟩
          case measure => simp [intOf]; omega
      · obtain rfl : n = k := by omega
        have HT := hide (show os.take n = os by rw [HL.out, List.take_length])
        rw [HT.out] at hown
        go_wp2_with fail
        go_ret
        exact ⟨_, _, rfl, hown.lowG (by omega), hide rfl, hX⟩
end Go.Proofs.Ytegkeeeohileiaa
