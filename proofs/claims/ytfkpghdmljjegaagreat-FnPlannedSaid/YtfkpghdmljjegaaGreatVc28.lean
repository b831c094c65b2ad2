/-
  The shares of a total, of the reference. Allocating, of the reference.
-/
import Derived.Test.YtfkpghdmljjegaaGreatVc18
import Derived.Test.YtfkpghdmljjegaaGreatVc09
import Derived.Test.YtfkpghdmljjegaaGreatVc27
namespace Go.Proofs.YtfkpghdmljjegaaGreat
open Go.RowKit
theorem sumI_eq : ∀ l : List Int, sumI l = sumZ l
  | [] => rfl
  | x :: l => by simp only [sumI, sumZ]; rw [sumI_eq l]
theorem Apt.symm {v v' : Value} (h : Apt v v') : Apt v' v := fun k hk h2 => h k h2 hk
/-- two lists of the call's own -/
structure ShSt (w wr : World) (v6 v7 : Value) (o r : List Int) : Prop where
  o6 : OwnL wr w.heap.size 2 1 intC v6 o
  o7 : OwnL wr w.heap.size 2 1 intC v7 r
  apt : Apt v6 v7
  ext : Ext w wr
section
variable {w wr wr' W : World} {v6 v7 v' : Value} {o r : List Int}
theorem ShSt.more (h : ShSt w wr v6 v7 o r) (hx : Ext wr wr') : ShSt w wr' v6 v7 o r := ⟨h.o6.ext hx, h.o7.ext hx, h.apt, h.ext.trans hx⟩
theorem ShSt.put6 {A6 : Option Addr} {n6 c6 : Nat} (h : ShSt w wr (.slice A6 n6 c6) v7 o r) {b : Nat} {y : Int} (hb : o[b]? = some y) (v : Int) :
    ∃ g, A6 = some ⟨g, 0, none⟩ ∧ g < wr.heap.size ∧ (∀ i, wr.frozen? ⟨g, i, none⟩ = false) ∧ wr.cell? ⟨g, b, none⟩ = some (.int .i64 y) ∧ Apt (.slice (some ⟨g, 0, none⟩) n6 c6) v7 ∧ ShSt w (wr.setCell ⟨g, b, none⟩ (.int .i64 v)) (.slice A6 n6 c6) v7 (o.set b v) r := by
  obtain ⟨g, hA, _, hg0, hg1, hf, hc, ho⟩ := h.o6.setOne intC_len (k := b) (j := 0) (y := v) (u := .int .i64 v) hb (by omega) rfl
  have hc0 := hc 0 _ rfl
  simp only [Nat.mul_one, Nat.add_zero] at hc0 ho
  have ha := h.apt
  rw [hA] at ha
  refine ⟨g, hA, hg1, hf, hc0, ha, ho, ?_, h.apt, h.ext.setCell (p := ⟨g, b, none⟩) hg0 _⟩
  exact h.o7.grown ((Only.refl g wr).setCell rfl _) (fun k hk e => ha k (by simpa [Value.ownBlock] using e) hk)
theorem ShSt.put7 {A7 : Option Addr} {n7 c7 : Nat} (h : ShSt w wr v6 (.slice A7 n7 c7) o r) {b : Nat} {y : Int} (hb : r[b]? = some y) (v : Int) :
    ∃ g, A7 = some ⟨g, 0, none⟩ ∧ g < wr.heap.size ∧ (∀ i, wr.frozen? ⟨g, i, none⟩ = false) ∧ wr.cell? ⟨g, b, none⟩ = some (.int .i64 y) ∧ ShSt w (wr.setCell ⟨g, b, none⟩ (.int .i64 v)) v6 (.slice A7 n7 c7) o (r.set b v) := by
  obtain ⟨g, hA, _, hg0, hg1, hf, hc, ho⟩ := h.o7.setOne intC_len (k := b) (j := 0) (y := v) (u := .int .i64 v) hb (by omega) rfl
  have hc0 := hc 0 _ rfl
  simp only [Nat.mul_one, Nat.add_zero] at hc0 ho
  have ha := h.apt
  rw [hA] at ha
  refine ⟨g, hA, hg1, hf, hc0, ?_, ho, h.apt, h.ext.setCell (p := ⟨g, b, none⟩) hg0 _⟩
  exact h.o6.grown ((Only.refl g wr).setCell rfl _) (fun k hk e => ha k hk (by simpa [Value.ownBlock] using e))
end
theorem quo_take {t s : Int} {ws : List Int} {k : Nat} {z : Int} (h : ws[k]? = some z) : quoL t s (ws.take (k + 1)) = quoL t s (ws.take k) ++ [t * z / s] := by
  unfold quoL; rw [List.take_add_one, h, List.map_append]; rfl
theorem rem_take {t s : Int} {ws : List Int} {k : Nat} {z : Int} (h : ws[k]? = some z) : remL t s (ws.take (k + 1)) = remL t s (ws.take k) ++ [t * z % s] := by
  unfold remL; rw [List.take_add_one, h, List.map_append]; rfl
/-- weights that may be shared by -/
def Wts (t : Int) (ws : List Int) : Prop := (0 ≤ t ∧ t ≤ 30000) ∧ (∀ z ∈ ws, 0 ≤ z ∧ z ≤ 30000) ∧ ws.length ≤ 100 ∧ 0 < sumZ ws
theorem mulA_bd {t z : Int} (ht : 0 ≤ t ∧ t ≤ 30000) (hz : 0 ≤ z ∧ z ≤ 30000) : 0 ≤ t * z ∧ t * z ≤ 900000000 := by
  refine ⟨Int.mul_nonneg ht.1 hz.1, ?_⟩
  have h1 : t * z ≤ 30000 * z := Int.mul_le_mul_of_nonneg_right ht.2 hz.1
  omega
theorem sumZ_le : ∀ {ws : List Int} {M : Int}, (∀ z ∈ ws, z ≤ M) → sumZ ws ≤ M * (ws.length : Int)
  | [], M, _ => by simp [sumZ]
  | x :: ws, M, h => by
    have ih := sumZ_le (ws := ws) (M := M) (fun z hz => h z (by simp [hz]))
    have := h x (by simp)
    simp only [sumZ, List.length_cons, Int.natCast_succ, Int.mul_add, Int.mul_one]
    omega
theorem mem_le_sum : ∀ {ws : List Int}, (∀ z ∈ ws, 0 ≤ z) → ∀ z ∈ ws, z ≤ sumZ ws
  | [], _, z, hz => by cases hz
  | x :: ws, h, z, hz => by
    have h0 := sumZ_nonneg (l := ws) (fun z hz => h z (by simp [hz]))
    have hx := h x (by simp)
    simp only [sumZ]
    rcases List.mem_cons.1 hz with rfl | hz
    · omega
    · have := mem_le_sum (ws := ws) (fun z hz => h z (by simp [hz])) z hz; omega
theorem quo_bd {t : Int} {ws : List Int} (h : Wts t ws) : ∀ y ∈ quoL t (sumZ ws) ws, 0 ≤ y ∧ y ≤ 30000 := by
  intro y hy
  obtain ⟨w, hw, rfl⟩ := List.mem_map.1 hy
  have h1 := h.2.1 w hw
  have h2 := mulA_bd h.1 h1
  have h3 := mem_le_sum (fun z hz => (h.2.1 z hz).1) w hw
  refine ⟨Int.ediv_nonneg h2.1 (by have := h.2.2.2; omega), ?_⟩
  have h4 : t * w ≤ t * sumZ ws := Int.mul_le_mul_of_nonneg_left h3 h.1.1
  have h5 : t * w / sumZ ws ≤ t := Int.ediv_le_of_le_mul h.2.2.2 h4
  have := h.1.2; omega
end Go.Proofs.YtfkpghdmljjegaaGreat

namespace Go.Proofs.YtfkpghdmljjegaaGreat
open Go.RowKit
/-- orders of small amounts -/
def Amt (os : List Order) : Prop := ∀ o ∈ os, -30000 ≤ o.amount ∧ o.amount ≤ 30000
theorem wts_take {x : Reading} {os : List Order} {k : Nat} {o : Order} (h : os[k]? = some o) : wts (os.take (k + 1)) x = wts (os.take k) x ++ [wt x o] := by
  unfold wts; rw [List.take_add_one, h, List.map_append]; rfl
theorem wt_bd {x : Reading} {o : Order} (h : -30000 ≤ o.amount ∧ o.amount ≤ 30000) : 0 ≤ wt x o ∧ wt x o ≤ 30000 := by
  refine ⟨wt_nonneg x o, ?_⟩
  unfold wt sgn
  split
  · split
    · split <;> (try split at *) <;> omega
    · omega
  · omega
set_option maxHeartbeats 2000000 in
theorem c_l28Weights (A : Option Addr) (n c : Nat) (os : List Order) (x : Reading) (w : World) (hs : SliceOf w 4 Order.cells A n c os) (hn : n ≤ 100) (ha : Amt os) :
    Calls Tryz.prog 196 #[.slice A n c, .agg #[.int .i64 x.node, .int .i64 x.amount]] w (RetI (fun o => o = wts os x) w) := by
  have HL := hide hs.len
  have HA := hide ha
  have hB := Row.new w 176 [.int .i64 x.node, .int .i64 x.amount]
  have key : ∀ (g : Int), g = sgn x → (g = 1 ∨ g = -1) := fun g hg => by unfold sgn at hg; split at hg <;> omega
  obtain ⟨g, hg⟩ : ∃ g, sgn x = g := ⟨_, rfl⟩
  have hg1 := key g hg.symm
  have HG := hide hg
  clear hg key ha
  by_cases hneg : x.amount < 0
  · have hgm : g = -1 := by have := HG.out; unfold sgn at this; rw [if_pos hneg] at this; omega
    subst hgm
    clear hg1
    go_enter Tryz.func196, Tryz.ntmps196
    go_wp2_with fail
    go_loopw [6, 7] (fun u i wr => ∃ k : Nat, k ≤ n ∧ i = .int .i64 k ∧ OwnL wr (w.heap.size + 1) 2 1 intC u (wts (os.take k) x) ∧ Ext (w.alloc (.cells #[.int .i64 x.node, .int .i64 x.amount] 176)) wr) (fun _ i _ => n - (intOf i).toNat)
    case atStart => exact ⟨0, Nat.zero_le _, rfl, own_new _ _ _ _ _ _ (by simp) (by omega), Ext.alloc _ _⟩
    case round =>
      obtain ⟨k, hk, rfl, hown, hx⟩ := hrel
      have hX := (Ext.alloc w _).trans hx
      have hwz := hx.size
      simp at hwz
      have x0 := (hB.ext hx).cell 0
      have x1 := (hB.ext hx).cell 1
      simp at x0 x1
      have xl := (hB.ext hx).lt
      by_cases hlt : k < n
      · obtain ⟨b, off, o, rfl, hbb, hok, hc⟩ := (hs.ext hX).get hlt
        have j1 := hc 1 _ rfl
        have j2 := hc 2 _ rfl
        have hab := HA.out o (List.mem_of_getElem? hok)
        have HT := hide (wts_take (x := x) hok)
        have hwl : (wts (os.take k) x).length = k := by unfold wts; rw [List.length_map, List.length_take, ← HL.out]; omega
        clear hc hok
        cases hnn : (o.node == x.node)
        · have HW0 := hide (show wt x o = 0 by unfold wt; rw [if_neg (by simpa using hnn)])
          go_wp2_with fail
          refine wp_region_later (by kernel_rfl) (by kernel_rfl) ?_
          repeat (go_big_quiet_step (fail))
          refine wpQuiet_nil ?_
          intro w1 hx1
          have hown1 := hown.ext hx1
          have hx01 := hx.trans hx1
          have hz1 := hx01.size
          simp at hz1
          go_wp2_with (at_builtin; go_must (refine wpList_append_where rfl _ _ 24 rfl (w.heap.size + 1) 2 _ 1 8 Tryz.underlying24 int_info rfl (by decide) intC intC_len int_one' _ (wts (os.take k) x) rfl (hown1.ext (Ext.alloc _ _)) (w1.heap.size) 0 1 1 [0] rfl (new_int w1 w1.heap.size _ rfl) (by omega) (by omega) (by first | omega | (simp; omega)) ?_))
          intro v2 w2 ho2 hg2 _
          have hx2 := (hx01.and_alloc (.cells #[.int .i64 (0)] 2)).grown hg2 (fun k hk => by have := hown1.block_le hk; simp; omega)
          rw [← HW0.out, ← HT.out] at ho2
          clear hown hown1 hg2
          go_wp2_with fail
          go_roundw
          case rel => exact ⟨k + 1, by omega, by go_num, ho2, hx2⟩
          case measure => simp [intOf]; omega
        · obtain ⟨mm, hmx, hmx1⟩ : ∃ mm : Int, (if o.amount < 0 then -o.amount else 0) = mm ∧ wt x o = mm := ⟨_, rfl, by unfold wt; rw [if_pos (by simpa using hnn), HG.out]; split <;> split <;> omega⟩
          have HW0 := hide hmx1
          clear hmx1
          have e1 : IntKind.i64.wrap (-1 * o.amount) = -1 * o.amount := IntWalk.i64_in _ (by omega)
          go_wp2_with fail
          refine wp_region_later (by kernel_rfl) (by kernel_rfl) ?_
          repeat (go_big_quiet_step (fail))
          refine wpQuiet_nil ?_
          intro w1 hx1
          have hown1 := hown.ext hx1
          have hx01 := hx.trans hx1
          have hz1 := hx01.size
          simp at hz1
          have j2' := (hx1.cell _ _ hbb).trans j2
          have hbb1 := Nat.lt_of_lt_of_le hbb hx1.size
          go_wp2_with (at_builtin; go_must (refine wpList_append_where rfl _ _ 24 rfl (w.heap.size + 1) 2 _ 1 8 Tryz.underlying24 int_info rfl (by decide) intC intC_len int_one' _ (wts (os.take k) x) rfl (hown1.ext (Ext.alloc _ _)) (w1.heap.size) 0 1 1 [mm] rfl (new_int w1 w1.heap.size _ rfl) (by omega) (by omega) (by first | omega | (simp; omega)) ?_))
          intro v2 w2 ho2 hg2 _
          have hx2 := (hx01.and_alloc (.cells #[.int .i64 (mm)] 2)).grown hg2 (fun k hk => by have := hown1.block_le hk; simp; omega)
          rw [← HW0.out, ← HT.out] at ho2
          clear hown hown1 hg2
          go_wp2_with fail
          go_roundw
          case rel => exact ⟨k + 1, by omega, by go_num, ho2, hx2⟩
          case measure => simp [intOf]; omega
      · obtain rfl : n = k := by omega
        have HT := hide (show os.take n = os by rw [HL.out, List.take_length])
        rw [HT.out] at hown
        go_wp2_with fail
        go_ret
        exact ⟨_, _, rfl, hown.lowG (by omega), hide rfl, hX⟩
  · have hgm : g = 1 := by have := HG.out; unfold sgn at this; rw [if_neg hneg] at this; omega
    subst hgm
    clear hg1
    go_enter Tryz.func196, Tryz.ntmps196
    go_wp2_with fail
    go_loopw [6, 7] (fun u i wr => ∃ k : Nat, k ≤ n ∧ i = .int .i64 k ∧ OwnL wr (w.heap.size + 1) 2 1 intC u (wts (os.take k) x) ∧ Ext (w.alloc (.cells #[.int .i64 x.node, .int .i64 x.amount] 176)) wr) (fun _ i _ => n - (intOf i).toNat)
    case atStart => exact ⟨0, Nat.zero_le _, rfl, own_new _ _ _ _ _ _ (by simp) (by omega), Ext.alloc _ _⟩
    case round =>
      obtain ⟨k, hk, rfl, hown, hx⟩ := hrel
      have hX := (Ext.alloc w _).trans hx
      have hwz := hx.size
      simp at hwz
      have x0 := (hB.ext hx).cell 0
      have x1 := (hB.ext hx).cell 1
      simp at x0 x1
      have xl := (hB.ext hx).lt
      by_cases hlt : k < n
      · obtain ⟨b, off, o, rfl, hbb, hok, hc⟩ := (hs.ext hX).get hlt
        have j1 := hc 1 _ rfl
        have j2 := hc 2 _ rfl
        have hab := HA.out o (List.mem_of_getElem? hok)
        have HT := hide (wts_take (x := x) hok)
        have hwl : (wts (os.take k) x).length = k := by unfold wts; rw [List.length_map, List.length_take, ← HL.out]; omega
        clear hc hok
        cases hnn : (o.node == x.node)
        · have HW0 := hide (show wt x o = 0 by unfold wt; rw [if_neg (by simpa using hnn)])
          go_wp2_with fail
          refine wp_region_later (by kernel_rfl) (by kernel_rfl) ?_
          repeat (go_big_quiet_step (fail))
          refine wpQuiet_nil ?_
          intro w1 hx1
          have hown1 := hown.ext hx1
          have hx01 := hx.trans hx1
          have hz1 := hx01.size
          simp at hz1
          go_wp2_with (at_builtin; go_must (refine wpList_append_where rfl _ _ 24 rfl (w.heap.size + 1) 2 _ 1 8 Tryz.underlying24 int_info rfl (by decide) intC intC_len int_one' _ (wts (os.take k) x) rfl (hown1.ext (Ext.alloc _ _)) (w1.heap.size) 0 1 1 [0] rfl (new_int w1 w1.heap.size _ rfl) (by omega) (by omega) (by first | omega | (simp; omega)) ?_))
          intro v2 w2 ho2 hg2 _
          have hx2 := (hx01.and_alloc (.cells #[.int .i64 (0)] 2)).grown hg2 (fun k hk => by have := hown1.block_le hk; simp; omega)
          rw [← HW0.out, ← HT.out] at ho2
          clear hown hown1 hg2
          go_wp2_with fail
          go_roundw
          case rel => exact ⟨k + 1, by omega, by go_num, ho2, hx2⟩
          case measure => simp [intOf]; omega
        · obtain ⟨mm, hmx, hmx1⟩ : ∃ mm : Int, (if 0 < o.amount then o.amount else 0) = mm ∧ wt x o = mm := ⟨_, rfl, by unfold wt; rw [if_pos (by simpa using hnn), HG.out]; split <;> split <;> omega⟩
          have HW0 := hide hmx1
          clear hmx1
          have e1 : IntKind.i64.wrap (1 * o.amount) = 1 * o.amount := IntWalk.i64_in _ (by omega)
          go_wp2_with fail
          refine wp_region_later (by kernel_rfl) (by kernel_rfl) ?_
          repeat (go_big_quiet_step (fail))
          refine wpQuiet_nil ?_
          intro w1 hx1
          have hown1 := hown.ext hx1
          have hx01 := hx.trans hx1
          have hz1 := hx01.size
          simp at hz1
          have j2' := (hx1.cell _ _ hbb).trans j2
          have hbb1 := Nat.lt_of_lt_of_le hbb hx1.size
          go_wp2_with (at_builtin; go_must (refine wpList_append_where rfl _ _ 24 rfl (w.heap.size + 1) 2 _ 1 8 Tryz.underlying24 int_info rfl (by decide) intC intC_len int_one' _ (wts (os.take k) x) rfl (hown1.ext (Ext.alloc _ _)) (w1.heap.size) 0 1 1 [mm] rfl (new_int w1 w1.heap.size _ rfl) (by omega) (by omega) (by first | omega | (simp; omega)) ?_))
          intro v2 w2 ho2 hg2 _
          have hx2 := (hx01.and_alloc (.cells #[.int .i64 (mm)] 2)).grown hg2 (fun k hk => by have := hown1.block_le hk; simp; omega)
          rw [← HW0.out, ← HT.out] at ho2
          clear hown hown1 hg2
          go_wp2_with fail
          go_roundw
          case rel => exact ⟨k + 1, by omega, by go_num, ho2, hx2⟩
          case measure => simp [intOf]; omega
      · obtain rfl : n = k := by omega
        have HT := hide (show os.take n = os by rw [HL.out, List.take_length])
        rw [HT.out] at hown
        go_wp2_with fail
        go_ret
        exact ⟨_, _, rfl, hown.lowG (by omega), hide rfl, hX⟩
end Go.Proofs.YtfkpghdmljjegaaGreat
