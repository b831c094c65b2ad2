/-
  Allocating, of the reference: all readings.
-/
import Derived.Test.YtegkeeeohileiaaSa33
import Derived.Test.YtegkeeeohileiaaSa34
namespace Go.Proofs.Ytegkeeeohileiaa
open Go.RowKit
def Bd (M : Int) (l : List Int) : Prop := ∀ y ∈ l, -M ≤ y ∧ y ≤ M
theorem Bd.mono {M M' : Int} {l : List Int} (h : Bd M l) (hm : M ≤ M') : Bd M' l := fun y hy => by have := h y hy; omega
theorem addS_take {s : Int} {g sh : List Int} {k : Nat} {a b : Int} (ha : g[k]? = some a) (hb : sh[k]? = some b) : addS s (g.take (k + 1)) (sh.take (k + 1)) = addS s (g.take k) (sh.take k) ++ [a + s * b] := by
  have h1 := (List.getElem?_eq_some_iff.1 ha).1
  have h2 := (List.getElem?_eq_some_iff.1 hb).1
  unfold addS
  rw [List.take_add_one, List.take_add_one, ha, hb, List.zipWith_append (by rw [List.length_take, List.length_take]; omega)]
  rfl
theorem addS_bd {s M K : Int} (hs : s = 1 ∨ s = -1) : ∀ {g sh : List Int}, Bd M g → Bd K sh → Bd (M + K) (addS s g sh)
  | [], _, _, _ => fun y hy => by simp [addS] at hy
  | _ :: _, [], _, _ => fun y hy => by simp [addS] at hy
  | a :: g, b :: sh, h1, h2 => fun y hy => by
    simp only [addS, List.zipWith_cons_cons, List.mem_cons] at hy
    rcases hy with rfl | hy
    · have := h1 a (by simp)
      have := h2 b (by simp)
      rcases hs with rfl | rfl <;> omega
    · exact addS_bd hs (fun y hy => h1 y (by simp [hy])) (fun y hy => h2 y (by simp [hy])) y hy
set_option maxHeartbeats 2000000 in
theorem c_l05Add (A : Option Addr) (n c : Nat) (g : List Int) (B : Option Addr) (m d : Nat) (sh : List Int) (s : Int) (w : World) (hg : SliceOf w 1 intC A n c g) (hsh : SliceOf w 1 intC B m d sh) (hnm : n = m) (hn : n ≤ 100) (hs : s = 1 ∨ s = -1) (hgb : Bd 100000000 g) (hsb : Bd 60000 sh) :
    Calls Try.prog 40 #[.slice A n c, .slice B m d, .int .i64 s] w (RetI (fun o => o = addS s g sh) w) := by
  subst hnm
  have HL1 := hide hg.len
  have HL2 := hide hsh.len
  have HG := hide hgb
  have HSB := hide hsb
  clear hgb hsb
  go_enter Try.func40, Try.ntmps40
  go_wp2_with fail
  go_loopw [7, 8] (fun u i wr => ∃ k : Nat, k ≤ n ∧ i = .int .i64 k ∧ OwnL wr w.heap.size 2 1 intC u (addS s (g.take k) (sh.take k)) ∧ Ext w wr) (fun _ i _ => n - (intOf i).toNat)
  case atStart => exact ⟨0, Nat.zero_le _, rfl, own_new _ _ _ _ _ _ rfl (Nat.le_refl _), Ext.alloc _ _⟩
  case round =>
    obtain ⟨k, hk, rfl, hown, hx⟩ := hrel
    have hwz := hx.size
    by_cases hlt : k < n
    · obtain ⟨b1, f1, a, rfl, hb1, ha, hc1⟩ := hg.get hlt
      obtain ⟨b2, f2, b, rfl, hb2, hb, hc2⟩ := hsh.get hlt
      have t1w := hc1 0 _ rfl
      have t2w := hc2 0 _ rfl
      simp only [Nat.add_zero, Nat.mul_one] at t1w t2w
      have t1 := (hx.cell _ _ hb1).trans t1w
      have t2 := (hx.cell _ _ hb2).trans t2w
      have hb1' : b1 < wr.heap.size := by omega
      have hb2' : b2 < wr.heap.size := by omega
      clear t1w t2w
      have hab := HG.out a (List.mem_of_getElem? ha)
      have hbb := HSB.out b (List.mem_of_getElem? hb)
      have HT := hide (addS_take (s := s) ha hb)
      have hal : (addS s (g.take k) (sh.take k)).length = k := by unfold addS; rw [List.length_zipWith, List.length_take, List.length_take, ← HL1.out, ← HL2.out]; omega
      clear hc1 hc2 ha hb
      have hmb : -60000 ≤ s * b ∧ s * b ≤ 60000 := by rcases hs with h | h <;> rw [h] <;> omega
      have e1 : IntKind.i64.wrap (s * b) = s * b := IntWalk.i64_in _ (by omega)
      have e2 : IntKind.i64.wrap (a + s * b) = a + s * b := IntWalk.i64_in _ (by omega)
      clear hmb hs
      go_wp2_with fail
      refine wp_region_phC [(b1, f1 + k), (b2, f2 + k)] [([0, 1, 2, 3, 4, 5, 6, 7, 8, 9, 10, 11], 12), ([], 13)] [14] (by kernel_rfl) (by kernel_rfl) (by intro c a w d v h; cases d <;> exact h) ?_
      simp only [wpPhC, pickL, nthO]
      repeat (go_big_quiet_step (fail))
      refine wpQuiet_nil ?_
      go_wp2_with fail
      generalize hsb : s * b = sb at *
      clear hsb
      obtain ⟨W, HW⟩ : ∃ W, Hid ((wr.alloc (.cells #[.int .i64 (a + sb)] 2)).drew = W) := ⟨_, hide rfl⟩
      rw [HW.out]
      have hxa : Ext wr W := by rw [← HW.out]; exact ((Ext.refl wr).and_alloc _).drew
      have hWz : w.heap.size ≤ W.heap.size := by have := hxa.size; omega
      have hWn : SliceOf W 1 intC (some ⟨wr.heap.size, 0, none⟩) 1 1 [a + sb] := by rw [← HW.out]; exact (new_int wr _ _ rfl).ext (Ext.refl _).drew
      refine ⟨SameC.of_ext hxa (by simp; omega), wpQuiet_nil ?_⟩
      go_wp2_with (at_builtin; go_must (refine wpList_append_where rfl _ _ 32 rfl w.heap.size 2 _ 1 8 Try.underlying32 int_info rfl (by decide) intC intC_len int_one' _ (addS s (g.take k) (sh.take k)) rfl (hown.ext hxa) wr.heap.size 0 1 1 [a + sb] rfl hWn (by omega) (by omega) hWz ?_))
      intro v2 w2 ho2 hg2 _
      have hx2 := (hx.trans hxa).grown hg2 (fun k hk => hown.block_le hk)
      have hsm : SameC [(b1, f1 + k), (b2, f2 + k)] wr w2 := by
        intro q hq
        simp only [List.mem_cons, List.not_mem_nil, or_false] at hq
        rcases hq with rfl | rfl
        · exact (hx2.cell _ _ hb1).trans (hx.cell _ _ hb1).symm
        · exact (hx2.cell _ _ hb2).trans (hx.cell _ _ hb2).symm
      rw [← HT.out] at ho2
      clear hown hg2 hxa
      go_wp2_with fail
      refine ⟨hsm, ?_⟩
      repeat (go_big_quiet_step (fail))
      refine wpQuiet_nil ?_
      go_wp2_with fail
      go_roundw
      case rel => exact ⟨k + 1, by omega, by go_num, ho2, hx2⟩
      case measure => simp [intOf]; omega
    · obtain rfl : n = k := by omega
      have HT1 := hide (show g.take n = g by rw [HL1.out, List.take_length])
      have HT2 := hide (show sh.take n = sh by rw [HL2.out, List.take_length])
      rw [HT1.out, HT2.out] at hown
      go_wp2_with fail
      go_ret
      exact ⟨_, _, rfl, hown, hide rfl, hx⟩
end Go.Proofs.Ytegkeeeohileiaa
