

/-
  The balances of the reference; IsSettled of both.
-/
import Derived.Test.YtclnfjpjmelfpaaLedC
namespace Go.Proofs.Ytclnfjpjmelfpaa
open Go.RowKit

/-- one new slice of balances -/
def NewBal (sel : Posting → Int) (ps : List Posting) (w : World) (e : Ending) (w' : World) : Prop :=
  ∃ g, e = .returned (.slice (some ⟨g, 0, none⟩) 24 24) ∧ w.heap.size ≤ g ∧ RowOf w' g 2 intC (balL (balF sel ps)) ∧ Ext w w'


set_option maxHeartbeats 4000000 in
theorem c_l30Gas (A : Option Addr) (n c : Nat) (ps : List Posting) (w : World) (hs : SliceOf w 4 Posting.cells A n c ps) (hled : ledB ps = true) :
    Calls Try.prog 59 #[.slice A n c, .bool false] w (NewBal Posting.gas ps w) := by
  obtain ⟨hlen, hall⟩ := ledB_true hled
  have hn : n ≤ 300 := by rw [hs.len]; exact hlen
  have HA := hide hall
  clear hall hlen hled
  have hmk := run_make24
  go_enter Try.func59, Try.ntmps59
  go_wp2_with fail
  clear hmk
  go_loopw [6] (fun i wr => ∃ (k : Nat), k ≤ n ∧ i = .int .i64 k ∧ RowOf wr w.heap.size 2 intC (balL (balF Posting.gas (ps.take k))) ∧ Ext w wr) (fun i _ => n - (intOf i).toNat)
  case atStart => exact ⟨0, Nat.zero_le _, rfl, zero_row w, Ext.alloc _ _⟩
  case round =>
    obtain ⟨k, hk, rfl, hr1, hx⟩ := hrel
    have hl1 := hr1.lt
    by_cases hlt : k < n
    · obtain ⟨b, off, p, rfl, hb, hxk, hc⟩ := (hs.ext hx).get hlt
      have hbl : b < w.heap.size := by obtain ⟨b', off', _, hA, hb', _⟩ := hs.get hlt; injection hA with hA; injection hA with hA; omega
      have hbne : b ≠ w.heap.size := by omega
      have hpB := HA.out p (List.mem_of_getElem? hxk)
      have HTK := hide (take_snoc hxk)
      have hPR : ∀ q ∈ ps.take k, postB q = true := fun q hq => HA.out q (List.mem_of_mem_take hq)
      have hLK : (ps.take k).length = k := by rw [List.length_take, ← hs.len]; omega
      obtain ⟨d, cr, ga, mo⟩ := p
      obtain ⟨p1, p2, p3, p4, p5, p6, p7, p8, p9⟩ := postB_true hpB
      simp only at p1 p2 p3 p4 p5 p6 p7 p8 p9
      clear hpB hxk
      obtain ⟨d, rfl⟩ := Int.eq_ofNat_of_zero_le p1
      obtain ⟨cr, rfl⟩ := Int.eq_ofNat_of_zero_le p3
      have hc0 := hc 0 _ rfl
      have hc1 := hc 1 _ rfl
      have hc2 := hc 2 _ rfl
      have hc3 := hc 3 _ rfl
      clear hc
      simp only [Nat.add_zero] at hc0
      have hdc : d ≠ cr := by omega
      have hd24 : d < 24 := by omega
      have hc24 : cr < 24 := by omega
      have HG := hide (bal_step (sel := Posting.gas) (F := balF Posting.gas (ps.take k)) (d := d) (c := cr) (g := ga) (m := mo) hdc rfl)
      have b1 := bal_gas_bd hPR d
      have b2 := bal_gas_bd hPR cr
      rw [hLK] at b1 b2
      have HTG := hide (show balL (balF Posting.gas (ps.take (k + 1))) = balL (fun a => balF Posting.gas (ps.take k) a + dlt Posting.gas ⟨d, cr, ga, mo⟩ a) by rw [HTK.out]; congr 1; funext a; rw [balF_snoc])
      clear HTK hPR hLK
      generalize hF : balF Posting.gas (ps.take k) = F at *
      clear hF
      have v1 : wr.cell? ⟨w.heap.size, d, none⟩ = some (.int .i64 (F d)) := by simpa using hr1.get intC_len (balL_at F d hd24) (j := 0) rfl
      have v2 : wr.cell? ⟨w.heap.size, cr, none⟩ = some (.int .i64 (F cr)) := by simpa using hr1.get intC_len (balL_at F cr hc24) (j := 0) rfl
      have f1 := hr1.frozen d
      have f2 := hr1.frozen cr
      have hdc' : cr ≠ d := by omega
      go_wp2_with fail
      refine wp_region_tail 17 (by kernel_rfl) (by kernel_rfl) ?_
      simp only [List.take_succ_cons, List.take_zero, List.drop_succ_cons, List.drop_zero]
      repeat (go_big_quiet_step (fail))
      refine wpQuiet_nil ?_
      go_wp2_with fail
      refine wp_region_tail 17 (by kernel_rfl) (by kernel_rfl) ?_
      simp only [List.take_succ_cons, List.take_zero, List.drop_succ_cons, List.drop_zero]
      repeat (go_big_quiet_step (fail))
      refine wpQuiet_nil ?_
      go_wp2_with fail
      go_roundw
      case rel =>
        refine ⟨k + 1, by omega, by go_num, ?_, ?_⟩
        · rw [HTG.out, ← HG.out]
          exact ((hr1.set1 (by rw [balL_len]; exact hd24) _).set1 (by rw [List.length_set, balL_len]; exact hc24) _).ext (((Ext.refl _).drew).drew)
        · refine (Ext.drew (Ext.drew ?_))
          repeat (refine Ext.setCell ?_ (by first | (simp; done) | (simp; omega) | omega) _)
          exact hx
      case measure => simp [intOf]; omega
    · go_wp2_with fail
      go_ret
      have hkn : ps.take k = ps := List.take_of_length_le (by have := hs.len; omega)
      rw [hkn] at hr1
      exact ⟨_, rfl, Nat.le_refl _, hr1, hx⟩

set_option maxHeartbeats 4000000 in
theorem c_l30Money (A : Option Addr) (n c : Nat) (ps : List Posting) (w : World) (hs : SliceOf w 4 Posting.cells A n c ps) (hled : ledB ps = true) :
    Calls Try.prog 59 #[.slice A n c, .bool true] w (NewBal Posting.money ps w) := by
  obtain ⟨hlen, hall⟩ := ledB_true hled
  have hn : n ≤ 300 := by rw [hs.len]; exact hlen
  have HA := hide hall
  clear hall hlen hled
  have hmk := run_make24
  go_enter Try.func59, Try.ntmps59
  go_wp2_with fail
  clear hmk
  go_loopw [6] (fun i wr => ∃ (k : Nat), k ≤ n ∧ i = .int .i64 k ∧ RowOf wr w.heap.size 2 intC (balL (balF Posting.money (ps.take k))) ∧ Ext w wr) (fun i _ => n - (intOf i).toNat)
  case atStart => exact ⟨0, Nat.zero_le _, rfl, zero_row' w, Ext.alloc _ _⟩
  case round =>
    obtain ⟨k, hk, rfl, hr1, hx⟩ := hrel
    have hl1 := hr1.lt
    by_cases hlt : k < n
    · obtain ⟨b, off, p, rfl, hb, hxk, hc⟩ := (hs.ext hx).get hlt
      have hbl : b < w.heap.size := by obtain ⟨b', off', _, hA, hb', _⟩ := hs.get hlt; injection hA with hA; injection hA with hA; omega
      have hbne : b ≠ w.heap.size := by omega
      have hpB := HA.out p (List.mem_of_getElem? hxk)
      have HTK := hide (take_snoc hxk)
      have hPR : ∀ q ∈ ps.take k, postB q = true := fun q hq => HA.out q (List.mem_of_mem_take hq)
      have hLK : (ps.take k).length = k := by rw [List.length_take, ← hs.len]; omega
      obtain ⟨d, cr, ga, mo⟩ := p
      obtain ⟨p1, p2, p3, p4, p5, p6, p7, p8, p9⟩ := postB_true hpB
      simp only at p1 p2 p3 p4 p5 p6 p7 p8 p9
      clear hpB hxk
      obtain ⟨d, rfl⟩ := Int.eq_ofNat_of_zero_le p1
      obtain ⟨cr, rfl⟩ := Int.eq_ofNat_of_zero_le p3
      have hc0 := hc 0 _ rfl
      have hc1 := hc 1 _ rfl
      have hc2 := hc 2 _ rfl
      have hc3 := hc 3 _ rfl
      clear hc
      simp only [Nat.add_zero] at hc0
      have hdc : d ≠ cr := by omega
      have hd24 : d < 24 := by omega
      have hc24 : cr < 24 := by omega
      have HG := hide (bal_step (sel := Posting.money) (F := balF Posting.money (ps.take k)) (d := d) (c := cr) (g := ga) (m := mo) hdc rfl)
      have b1 := bal_money_bd hPR d
      have b2 := bal_money_bd hPR cr
      rw [hLK] at b1 b2
      have HTG := hide (show balL (balF Posting.money (ps.take (k + 1))) = balL (fun a => balF Posting.money (ps.take k) a + dlt Posting.money ⟨d, cr, ga, mo⟩ a) by rw [HTK.out]; congr 1; funext a; rw [balF_snoc])
      clear HTK hPR hLK
      generalize hF : balF Posting.money (ps.take k) = F at *
      clear hF
      have v1 : wr.cell? ⟨w.heap.size, d, none⟩ = some (.int .i64 (F d)) := by simpa using hr1.get intC_len (balL_at F d hd24) (j := 0) rfl
      have v2 : wr.cell? ⟨w.heap.size, cr, none⟩ = some (.int .i64 (F cr)) := by simpa using hr1.get intC_len (balL_at F cr hc24) (j := 0) rfl
      have f1 := hr1.frozen d
      have f2 := hr1.frozen cr
      have hdc' : cr ≠ d := by omega
      go_wp2_with fail
      refine wp_region_tail 17 (by kernel_rfl) (by kernel_rfl) ?_
      simp only [List.take_succ_cons, List.take_zero, List.drop_succ_cons, List.drop_zero]
      repeat (go_big_quiet_step (fail))
      refine wpQuiet_nil ?_
      go_wp2_with fail
      refine wp_region_tail 17 (by kernel_rfl) (by kernel_rfl) ?_
      simp only [List.take_succ_cons, List.take_zero, List.drop_succ_cons, List.drop_zero]
      repeat (go_big_quiet_step (fail))
      refine wpQuiet_nil ?_
      go_wp2_with fail
      go_roundw
      case rel =>
        refine ⟨k + 1, by omega, by go_num, ?_, ?_⟩
        · rw [HTG.out, ← HG.out]
          exact ((hr1.set1 (by rw [balL_len]; exact hd24) _).set1 (by rw [List.length_set, balL_len]; exact hc24) _).ext (((Ext.refl _).drew).drew)
        · refine (Ext.drew (Ext.drew ?_))
          repeat (refine Ext.setCell ?_ (by first | (simp; done) | (simp; omega) | omega) _)
          exact hx
      case measure => simp [intOf]; omega
    · go_wp2_with fail
      go_ret
      have hkn : ps.take k = ps := List.take_of_length_le (by have := hs.len; omega)
      rw [hkn] at hr1
      exact ⟨_, rfl, Nat.le_refl _, hr1, hx⟩

end Go.Proofs.Ytclnfjpjmelfpaa
