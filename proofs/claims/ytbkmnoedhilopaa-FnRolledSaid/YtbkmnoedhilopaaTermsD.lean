
/-
  The helpers of the laws on terms: copying, comparing, measuring.
-/
import Derived.Test.YtbkmnoedhilopaaTermsB
import Derived.Test.YtbkmnoedhilopaaInts
namespace Go.Proofs.Ytbkmnoedhilopaa
open Go.RowKit

theorem c_toTier (u f : Int) (w : World) :
    Calls Try.prog 60 #[.agg #[.int .i64 u, .int .i64 f]] w (Ret (.agg #[.int .i64 u, .int .i64 f]) w) := by
  go_enter Try.func60, Try.ntmps60
  go_wp2
  exact bodyPost_ret (v := .agg #[.int .i64 u, .int .i64 f]) (by simp [results, Try.results60, go_sem]) rfl ⟨rfl, (((Ext.refl _).and_alloc _).and_alloc _).and_alloc _⟩

theorem c_eqTier (u f u' f' : Int) (w : World) :
    Calls Try.prog 61 #[.agg #[.int .i64 u, .int .i64 f], .agg #[.int .i64 u', .int .i64 f']] w (Ret (.bool (decide (u = u') && decide (f = f'))) w) := by
  go_enter Try.func61, Try.ntmps61
  go_wp2
  all_goals
    go_ret
    refine Ret.bool ?_ (((Ext.refl _).and_alloc _).and_alloc _)
    simp_all

theorem c_szTierS (A : Option Addr) (n c : Nat) (left : Int) (w : World) (hn : n ≤ c) (hc : c ≤ 9223372036854775807) (h0 : 0 ≤ left) (h1 : left ≤ 1048576) :
    Calls Try.prog 37 #[.slice A n c, .int .i64 left] w fun e w' => e = .returned (.int .i64 (if left < n then -1 else left - n)) ∧ w = w' := by
  go_enter Try.func37, Try.ntmps37
  go_wp2
  all_goals
    go_ret
    simp <;> omega

theorem c_szTerms (band percent price left : Int) (A : Option Addr) (n c : Nat) (w : World) (hn : n ≤ c) (hc : c ≤ 9223372036854775807) (h0 : 0 ≤ left) (h1 : left ≤ 1048576) :
    Calls Try.prog 13 #[.agg #[.int .i64 band, .int .i64 percent, .int .i64 price, .slice A n c], .int .i64 left] w (Ret (.int .i64 (if left < n then -1 else left - n)) w) := by
  go_enter Try.func13, Try.ntmps13
  go_wp2_with (go_at_call 37; refine (c_szTierS _ _ _ _ _ hn hc h0 h1).mono ?_; rintro e w' ⟨rfl, rfl⟩)
  all_goals
    go_ret
    refine Ret.int ?_ (Ext.alloc _ _)
    first | omega | rfl

theorem tier_len (t : Tier) : t.cells.length = 2 := rfl
theorem tier_info : (Try.prog.info? 57).map (fun i => (i.zero, i.size, i.bytes)) = some (some (.agg #[.int .i64 0, .int .i64 0]), 2, 16) := by kernel_rfl

set_option maxHeartbeats 1000000 in
theorem c_toTierS (A : Option Addr) (n c : Nat) (ts : List Tier) (w : World) (hs : SliceOf w 2 Tier.cells A n c ts) (hn : n ≤ 1048576) :
    Calls Try.prog 39 #[.slice A n c] w (NewRow 57 Tier.cells ts w) := by
  have hmk := fun W => run_make_flat (P := Try.prog) 27 57 _ _ 2 16 Try.underlying27 tier_info (f := Tier.cells) ⟨0, 0⟩ rfl rfl rfl (by omega) n (by omega) (by omega) W
  have hR0 := Row.new w 57 ((List.replicate n (⟨0, 0⟩ : Tier)).flatMap Tier.cells)
  go_enter Try.func39, Try.ntmps39
  go_wp2_with fail
  go_loopw [4] (fun i wr => ∃ (k : Nat) (L : List Tier), k ≤ n ∧ i = .int .i64 k ∧ L.length = n ∧ RowOf wr w.heap.size 57 Tier.cells L ∧ Hid (∀ j, j < k → L[j]? = ts[j]?) ∧ Ext w wr) (fun i _ => n - (intOf i).toNat)
  case atStart => exact ⟨0, _, Nat.zero_le _, rfl, List.length_replicate, hR0, hide (fun j hj => absurd hj (by omega)), Ext.alloc _ _⟩
  case round =>
    obtain ⟨k, L, hk, rfl, hL, hrow, HK, hx⟩ := hrel
    clear hR0 hmk
    have hgs := hrow.lt
    by_cases hlt : k < n
    · obtain ⟨b, off, x, rfl, hb, hxk, hc⟩ := (hs.ext hx).get hlt
      have hc0 := hc 0 _ rfl
      have hc1 := hc 1 _ rfl
      clear hc
      simp only [Nat.add_zero] at hc0
      have Hx := hide hxk
      have HL := hide hL
      clear hxk hL
      go_wp2_with (go_at_call 60; refine (c_toTier _ _ _).mono ?_; rintro e w1 ⟨rfl, hx1⟩; have hrow1 := hrow.ext hx1; obtain ⟨v0, hv0⟩ := hrow1.there tier_len (i := k) (by rw [HL.out]; exact hlt) (j := 0) (by omega); obtain ⟨v1, hv1⟩ := hrow1.there tier_len (i := k) (by rw [HL.out]; exact hlt) (j := 1) (by omega); have hf0 := hrow1.frozen (k * 2); have hf1 := hrow1.frozen (k * 2 + 1); rw [Nat.add_zero] at hv0)
      go_roundw
      case rel =>
        refine ⟨k + 1, L.set k x, by omega, by go_num, by simpa using HL.out, hrow1.put tier_len (by rw [HL.out]; exact hlt) x, hide ?_, (hx.trans hx1).put (Nat.le_refl _) (k * 2) x.cells⟩
        intro j hj
        rw [List.getElem?_set]
        by_cases e : k = j
        · subst e; rw [if_pos rfl, if_pos (by rw [HL.out]; exact hlt), Hx.out]
        · rw [if_neg e]; exact HK.out j (by omega)
      case measure => simp [intOf]; omega
    · go_wp2
      go_ret
      have hLts : L = ts := by
        apply List.ext_getElem?
        intro j
        by_cases hj : j < n
        · exact HK.out j (by omega)
        · rw [List.getElem?_eq_none (by omega), List.getElem?_eq_none (by have := hs.len; omega)]
      subst hLts
      refine ⟨w.heap.size, ?_, Nat.le_refl _, hrow, hx⟩
      rw [hL]; rfl

end Go.Proofs.Ytbkmnoedhilopaa
