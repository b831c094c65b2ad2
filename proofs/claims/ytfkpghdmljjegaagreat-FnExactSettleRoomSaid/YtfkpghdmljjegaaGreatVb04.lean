/-
  The helpers of the laws on Contract: copying, comparing, measuring, marking. The helpers of the laws on Nomination: copying, comparing, measuring, marking.
-/
import Derived.Test.YtfkpghdmljjegaaGreatVb02
import Derived.Test.YtfkpghdmljjegaaGreatVb01
namespace Go.Proofs.YtfkpghdmljjegaaGreat
open Go.RowKit

structure Contract where
  shipper : Int
  entry : Int
  exit : Int
  amount : Int
  cls : Int
  start : Int
  stop : Int
  price : Int
def Contract.cells (x : Contract) : List Value := [.int .i64 x.shipper, .int .i64 x.entry, .int .i64 x.exit, .int .i64 x.amount, .int .i64 x.cls, .int .i64 x.start, .int .i64 x.stop, .int .i64 x.price]
theorem contract_len (x : Contract) : x.cells.length = 8 := rfl
theorem contract_info : (Tryz.prog.info? 153).map (fun i => (i.zero, i.size, i.bytes)) = some (some (.agg #[.int .i64 0, .int .i64 0, .int .i64 0, .int .i64 0, .int .i64 0, .int .i64 0, .int .i64 0, .int .i64 0]), 8, 64) := by kernel_rfl

theorem c_toContract (x : Contract) (w : World) :
    Calls Tryz.prog 108 #[.agg #[.int .i64 x.shipper, .int .i64 x.entry, .int .i64 x.exit, .int .i64 x.amount, .int .i64 x.cls, .int .i64 x.start, .int .i64 x.stop, .int .i64 x.price]] w (Ret (.agg #[.int .i64 x.shipper, .int .i64 x.entry, .int .i64 x.exit, .int .i64 x.amount, .int .i64 x.cls, .int .i64 x.start, .int .i64 x.stop, .int .i64 x.price]) w) := by
  go_enter Tryz.func108, Tryz.ntmps108
  go_wp2
  exact bodyPost_ret (v := .agg #[.int .i64 x.shipper, .int .i64 x.entry, .int .i64 x.exit, .int .i64 x.amount, .int .i64 x.cls, .int .i64 x.start, .int .i64 x.stop, .int .i64 x.price]) (by simp [results, Tryz.results108, go_sem]) rfl ⟨rfl, (((Ext.refl _).and_alloc _).and_alloc _).and_alloc _⟩

theorem c_eqContract (x : Contract) (w : World) :
    Calls Tryz.prog 117 #[.agg #[.int .i64 x.shipper, .int .i64 x.entry, .int .i64 x.exit, .int .i64 x.amount, .int .i64 x.cls, .int .i64 x.start, .int .i64 x.stop, .int .i64 x.price], .agg #[.int .i64 x.shipper, .int .i64 x.entry, .int .i64 x.exit, .int .i64 x.amount, .int .i64 x.cls, .int .i64 x.start, .int .i64 x.stop, .int .i64 x.price]] w (Ret (.bool true) w) := by
  go_enter Tryz.func117, Tryz.ntmps117
  go_wp2
  go_ret
  exact Ret.bool rfl (((Ext.refl _).and_alloc _).and_alloc _)

theorem c_szContractS (A : Option Addr) (n c : Nat) (left : Int) (w : World) (hn : n ≤ c) (hc : c ≤ 9223372036854775807) (h0 : 0 ≤ left) (h1 : left ≤ 1048576) :
    Calls Tryz.prog 19 #[.slice A n c, .int .i64 left] w fun e w' => e = .returned (.int .i64 (if left < n then -1 else left - n)) ∧ w = w' := by
  go_enter Tryz.func19, Tryz.ntmps19
  go_wp2
  all_goals
    go_ret
    simp <;> omega


set_option maxHeartbeats 1000000 in
theorem c_toContractS (A : Option Addr) (n c : Nat) (ts : List Contract) (w : World) (hs : SliceOf w 8 Contract.cells A n c ts) (hn : n ≤ 1048576) :
    Calls Tryz.prog 23 #[.slice A n c] w (NewRow 153 Contract.cells ts w) := by
  have hmk := fun W => run_make_flat (P := Tryz.prog) 47 153 _ _ 8 64 Tryz.underlying47 contract_info (f := Contract.cells) ⟨0, 0, 0, 0, 0, 0, 0, 0⟩ rfl rfl rfl (by omega) n (by omega) (by omega) W
  have hR0 := Row.new w 153 ((List.replicate n (⟨0, 0, 0, 0, 0, 0, 0, 0⟩ : Contract)).flatMap Contract.cells)
  go_enter Tryz.func23, Tryz.ntmps23
  go_wp2_with fail
  go_loopw [4] (fun i wr => ∃ (k : Nat) (L : List Contract), k ≤ n ∧ i = .int .i64 k ∧ L.length = n ∧ RowOf wr w.heap.size 153 Contract.cells L ∧ Hid (∀ j, j < k → L[j]? = ts[j]?) ∧ Ext w wr) (fun i _ => n - (intOf i).toNat)
  case atStart => exact ⟨0, _, Nat.zero_le _, rfl, List.length_replicate, hR0, hide (fun j hj => absurd hj (by omega)), Ext.alloc _ _⟩
  case round =>
    obtain ⟨k, L, hk, rfl, hL, hrow, HK, hx⟩ := hrel
    clear hR0 hmk
    have hgs := hrow.lt
    by_cases hlt : k < n
    · obtain ⟨b, off, x, rfl, hb, hxk, hc⟩ := (hs.ext hx).get hlt
      have hc0 := hc 0 _ rfl
      have hc1 := hc 1 _ rfl
      have hc2 := hc 2 _ rfl
      have hc3 := hc 3 _ rfl
      have hc4 := hc 4 _ rfl
      have hc5 := hc 5 _ rfl
      have hc6 := hc 6 _ rfl
      have hc7 := hc 7 _ rfl
      clear hc
      simp only [Nat.add_zero] at hc0
      have Hx := hide hxk
      have HL := hide hL
      clear hxk hL
      go_wp2_with (go_at_call 108; refine (c_toContract x _).mono ?_; rintro e w1 ⟨rfl, hx1⟩; have hrow1 := hrow.ext hx1; obtain ⟨v0, hv0⟩ := hrow1.there contract_len (i := k) (by rw [HL.out]; exact hlt) (j := 0) (by omega); have hf0 := hrow1.frozen (k * 8); obtain ⟨v1, hv1⟩ := hrow1.there contract_len (i := k) (by rw [HL.out]; exact hlt) (j := 1) (by omega); have hf1 := hrow1.frozen (k * 8 + 1); obtain ⟨v2, hv2⟩ := hrow1.there contract_len (i := k) (by rw [HL.out]; exact hlt) (j := 2) (by omega); have hf2 := hrow1.frozen (k * 8 + 2); obtain ⟨v3, hv3⟩ := hrow1.there contract_len (i := k) (by rw [HL.out]; exact hlt) (j := 3) (by omega); have hf3 := hrow1.frozen (k * 8 + 3); obtain ⟨v4, hv4⟩ := hrow1.there contract_len (i := k) (by rw [HL.out]; exact hlt) (j := 4) (by omega); have hf4 := hrow1.frozen (k * 8 + 4); obtain ⟨v5, hv5⟩ := hrow1.there contract_len (i := k) (by rw [HL.out]; exact hlt) (j := 5) (by omega); have hf5 := hrow1.frozen (k * 8 + 5); obtain ⟨v6, hv6⟩ := hrow1.there contract_len (i := k) (by rw [HL.out]; exact hlt) (j := 6) (by omega); have hf6 := hrow1.frozen (k * 8 + 6); obtain ⟨v7, hv7⟩ := hrow1.there contract_len (i := k) (by rw [HL.out]; exact hlt) (j := 7) (by omega); have hf7 := hrow1.frozen (k * 8 + 7); rw [Nat.add_zero] at hv0)
      go_roundw
      case rel =>
        refine ⟨k + 1, L.set k x, by omega, by go_num, by simpa using HL.out, hrow1.put contract_len (by rw [HL.out]; exact hlt) x, hide ?_, (hx.trans hx1).put (Nat.le_refl _) (k * 8) x.cells⟩
        intro j hj
        rw [List.getElem?_set]
        by_cases e : k = j
        · subst e; rw [if_pos rfl, if_pos (by rw [HL.out]; exact hlt), Hx.out]
        · rw [if_neg e]; exact HK.out j (by omega)
      case measure => simp [intOf]; omega
    · go_wp2
      go_ret
      have hLts : L = ts := by
        apply List.ext_getElem?
        intro j
        by_cases hj : j < n
        · exact HK.out j (by omega)
        · rw [List.getElem?_eq_none (by omega), List.getElem?_eq_none (by have := hs.len; omega)]
      subst hLts
      refine ⟨w.heap.size, ?_, Nat.le_refl _, hrow, hx⟩
      rw [hL]; rfl

set_option maxHeartbeats 1000000 in
theorem c_eqContractS (A A' : Option Addr) (n c n' c' : Nat) (ts : List Contract) (w : World) (hs : SliceOf w 8 Contract.cells A n c ts) (hs' : SliceOf w 8 Contract.cells A' n' c' ts) :
    Calls Tryz.prog 28 #[.slice A n c, .slice A' n' c'] w (Ret (.bool true) w) := by
  have hl := hs.len
  obtain rfl : n = n' := by rw [hs.len, hs'.len]
  have hm := hs.max
  have hcp := hs.cap
  clear hl
  go_enter Tryz.func28, Tryz.ntmps28
  go_wp2_with fail
  go_loopw [5] (fun i wr => ∃ (k : Nat), k ≤ n ∧ i = .int .i64 k ∧ Ext w wr) (fun i _ => n - (intOf i).toNat)
  case atStart => exact ⟨0, Nat.zero_le _, rfl, Ext.refl _⟩
  case round =>
    obtain ⟨k, hk, rfl, hx⟩ := hrel
    by_cases hlt : k < n
    · obtain ⟨b, off, x, rfl, hb, hxk, hc⟩ := (hs.ext hx).get hlt
      obtain ⟨b', off', x', rfl, hb', hxk', hc'⟩ := (hs'.ext hx).get hlt
      obtain rfl : x = x' := by rw [hxk] at hxk'; injection hxk'
      have hc0 := hc 0 _ rfl
      have hc1 := hc 1 _ rfl
      have hc2 := hc 2 _ rfl
      have hc3 := hc 3 _ rfl
      have hc4 := hc 4 _ rfl
      have hc5 := hc 5 _ rfl
      have hc6 := hc 6 _ rfl
      have hc7 := hc 7 _ rfl
      have hd0 := hc' 0 _ rfl
      have hd1 := hc' 1 _ rfl
      have hd2 := hc' 2 _ rfl
      have hd3 := hc' 3 _ rfl
      have hd4 := hc' 4 _ rfl
      have hd5 := hc' 5 _ rfl
      have hd6 := hc' 6 _ rfl
      have hd7 := hc' 7 _ rfl
      clear hc hc' hxk hxk'
      simp only [Nat.add_zero] at hc0 hd0
      go_wp2_with fail
      refine wp_region_later (by kernel_rfl) (by kernel_rfl) ?_
      repeat (go_big_quiet_step ((go_at_call 117; exact quiet_later (c_eqContract x _))))
      refine wpQuiet_nil ?_
      intro w1 hx1
      go_wp2
      go_roundw
      case rel => exact ⟨k + 1, by omega, by go_num, hx.trans hx1⟩
      case measure => simp [intOf]; omega
    · go_wp2
      go_ret
      exact Ret.bool rfl hx


/-- the marks from a number on -/
def markContract (a : Int) (n : Nat) : List Contract := (List.range n).map fun (i : Nat) => ⟨a + 8 * (i : Int), a + 8 * (i : Int) + 1, a + 8 * (i : Int) + 2, a + 8 * (i : Int) + 3, a + 8 * (i : Int) + 4, a + 8 * (i : Int) + 5, a + 8 * (i : Int) + 6, a + 8 * (i : Int) + 7⟩
theorem markContract_at (a : Int) (n i : Nat) (h : i < n) : (markContract a n)[i]? = some ⟨a + 8 * (i : Int), a + 8 * (i : Int) + 1, a + 8 * (i : Int) + 2, a + 8 * (i : Int) + 3, a + 8 * (i : Int) + 4, a + 8 * (i : Int) + 5, a + 8 * (i : Int) + 6, a + 8 * (i : Int) + 7⟩ := by
  unfold markContract; rw [List.getElem?_map, List.getElem?_range h]; rfl
/-- the row is marked; nothing else has turned -/
def MarkedContract (g : Nat) (A : Option Addr) (n : Nat) (a : Int) (w : World) (e : Ending) (w' : World) : Prop :=
  e = .returned (.int .i64 (a + 8 * n)) ∧ OwnS w' g 153 Contract.cells A n (markContract a n) ∧ Only g w w'
set_option maxHeartbeats 1000000 in
theorem c_markContractS (g : Nat) (A : Option Addr) (n c : Nat) (ts : List Contract) (a : Int) (w : World) (hown0 : OwnS w g 153 Contract.cells A n ts) (hn : n ≤ 1000000000) (hcap : n ≤ c) (hmax : c ≤ 9223372036854775807) (ha0 : 0 ≤ a) (ha1 : a ≤ 1000000000000) :
    Calls Tryz.prog 31 #[.slice A n c, .int .i64 a] w (MarkedContract g A n a w) := by
  go_enter Tryz.func31, Tryz.ntmps31
  go_wp2_with fail
  go_loopw [1, 5] (fun q i wr => ∃ (k : Nat) (K : Int) (L : List Contract), k ≤ n ∧ q = .int .i64 K ∧ i = .int .i64 k ∧ a + 8 * (k : Int) ≤ K ∧ K ≤ a + 8 * (k : Int) ∧ OwnS wr g 153 Contract.cells A n L ∧ Hid (∀ j, j < k → L[j]? = (markContract a n)[j]?) ∧ Only g w wr) (fun _ i _ => n - (intOf i).toNat)
  case atStart => exact ⟨0, a, ts, Nat.zero_le _, rfl, rfl, by omega, by omega, hown0, hide (fun j hj => absurd hj (by omega)), Only.refl _ _⟩
  case round =>
    obtain ⟨k, K, L, hk, rfl, rfl, hK0, hK1, hown, HK, hx⟩ := hrel
    by_cases hlt : k < n
    · have hn0 : 0 < n := by omega
      obtain ⟨rfl, _⟩ := hown.2 hn0
      obtain ⟨v0, hv0⟩ := hown.there contract_len (i := k) hlt (j := 0) (by omega)
      have hf0 := hown.frozen hn0 (k * 8)
      obtain ⟨v1, hv1⟩ := hown.there contract_len (i := k) hlt (j := 1) (by omega)
      have hf1 := hown.frozen hn0 (k * 8 + 1)
      obtain ⟨v2, hv2⟩ := hown.there contract_len (i := k) hlt (j := 2) (by omega)
      have hf2 := hown.frozen hn0 (k * 8 + 2)
      obtain ⟨v3, hv3⟩ := hown.there contract_len (i := k) hlt (j := 3) (by omega)
      have hf3 := hown.frozen hn0 (k * 8 + 3)
      obtain ⟨v4, hv4⟩ := hown.there contract_len (i := k) hlt (j := 4) (by omega)
      have hf4 := hown.frozen hn0 (k * 8 + 4)
      obtain ⟨v5, hv5⟩ := hown.there contract_len (i := k) hlt (j := 5) (by omega)
      have hf5 := hown.frozen hn0 (k * 8 + 5)
      obtain ⟨v6, hv6⟩ := hown.there contract_len (i := k) hlt (j := 6) (by omega)
      have hf6 := hown.frozen hn0 (k * 8 + 6)
      obtain ⟨v7, hv7⟩ := hown.there contract_len (i := k) hlt (j := 7) (by omega)
      have hf7 := hown.frozen hn0 (k * 8 + 7)
      rw [Nat.add_zero] at hv0
      have HL := hide hown.1
      go_wp2_with fail
      go_roundw
      case rel =>
        refine ⟨k + 1, _, L.set k ⟨K, K + 1, K + 1 + 1, K + 1 + 1 + 1, K + 1 + 1 + 1 + 1, K + 1 + 1 + 1 + 1 + 1, K + 1 + 1 + 1 + 1 + 1 + 1, K + 1 + 1 + 1 + 1 + 1 + 1 + 1⟩, by omega, rfl, by go_num, by omega, by omega, hown.put contract_len hlt ⟨K, K + 1, K + 1 + 1, K + 1 + 1 + 1, K + 1 + 1 + 1 + 1, K + 1 + 1 + 1 + 1 + 1, K + 1 + 1 + 1 + 1 + 1 + 1, K + 1 + 1 + 1 + 1 + 1 + 1 + 1⟩, hide ?_, hx.put (k * 8) (Contract.cells ⟨K, K + 1, K + 1 + 1, K + 1 + 1 + 1, K + 1 + 1 + 1 + 1, K + 1 + 1 + 1 + 1 + 1, K + 1 + 1 + 1 + 1 + 1 + 1, K + 1 + 1 + 1 + 1 + 1 + 1 + 1⟩)⟩
        intro j hj
        rw [List.getElem?_set]
        by_cases e : k = j
        · subst e
          rw [if_pos rfl, if_pos (by rw [← HL.out]; exact hlt), markContract_at _ _ _ hlt]
          congr 2 <;> omega
        · rw [if_neg e]; exact HK.out j (by omega)
      case measure => simp [intOf]; omega
    · go_wp2_with fail
      go_ret
      have hLts : L = markContract a n := by
        apply List.ext_getElem?
        intro j
        by_cases hj : j < n
        · exact HK.out j (by omega)
        · rw [List.getElem?_eq_none (by have := hown.1; omega), List.getElem?_eq_none (by simp [markContract]; omega)]
      subst hLts
      refine ⟨?_, hown, hx⟩
      obtain rfl : k = n := by omega
      have : K = a + 8 * (k : Int) := by omega
      rw [← this]; rfl


end Go.Proofs.YtfkpghdmljjegaaGreat

namespace Go.Proofs.YtfkpghdmljjegaaGreat
open Go.RowKit

structure Nomination where
  contract : Int
  hour : Int
  sent : Int
  amount : Int
def Nomination.cells (x : Nomination) : List Value := [.int .i64 x.contract, .int .i64 x.hour, .int .i64 x.sent, .int .i64 x.amount]
theorem nomination_len (x : Nomination) : x.cells.length = 4 := rfl
theorem nomination_info : (Tryz.prog.info? 157).map (fun i => (i.zero, i.size, i.bytes)) = some (some (.agg #[.int .i64 0, .int .i64 0, .int .i64 0, .int .i64 0]), 4, 32) := by kernel_rfl

theorem c_toNomination (x : Nomination) (w : World) :
    Calls Tryz.prog 109 #[.agg #[.int .i64 x.contract, .int .i64 x.hour, .int .i64 x.sent, .int .i64 x.amount]] w (Ret (.agg #[.int .i64 x.contract, .int .i64 x.hour, .int .i64 x.sent, .int .i64 x.amount]) w) := by
  go_enter Tryz.func109, Tryz.ntmps109
  go_wp2
  exact bodyPost_ret (v := .agg #[.int .i64 x.contract, .int .i64 x.hour, .int .i64 x.sent, .int .i64 x.amount]) (by simp [results, Tryz.results109, go_sem]) rfl ⟨rfl, (((Ext.refl _).and_alloc _).and_alloc _).and_alloc _⟩

theorem c_eqNomination (x : Nomination) (w : World) :
    Calls Tryz.prog 118 #[.agg #[.int .i64 x.contract, .int .i64 x.hour, .int .i64 x.sent, .int .i64 x.amount], .agg #[.int .i64 x.contract, .int .i64 x.hour, .int .i64 x.sent, .int .i64 x.amount]] w (Ret (.bool true) w) := by
  go_enter Tryz.func118, Tryz.ntmps118
  go_wp2
  go_ret
  exact Ret.bool rfl (((Ext.refl _).and_alloc _).and_alloc _)

theorem c_szNominationS (A : Option Addr) (n c : Nat) (left : Int) (w : World) (hn : n ≤ c) (hc : c ≤ 9223372036854775807) (h0 : 0 ≤ left) (h1 : left ≤ 1048576) :
    Calls Tryz.prog 20 #[.slice A n c, .int .i64 left] w fun e w' => e = .returned (.int .i64 (if left < n then -1 else left - n)) ∧ w = w' := by
  go_enter Tryz.func20, Tryz.ntmps20
  go_wp2
  all_goals
    go_ret
    simp <;> omega


set_option maxHeartbeats 1000000 in
theorem c_toNominationS (A : Option Addr) (n c : Nat) (ts : List Nomination) (w : World) (hs : SliceOf w 4 Nomination.cells A n c ts) (hn : n ≤ 1048576) :
    Calls Tryz.prog 24 #[.slice A n c] w (NewRow 157 Nomination.cells ts w) := by
  have hmk := fun W => run_make_flat (P := Tryz.prog) 49 157 _ _ 4 32 Tryz.underlying49 nomination_info (f := Nomination.cells) ⟨0, 0, 0, 0⟩ rfl rfl rfl (by omega) n (by omega) (by omega) W
  have hR0 := Row.new w 157 ((List.replicate n (⟨0, 0, 0, 0⟩ : Nomination)).flatMap Nomination.cells)
  go_enter Tryz.func24, Tryz.ntmps24
  go_wp2_with fail
  go_loopw [4] (fun i wr => ∃ (k : Nat) (L : List Nomination), k ≤ n ∧ i = .int .i64 k ∧ L.length = n ∧ RowOf wr w.heap.size 157 Nomination.cells L ∧ Hid (∀ j, j < k → L[j]? = ts[j]?) ∧ Ext w wr) (fun i _ => n - (intOf i).toNat)
  case atStart => exact ⟨0, _, Nat.zero_le _, rfl, List.length_replicate, hR0, hide (fun j hj => absurd hj (by omega)), Ext.alloc _ _⟩
  case round =>
    obtain ⟨k, L, hk, rfl, hL, hrow, HK, hx⟩ := hrel
    clear hR0 hmk
    have hgs := hrow.lt
    by_cases hlt : k < n
    · obtain ⟨b, off, x, rfl, hb, hxk, hc⟩ := (hs.ext hx).get hlt
      have hc0 := hc 0 _ rfl
      have hc1 := hc 1 _ rfl
      have hc2 := hc 2 _ rfl
      have hc3 := hc 3 _ rfl
      clear hc
      simp only [Nat.add_zero] at hc0
      have Hx := hide hxk
      have HL := hide hL
      clear hxk hL
      go_wp2_with (go_at_call 109; refine (c_toNomination x _).mono ?_; rintro e w1 ⟨rfl, hx1⟩; have hrow1 := hrow.ext hx1; obtain ⟨v0, hv0⟩ := hrow1.there nomination_len (i := k) (by rw [HL.out]; exact hlt) (j := 0) (by omega); have hf0 := hrow1.frozen (k * 4); obtain ⟨v1, hv1⟩ := hrow1.there nomination_len (i := k) (by rw [HL.out]; exact hlt) (j := 1) (by omega); have hf1 := hrow1.frozen (k * 4 + 1); obtain ⟨v2, hv2⟩ := hrow1.there nomination_len (i := k) (by rw [HL.out]; exact hlt) (j := 2) (by omega); have hf2 := hrow1.frozen (k * 4 + 2); obtain ⟨v3, hv3⟩ := hrow1.there nomination_len (i := k) (by rw [HL.out]; exact hlt) (j := 3) (by omega); have hf3 := hrow1.frozen (k * 4 + 3); rw [Nat.add_zero] at hv0)
      go_roundw
      case rel =>
        refine ⟨k + 1, L.set k x, by omega, by go_num, by simpa using HL.out, hrow1.put nomination_len (by rw [HL.out]; exact hlt) x, hide ?_, (hx.trans hx1).put (Nat.le_refl _) (k * 4) x.cells⟩
        intro j hj
        rw [List.getElem?_set]
        by_cases e : k = j
        · subst e; rw [if_pos rfl, if_pos (by rw [HL.out]; exact hlt), Hx.out]
        · rw [if_neg e]; exact HK.out j (by omega)
      case measure => simp [intOf]; omega
    · go_wp2
      go_ret
      have hLts : L = ts := by
        apply List.ext_getElem?
        intro j
        by_cases hj : j < n
        · exact HK.out j (by omega)
        · rw [List.getElem?_eq_none (by omega), List.getElem?_eq_none (by have := hs.len; omega)]
      subst hLts
      refine ⟨w.heap.size, ?_, Nat.le_refl _, hrow, hx⟩
      rw [hL]; rfl

set_option maxHeartbeats 1000000 in
theorem c_eqNominationS (A A' : Option Addr) (n c n' c' : Nat) (ts : List Nomination) (w : World) (hs : SliceOf w 4 Nomination.cells A n c ts) (hs' : SliceOf w 4 Nomination.cells A' n' c' ts) :
    Calls Tryz.prog 29 #[.slice A n c, .slice A' n' c'] w (Ret (.bool true) w) := by
  have hl := hs.len
  obtain rfl : n = n' := by rw [hs.len, hs'.len]
  have hm := hs.max
  have hcp := hs.cap
  clear hl
  go_enter Tryz.func29, Tryz.ntmps29
  go_wp2_with fail
  go_loopw [5] (fun i wr => ∃ (k : Nat), k ≤ n ∧ i = .int .i64 k ∧ Ext w wr) (fun i _ => n - (intOf i).toNat)
  case atStart => exact ⟨0, Nat.zero_le _, rfl, Ext.refl _⟩
  case round =>
    obtain ⟨k, hk, rfl, hx⟩ := hrel
    by_cases hlt : k < n
    · obtain ⟨b, off, x, rfl, hb, hxk, hc⟩ := (hs.ext hx).get hlt
      obtain ⟨b', off', x', rfl, hb', hxk', hc'⟩ := (hs'.ext hx).get hlt
      obtain rfl : x = x' := by rw [hxk] at hxk'; injection hxk'
      have hc0 := hc 0 _ rfl
      have hc1 := hc 1 _ rfl
      have hc2 := hc 2 _ rfl
      have hc3 := hc 3 _ rfl
      have hd0 := hc' 0 _ rfl
      have hd1 := hc' 1 _ rfl
      have hd2 := hc' 2 _ rfl
      have hd3 := hc' 3 _ rfl
      clear hc hc' hxk hxk'
      simp only [Nat.add_zero] at hc0 hd0
      go_wp2_with fail
      refine wp_region_later (by kernel_rfl) (by kernel_rfl) ?_
      repeat (go_big_quiet_step ((go_at_call 118; exact quiet_later (c_eqNomination x _))))
      refine wpQuiet_nil ?_
      intro w1 hx1
      go_wp2
      go_roundw
      case rel => exact ⟨k + 1, by omega, by go_num, hx.trans hx1⟩
      case measure => simp [intOf]; omega
    · go_wp2
      go_ret
      exact Ret.bool rfl hx


/-- the marks from a number on -/
def markNomination (a : Int) (n : Nat) : List Nomination := (List.range n).map fun (i : Nat) => ⟨a + 4 * (i : Int), a + 4 * (i : Int) + 1, a + 4 * (i : Int) + 2, a + 4 * (i : Int) + 3⟩
theorem markNomination_at (a : Int) (n i : Nat) (h : i < n) : (markNomination a n)[i]? = some ⟨a + 4 * (i : Int), a + 4 * (i : Int) + 1, a + 4 * (i : Int) + 2, a + 4 * (i : Int) + 3⟩ := by
  unfold markNomination; rw [List.getElem?_map, List.getElem?_range h]; rfl
/-- the row is marked; nothing else has turned -/
def MarkedNomination (g : Nat) (A : Option Addr) (n : Nat) (a : Int) (w : World) (e : Ending) (w' : World) : Prop :=
  e = .returned (.int .i64 (a + 4 * n)) ∧ OwnS w' g 157 Nomination.cells A n (markNomination a n) ∧ Only g w w'
set_option maxHeartbeats 1000000 in
theorem c_markNominationS (g : Nat) (A : Option Addr) (n c : Nat) (ts : List Nomination) (a : Int) (w : World) (hown0 : OwnS w g 157 Nomination.cells A n ts) (hn : n ≤ 1000000000) (hcap : n ≤ c) (hmax : c ≤ 9223372036854775807) (ha0 : 0 ≤ a) (ha1 : a ≤ 1000000000000) :
    Calls Tryz.prog 32 #[.slice A n c, .int .i64 a] w (MarkedNomination g A n a w) := by
  go_enter Tryz.func32, Tryz.ntmps32
  go_wp2_with fail
  go_loopw [1, 5] (fun q i wr => ∃ (k : Nat) (K : Int) (L : List Nomination), k ≤ n ∧ q = .int .i64 K ∧ i = .int .i64 k ∧ a + 4 * (k : Int) ≤ K ∧ K ≤ a + 4 * (k : Int) ∧ OwnS wr g 157 Nomination.cells A n L ∧ Hid (∀ j, j < k → L[j]? = (markNomination a n)[j]?) ∧ Only g w wr) (fun _ i _ => n - (intOf i).toNat)
  case atStart => exact ⟨0, a, ts, Nat.zero_le _, rfl, rfl, by omega, by omega, hown0, hide (fun j hj => absurd hj (by omega)), Only.refl _ _⟩
  case round =>
    obtain ⟨k, K, L, hk, rfl, rfl, hK0, hK1, hown, HK, hx⟩ := hrel
    by_cases hlt : k < n
    · have hn0 : 0 < n := by omega
      obtain ⟨rfl, _⟩ := hown.2 hn0
      obtain ⟨v0, hv0⟩ := hown.there nomination_len (i := k) hlt (j := 0) (by omega)
      have hf0 := hown.frozen hn0 (k * 4)
      obtain ⟨v1, hv1⟩ := hown.there nomination_len (i := k) hlt (j := 1) (by omega)
      have hf1 := hown.frozen hn0 (k * 4 + 1)
      obtain ⟨v2, hv2⟩ := hown.there nomination_len (i := k) hlt (j := 2) (by omega)
      have hf2 := hown.frozen hn0 (k * 4 + 2)
      obtain ⟨v3, hv3⟩ := hown.there nomination_len (i := k) hlt (j := 3) (by omega)
      have hf3 := hown.frozen hn0 (k * 4 + 3)
      rw [Nat.add_zero] at hv0
      have HL := hide hown.1
      go_wp2_with fail
      go_roundw
      case rel =>
        refine ⟨k + 1, _, L.set k ⟨K, K + 1, K + 1 + 1, K + 1 + 1 + 1⟩, by omega, rfl, by go_num, by omega, by omega, hown.put nomination_len hlt ⟨K, K + 1, K + 1 + 1, K + 1 + 1 + 1⟩, hide ?_, hx.put (k * 4) (Nomination.cells ⟨K, K + 1, K + 1 + 1, K + 1 + 1 + 1⟩)⟩
        intro j hj
        rw [List.getElem?_set]
        by_cases e : k = j
        · subst e
          rw [if_pos rfl, if_pos (by rw [← HL.out]; exact hlt), markNomination_at _ _ _ hlt]
          congr 2 <;> omega
        · rw [if_neg e]; exact HK.out j (by omega)
      case measure => simp [intOf]; omega
    · go_wp2_with fail
      go_ret
      have hLts : L = markNomination a n := by
        apply List.ext_getElem?
        intro j
        by_cases hj : j < n
        · exact HK.out j (by omega)
        · rw [List.getElem?_eq_none (by have := hown.1; omega), List.getElem?_eq_none (by simp [markNomination]; omega)]
      subst hLts
      refine ⟨?_, hown, hx⟩
      obtain rfl : k = n := by omega
      have : K = a + 4 * (k : Int) := by omega
      rw [← this]; rfl


end Go.Proofs.YtfkpghdmljjegaaGreat
