

/-
  The helpers of the laws on Event: copying, comparing, measuring, marking.
-/
import Derived.Test.YtglbiddddflmeaaDoorOwn
import Derived.Test.YtglbiddddflmeaaDoorInts
namespace Go.Proofs.YtglbiddddflmeaaDoor
open Go.RowKit

structure Event where
  kind : Int
  a : Int
  b : Int
  c : Int
  d : Int
def Event.cells (x : Event) : List Value := [.int .i64 x.kind, .int .i64 x.a, .int .i64 x.b, .int .i64 x.c, .int .i64 x.d]
theorem event_len (x : Event) : x.cells.length = 5 := rfl
theorem event_info : (Tryd.prog.info? 38).map (fun i => (i.zero, i.size, i.bytes)) = some (some (.agg #[.int .i64 0, .int .i64 0, .int .i64 0, .int .i64 0, .int .i64 0]), 5, 40) := by kernel_rfl

theorem c_toEvent (x : Event) (w : World) :
    Calls Tryd.prog 24 #[.agg #[.int .i64 x.kind, .int .i64 x.a, .int .i64 x.b, .int .i64 x.c, .int .i64 x.d]] w (Ret (.agg #[.int .i64 x.kind, .int .i64 x.a, .int .i64 x.b, .int .i64 x.c, .int .i64 x.d]) w) := by
  go_enter Tryd.func24, Tryd.ntmps24
  go_wp2
  exact bodyPost_ret (v := .agg #[.int .i64 x.kind, .int .i64 x.a, .int .i64 x.b, .int .i64 x.c, .int .i64 x.d]) (by simp [results, Tryd.results24, go_sem]) rfl ⟨rfl, (((Ext.refl _).and_alloc _).and_alloc _).and_alloc _⟩

theorem c_eqEvent (x : Event) (w : World) :
    Calls Tryd.prog 45 #[.agg #[.int .i64 x.kind, .int .i64 x.a, .int .i64 x.b, .int .i64 x.c, .int .i64 x.d], .agg #[.int .i64 x.kind, .int .i64 x.a, .int .i64 x.b, .int .i64 x.c, .int .i64 x.d]] w (Ret (.bool true) w) := by
  go_enter Tryd.func45, Tryd.ntmps45
  go_wp2
  go_ret
  exact Ret.bool rfl (((Ext.refl _).and_alloc _).and_alloc _)

theorem c_szEventS (A : Option Addr) (n c : Nat) (left : Int) (w : World) (hn : n ≤ c) (hc : c ≤ 9223372036854775807) (h0 : 0 ≤ left) (h1 : left ≤ 1048576) :
    Calls Tryd.prog 12 #[.slice A n c, .int .i64 left] w fun e w' => e = .returned (.int .i64 (if left < n then -1 else left - n)) ∧ w = w' := by
  go_enter Tryd.func12, Tryd.ntmps12
  go_wp2
  all_goals
    go_ret
    simp <;> omega


set_option maxHeartbeats 1000000 in
theorem c_toEventS (A : Option Addr) (n c : Nat) (ts : List Event) (w : World) (hs : SliceOf w 5 Event.cells A n c ts) (hn : n ≤ 1048576) :
    Calls Tryd.prog 14 #[.slice A n c] w (NewRow 38 Event.cells ts w) := by
  have hmk := fun W => run_make_flat (P := Tryd.prog) 26 38 _ _ 5 40 Tryd.underlying26 event_info (f := Event.cells) ⟨0, 0, 0, 0, 0⟩ rfl rfl rfl (by omega) n (by omega) (by omega) W
  have hR0 := Row.new w 38 ((List.replicate n (⟨0, 0, 0, 0, 0⟩ : Event)).flatMap Event.cells)
  go_enter Tryd.func14, Tryd.ntmps14
  go_wp2_with fail
  go_loopw [4] (fun i wr => ∃ (k : Nat) (L : List Event), k ≤ n ∧ i = .int .i64 k ∧ L.length = n ∧ RowOf wr w.heap.size 38 Event.cells L ∧ Hid (∀ j, j < k → L[j]? = ts[j]?) ∧ Ext w wr) (fun i _ => n - (intOf i).toNat)
  case atStart => exact ⟨0, _, Nat.zero_le _, rfl, List.length_replicate, hR0, hide (fun j hj => absurd hj (by omega)), Ext.alloc _ _⟩
  case round =>
    obtain ⟨k, L, hk, rfl, hL, hrow, HK, hx⟩ := hrel
    clear hR0 hmk
    have hgs := hrow.lt
    by_cases hlt : k < n
    · obtain ⟨b, off, x, rfl, hb, hxk, hc⟩ := (hs.ext hx).get hlt
      have hc0 := hc 0 _ rfl
      have hc1 := hc 1 _ rfl
      have hc2 := hc 2 _ rfl
      have hc3 := hc 3 _ rfl
      have hc4 := hc 4 _ rfl
      clear hc
      simp only [Nat.add_zero] at hc0
      have Hx := hide hxk
      have HL := hide hL
      clear hxk hL
      go_wp2_with (go_at_call 24; refine (c_toEvent x _).mono ?_; rintro e w1 ⟨rfl, hx1⟩; have hrow1 := hrow.ext hx1; obtain ⟨v0, hv0⟩ := hrow1.there event_len (i := k) (by rw [HL.out]; exact hlt) (j := 0) (by omega); have hf0 := hrow1.frozen (k * 5); obtain ⟨v1, hv1⟩ := hrow1.there event_len (i := k) (by rw [HL.out]; exact hlt) (j := 1) (by omega); have hf1 := hrow1.frozen (k * 5 + 1); obtain ⟨v2, hv2⟩ := hrow1.there event_len (i := k) (by rw [HL.out]; exact hlt) (j := 2) (by omega); have hf2 := hrow1.frozen (k * 5 + 2); obtain ⟨v3, hv3⟩ := hrow1.there event_len (i := k) (by rw [HL.out]; exact hlt) (j := 3) (by omega); have hf3 := hrow1.frozen (k * 5 + 3); obtain ⟨v4, hv4⟩ := hrow1.there event_len (i := k) (by rw [HL.out]; exact hlt) (j := 4) (by omega); have hf4 := hrow1.frozen (k * 5 + 4); rw [Nat.add_zero] at hv0)
      go_roundw
      case rel =>
        refine ⟨k + 1, L.set k x, by omega, by go_num, by simpa using HL.out, hrow1.put event_len (by rw [HL.out]; exact hlt) x, hide ?_, (hx.trans hx1).put (Nat.le_refl _) (k * 5) x.cells⟩
        intro j hj
        rw [List.getElem?_set]
        by_cases e : k = j
        · subst e; rw [if_pos rfl, if_pos (by rw [HL.out]; exact hlt), Hx.out]
        · rw [if_neg e]; exact HK.out j (by omega)
      case measure => simp [intOf]; omega
    · go_wp2
      go_ret
      have hLts : L = ts := by
        apply List.ext_getElem?
        intro j
        by_cases hj : j < n
        · exact HK.out j (by omega)
        · rw [List.getElem?_eq_none (by omega), List.getElem?_eq_none (by have := hs.len; omega)]
      subst hLts
      refine ⟨w.heap.size, ?_, Nat.le_refl _, hrow, hx⟩
      rw [hL]; rfl

set_option maxHeartbeats 1000000 in
theorem c_eqEventS (A A' : Option Addr) (n c n' c' : Nat) (ts : List Event) (w : World) (hs : SliceOf w 5 Event.cells A n c ts) (hs' : SliceOf w 5 Event.cells A' n' c' ts) :
    Calls Tryd.prog 16 #[.slice A n c, .slice A' n' c'] w (Ret (.bool true) w) := by
  have hl := hs.len
  obtain rfl : n = n' := by rw [hs.len, hs'.len]
  have hm := hs.max
  have hcp := hs.cap
  clear hl
  go_enter Tryd.func16, Tryd.ntmps16
  go_wp2_with fail
  go_loopw [5] (fun i wr => ∃ (k : Nat), k ≤ n ∧ i = .int .i64 k ∧ Ext w wr) (fun i _ => n - (intOf i).toNat)
  case atStart => exact ⟨0, Nat.zero_le _, rfl, Ext.refl _⟩
  case round =>
    obtain ⟨k, hk, rfl, hx⟩ := hrel
    by_cases hlt : k < n
    · obtain ⟨b, off, x, rfl, hb, hxk, hc⟩ := (hs.ext hx).get hlt
      obtain ⟨b', off', x', rfl, hb', hxk', hc'⟩ := (hs'.ext hx).get hlt
      obtain rfl : x = x' := by rw [hxk] at hxk'; injection hxk'
      have hc0 := hc 0 _ rfl
      have hc1 := hc 1 _ rfl
      have hc2 := hc 2 _ rfl
      have hc3 := hc 3 _ rfl
      have hc4 := hc 4 _ rfl
      have hd0 := hc' 0 _ rfl
      have hd1 := hc' 1 _ rfl
      have hd2 := hc' 2 _ rfl
      have hd3 := hc' 3 _ rfl
      have hd4 := hc' 4 _ rfl
      clear hc hc' hxk hxk'
      simp only [Nat.add_zero] at hc0 hd0
      go_wp2_with fail
      refine wp_region_later (by kernel_rfl) (by kernel_rfl) ?_
      repeat (go_big_quiet_step ((go_at_call 45; exact quiet_later (c_eqEvent x _))))
      refine wpQuiet_nil ?_
      intro w1 hx1
      go_wp2
      go_roundw
      case rel => exact ⟨k + 1, by omega, by go_num, hx.trans hx1⟩
      case measure => simp [intOf]; omega
    · go_wp2
      go_ret
      exact Ret.bool rfl hx


/-- the marks from a number on -/
def markEvent (a : Int) (n : Nat) : List Event := (List.range n).map fun (i : Nat) => ⟨a + 5 * (i : Int), a + 5 * (i : Int) + 1, a + 5 * (i : Int) + 2, a + 5 * (i : Int) + 3, a + 5 * (i : Int) + 4⟩
theorem markEvent_at (a : Int) (n i : Nat) (h : i < n) : (markEvent a n)[i]? = some ⟨a + 5 * (i : Int), a + 5 * (i : Int) + 1, a + 5 * (i : Int) + 2, a + 5 * (i : Int) + 3, a + 5 * (i : Int) + 4⟩ := by
  unfold markEvent; rw [List.getElem?_map, List.getElem?_range h]; rfl
/-- the row is marked; nothing else has turned -/
def MarkedEvent (g : Nat) (A : Option Addr) (n : Nat) (a : Int) (w : World) (e : Ending) (w' : World) : Prop :=
  e = .returned (.int .i64 (a + 5 * n)) ∧ OwnS w' g 38 Event.cells A n (markEvent a n) ∧ Only g w w'
set_option maxHeartbeats 1000000 in
theorem c_markEventS (g : Nat) (A : Option Addr) (n c : Nat) (ts : List Event) (a : Int) (w : World) (hown0 : OwnS w g 38 Event.cells A n ts) (hn : n ≤ 1000000000) (hcap : n ≤ c) (hmax : c ≤ 9223372036854775807) (ha0 : 0 ≤ a) (ha1 : a ≤ 1000000000000) :
    Calls Tryd.prog 28 #[.slice A n c, .int .i64 a] w (MarkedEvent g A n a w) := by
  go_enter Tryd.func28, Tryd.ntmps28
  go_wp2_with fail
  go_loopw [1, 5] (fun q i wr => ∃ (k : Nat) (K : Int) (L : List Event), k ≤ n ∧ q = .int .i64 K ∧ i = .int .i64 k ∧ a + 5 * (k : Int) ≤ K ∧ K ≤ a + 5 * (k : Int) ∧ OwnS wr g 38 Event.cells A n L ∧ Hid (∀ j, j < k → L[j]? = (markEvent a n)[j]?) ∧ Only g w wr) (fun _ i _ => n - (intOf i).toNat)
  case atStart => exact ⟨0, a, ts, Nat.zero_le _, rfl, rfl, by omega, by omega, hown0, hide (fun j hj => absurd hj (by omega)), Only.refl _ _⟩
  case round =>
    obtain ⟨k, K, L, hk, rfl, rfl, hK0, hK1, hown, HK, hx⟩ := hrel
    by_cases hlt : k < n
    · have hn0 : 0 < n := by omega
      obtain ⟨rfl, _⟩ := hown.2 hn0
      obtain ⟨v0, hv0⟩ := hown.there event_len (i := k) hlt (j := 0) (by omega)
      have hf0 := hown.frozen hn0 (k * 5)
      obtain ⟨v1, hv1⟩ := hown.there event_len (i := k) hlt (j := 1) (by omega)
      have hf1 := hown.frozen hn0 (k * 5 + 1)
      obtain ⟨v2, hv2⟩ := hown.there event_len (i := k) hlt (j := 2) (by omega)
      have hf2 := hown.frozen hn0 (k * 5 + 2)
      obtain ⟨v3, hv3⟩ := hown.there event_len (i := k) hlt (j := 3) (by omega)
      have hf3 := hown.frozen hn0 (k * 5 + 3)
      obtain ⟨v4, hv4⟩ := hown.there event_len (i := k) hlt (j := 4) (by omega)
      have hf4 := hown.frozen hn0 (k * 5 + 4)
      rw [Nat.add_zero] at hv0
      have HL := hide hown.1
      go_wp2_with fail
      go_roundw
      case rel =>
        refine ⟨k + 1, _, L.set k ⟨K, K + 1, K + 1 + 1, K + 1 + 1 + 1, K + 1 + 1 + 1 + 1⟩, by omega, rfl, by go_num, by omega, by omega, hown.put event_len hlt ⟨K, K + 1, K + 1 + 1, K + 1 + 1 + 1, K + 1 + 1 + 1 + 1⟩, hide ?_, hx.put (k * 5) (Event.cells ⟨K, K + 1, K + 1 + 1, K + 1 + 1 + 1, K + 1 + 1 + 1 + 1⟩)⟩
        intro j hj
        rw [List.getElem?_set]
        by_cases e : k = j
        · subst e
          rw [if_pos rfl, if_pos (by rw [← HL.out]; exact hlt), markEvent_at _ _ _ hlt]
          congr 2 <;> omega
        · rw [if_neg e]; exact HK.out j (by omega)
      case measure => simp [intOf]; omega
    · go_wp2_with fail
      go_ret
      have hLts : L = markEvent a n := by
        apply List.ext_getElem?
        intro j
        by_cases hj : j < n
        · exact HK.out j (by omega)
        · rw [List.getElem?_eq_none (by have := hown.1; omega), List.getElem?_eq_none (by simp [markEvent]; omega)]
      subst hLts
      refine ⟨?_, hown, hx⟩
      obtain rfl : k = n := by omega
      have : K = a + 5 * (k : Int) := by omega
      rw [← this]; rfl

set_option maxRecDepth 8000 in
set_option maxHeartbeats 1000000 in
theorem c_heldEventS (A : Option Addr) (n c : Nat) (a : Int) (w : World) (hs : SliceOf w 5 Event.cells A n c (markEvent a n)) (hn : n ≤ 1000000000) (ha0 : 0 ≤ a) (ha1 : a ≤ 1000000000000) :
    Calls Tryd.prog 29 #[.slice A n c, .int .i64 a] w fun e w' => e = .returned (.int .i64 (a + 5 * n)) ∧ w = w' := by
  have hcap := hs.cap
  have hmax := hs.max
  go_enter Tryd.func29, Tryd.ntmps29
  go_wp2_with fail
  go_loop [1, 5] (fun q i => ∃ (k : Nat) (K : Int), k ≤ n ∧ q = .int .i64 K ∧ i = .int .i64 k ∧ a + 5 * (k : Int) ≤ K ∧ K ≤ a + 5 * (k : Int)) (fun _ i => n - (intOf i).toNat)
  case atStart => exact ⟨0, a, Nat.zero_le _, rfl, rfl, by omega, by omega⟩
  case round =>
    obtain ⟨k, K, hk, rfl, rfl, hK0, hK1⟩ := hrel
    by_cases hlt : k < n
    · obtain ⟨b, off, x, rfl, hb, hxk, hc⟩ := hs.get hlt
      rw [markEvent_at _ _ _ hlt] at hxk
      obtain rfl : (⟨K, K + 1, K + 1 + 1, K + 1 + 1 + 1, K + 1 + 1 + 1 + 1⟩ : Event) = x := by
        injection hxk with hxk
        rw [← hxk]
        congr 1 <;> omega
      clear hxk
      have hc0 := hc 0 _ rfl
      have hc1 := hc 1 _ rfl
      have hc2 := hc 2 _ rfl
      have hc3 := hc 3 _ rfl
      have hc4 := hc 4 _ rfl
      clear hc
      simp only [Nat.add_zero] at hc0
      go_wp2_with fail
      go_round
      case rel => exact ⟨k + 1, _, by omega, rfl, by go_num, by omega, by omega⟩
      case measure => simp [intOf]; omega
    · go_wp2_with fail
      go_ret
      obtain rfl : k = n := by omega
      have : K = a + 5 * (k : Int) := by omega
      exact ⟨by rw [← this]; rfl, rfl⟩

end Go.Proofs.YtglbiddddflmeaaDoor

