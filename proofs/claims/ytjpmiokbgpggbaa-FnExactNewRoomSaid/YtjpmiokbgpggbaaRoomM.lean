

/-
  The helpers of the laws on nodes, networks and lists of lists: marking, and looking at the marks.
-/
import Derived.Test.YtjpmiokbgpggbaaRoomK
import Derived.Test.YtjpmiokbgpggbaaMarkT
import Derived.Test.YtjpmiokbgpggbaaTurn
namespace Go.Proofs.Ytjpmiokbgpggbaa
open Go.RowKit
/-- the marks from a number on -/
def markNode (a : Int) (n : Nat) : List Node := (List.range n).map fun (i : Nat) => ⟨mtext (a + 3 * (i : Int)), a + 3 * (i : Int) + 1, a + 3 * (i : Int) + 2⟩
theorem markNode_at (a : Int) (n i : Nat) (h : i < n) : (markNode a n)[i]? = some ⟨mtext (a + 3 * (i : Int)), a + 3 * (i : Int) + 1, a + 3 * (i : Int) + 2⟩ := by
  unfold markNode; rw [List.getElem?_map, List.getElem?_range h]; rfl
def MarkedNode (g : Nat) (A : Option Addr) (n : Nat) (a : Int) (w : World) (e : Ending) (w' : World) : Prop :=
  e = .returned (.int .i64 (a + 3 * n)) ∧ OwnS w' g 126 Node.cells A n (markNode a n) ∧ Only g w w'
set_option maxHeartbeats 1000000 in
theorem c_markNodeS (g : Nat) (A : Option Addr) (n c : Nat) (ts : List Node) (a : Int) (w : World) (hown0 : OwnS w g 126 Node.cells A n ts) (hn : n ≤ 1000000000) (hcap : n ≤ c) (hmax : c ≤ 9223372036854775807) (ha0 : 0 ≤ a) (ha1 : a ≤ 1000000000000) :
    Calls Try.prog 62 #[.slice A n c, .int .i64 a] w (MarkedNode g A n a w) := by
  go_enter Try.func62, Try.ntmps62
  go_wp2_with fail
  go_loopw [1, 5] (fun q i wr => ∃ (k : Nat) (K : Int) (L : List Node), k ≤ n ∧ q = .int .i64 K ∧ i = .int .i64 k ∧ a + 3 * (k : Int) ≤ K ∧ K ≤ a + 3 * (k : Int) ∧ OwnS wr g 126 Node.cells A n L ∧ Hid (∀ j, j < k → L[j]? = (markNode a n)[j]?) ∧ Only g w wr) (fun _ i _ => n - (intOf i).toNat)
  case atStart => exact ⟨0, a, ts, Nat.zero_le _, rfl, rfl, by omega, by omega, hown0, hide (fun j hj => absurd hj (by omega)), Only.refl _ _⟩
  case round =>
    obtain ⟨k, K, L, hk, rfl, rfl, hK0, hK1, hown, HK, hx⟩ := hrel
    by_cases hlt : k < n
    · have hn0 : 0 < n := by omega
      obtain ⟨rfl, _⟩ := hown.2 hn0
      go_wp2_with fail
      refine (c_markText K _ (by omega)).mono ?_
      rintro e w1 ⟨rfl, hx1⟩
      have hown1 := hown.ext hx1
      have hlt1 := hown1.lt hn0
      obtain ⟨v0, hv0⟩ := hown1.there node_len (i := k) hlt (j := 0) (by omega)
      have hf0 := hown1.frozen hn0 (k * 3)
      obtain ⟨v1, hv1⟩ := hown1.there node_len (i := k) hlt (j := 1) (by omega)
      have hf1 := hown1.frozen hn0 (k * 3 + 1)
      obtain ⟨v2, hv2⟩ := hown1.there node_len (i := k) hlt (j := 2) (by omega)
      have hf2 := hown1.frozen hn0 (k * 3 + 2)
      rw [Nat.add_zero] at hv0
      have HL := hide hown.1
      go_wp2_with fail
      go_roundw
      case rel =>
        refine ⟨k + 1, _, L.set k ⟨mtext K, K + 1, K + 1 + 1⟩, by omega, rfl, by go_num, by omega, by omega, hown1.put node_len hlt ⟨mtext K, K + 1, K + 1 + 1⟩, hide ?_, (hx.trans (Only.of_ext hx1 _)).put (k * 3) (Node.cells ⟨mtext K, K + 1, K + 1 + 1⟩)⟩
        intro j hj
        rw [List.getElem?_set]
        by_cases e : k = j
        · subst e
          rw [if_pos rfl, if_pos (by rw [← HL.out]; exact hlt), markNode_at _ _ _ hlt]
          have : K = a + 3 * (k : Int) := by omega
          subst this
          congr 2 <;> omega
        · rw [if_neg e]; exact HK.out j (by omega)
      case measure => simp [intOf]; omega
    · go_wp2_with fail
      go_ret
      have hLts : L = markNode a n := by
        apply List.ext_getElem?
        intro j
        by_cases hj : j < n
        · exact HK.out j (by omega)
        · rw [List.getElem?_eq_none (by have := hown.1; omega), List.getElem?_eq_none (by simp [markNode]; omega)]
      subst hLts
      refine ⟨?_, hown, hx⟩
      obtain rfl : k = n := by omega
      have : K = a + 3 * (k : Int) := by omega
      rw [← this]; rfl
set_option maxRecDepth 8000 in
set_option maxHeartbeats 1000000 in
theorem c_heldNodeS (A : Option Addr) (n c : Nat) (a : Int) (w : World) (hs : SliceOf w 3 Node.cells A n c (markNode a n)) (hn : n ≤ 1000000000) (ha0 : 0 ≤ a) (ha1 : a ≤ 1000000000000) :
    Calls Try.prog 106 #[.slice A n c, .int .i64 a] w (Ret (.int .i64 (a + 3 * n)) w) := by
  have hcap := hs.cap
  have hmax := hs.max
  go_enter Try.func106, Try.ntmps106
  go_wp2_with fail
  go_loopw [1, 5] (fun q i wr => ∃ (k : Nat) (K : Int), k ≤ n ∧ q = .int .i64 K ∧ i = .int .i64 k ∧ a + 3 * (k : Int) ≤ K ∧ K ≤ a + 3 * (k : Int) ∧ Ext w wr) (fun _ i _ => n - (intOf i).toNat)
  case atStart => exact ⟨0, a, Nat.zero_le _, rfl, rfl, by omega, by omega, Ext.refl _⟩
  case round =>
    obtain ⟨k, K, hk, rfl, rfl, hK0, hK1, hx⟩ := hrel
    by_cases hlt : k < n
    · obtain ⟨b, off, x, rfl, hb, hxk, hc⟩ := (hs.ext hx).get hlt
      rw [markNode_at _ _ _ hlt] at hxk
      obtain rfl : (⟨mtext K, K + 1, K + 1 + 1⟩ : Node) = x := by
        injection hxk with hxk
        rw [← hxk]
        have : K = a + 3 * (k : Int) := by omega
        subst this
        congr 1 <;> omega
      clear hxk
      have hc0 := hc 0 _ rfl
      have hc1 := hc 1 _ rfl
      have hc2 := hc 2 _ rfl
      clear hc
      simp only [Nat.add_zero] at hc0
      go_wp2_with fail
      refine wp_region_later (by kernel_rfl) (by kernel_rfl) ?_
      repeat (go_big_quiet_step ((go_at_call 104; exact quiet_later (c_markText K _ (by omega)))))
      refine wpQuiet_nil ?_
      intro w1 hx1
      have hd1 := (hx1.cell b (off + k * 3 + 1) hb).trans hc1
      have hd2 := (hx1.cell b (off + k * 3 + 2) hb).trans hc2
      have hb1 : b < w1.heap.size := Nat.lt_of_lt_of_le hb hx1.size
      go_wp2_with fail
      go_roundw
      case rel => exact ⟨k + 1, _, by omega, rfl, by go_num, by omega, by omega, hx.trans hx1⟩
      case measure => simp [intOf]; omega
    · go_wp2_with fail
      go_ret
      obtain rfl : k = n := by omega
      have : K = a + 3 * (k : Int) := by omega
      exact ⟨by rw [← this]; rfl, hx⟩
/-- a marked slice -/
def MarkA {α : Type} (t : TypeId) (f : α → List Value) (A : Option Addr) (n c : Nat) (z : Int) (L : List α) (w : World) (e : Ending) (w' : World) : Prop :=
  e = .returned (.int .i64 z) ∧ OwnA w' t f A n c L ∧ Turn (fun k => blkOf A n = some k) w w'
theorem m_markNodeS (A : Option Addr) (n c : Nat) (ts : List Node) (a : Int) (w : World) (h : OwnA w 126 Node.cells A n c ts) (hn : n ≤ 1000000000) (ha0 : 0 ≤ a) (ha1 : a ≤ 1000000000000) :
    Calls Try.prog 62 #[.slice A n c, .int .i64 a] w (MarkA 126 Node.cells A n c (a + 3 * n) (markNode a n) w) := by
  obtain ⟨g, ho, hg⟩ := h.own
  refine (c_markNodeS g A n c ts a w ho hn h.2.1 h.2.2.1 ha0 ha1).mono fun e w' ⟨h1, h2, h3⟩ => ?_
  exact ⟨h1, h2.toA h.2.1 h.2.2.1, Turn.of_only h3 hg⟩
theorem m_markPipeS (A : Option Addr) (n c : Nat) (ts : List Pipe) (a : Int) (w : World) (h : OwnA w 129 Pipe.cells A n c ts) (hn : n ≤ 1000000000) (ha0 : 0 ≤ a) (ha1 : a ≤ 1000000000000) :
    Calls Try.prog 63 #[.slice A n c, .int .i64 a] w (MarkA 129 Pipe.cells A n c (a + 5 * n) (markPipe a n) w) := by
  obtain ⟨g, ho, hg⟩ := h.own
  refine (c_markPipeS g A n c ts a w ho hn h.2.1 h.2.2.1 ha0 ha1).mono fun e w' ⟨h1, h2, h3⟩ => ?_
  exact ⟨h1, h2.toA h.2.1 h.2.2.1, Turn.of_only h3 hg⟩
theorem m_markContractS (A : Option Addr) (n c : Nat) (ts : List Contract) (a : Int) (w : World) (h : OwnA w 87 Contract.cells A n c ts) (hn : n ≤ 1000000000) (ha0 : 0 ≤ a) (ha1 : a ≤ 1000000000000) :
    Calls Try.prog 24 #[.slice A n c, .int .i64 a] w (MarkA 87 Contract.cells A n c (a + 8 * n) (markContract a n) w) := by
  obtain ⟨g, ho, hg⟩ := h.own
  refine (c_markContractS g A n c ts a w ho hn h.2.1 h.2.2.1 ha0 ha1).mono fun e w' ⟨h1, h2, h3⟩ => ?_
  exact ⟨h1, h2.toA h.2.1 h.2.2.1, Turn.of_only h3 hg⟩
theorem m_markNominationS (A : Option Addr) (n c : Nat) (ts : List Nomination) (a : Int) (w : World) (h : OwnA w 98 Nomination.cells A n c ts) (hn : n ≤ 1000000000) (ha0 : 0 ≤ a) (ha1 : a ≤ 1000000000000) :
    Calls Try.prog 64 #[.slice A n c, .int .i64 a] w (MarkA 98 Nomination.cells A n c (a + 4 * n) (markNomination a n) w) := by
  obtain ⟨g, ho, hg⟩ := h.own
  refine (c_markNominationS g A n c ts a w ho hn h.2.1 h.2.2.1 ha0 ha1).mono fun e w' ⟨h1, h2, h3⟩ => ?_
  exact ⟨h1, h2.toA h.2.1 h.2.2.1, Turn.of_only h3 hg⟩
theorem m_markReadingS (A : Option Addr) (n c : Nat) (ts : List Reading) (a : Int) (w : World) (h : OwnA w 106 Reading.cells A n c ts) (hn : n ≤ 1000000000) (ha0 : 0 ≤ a) (ha1 : a ≤ 1000000000000) :
    Calls Try.prog 105 #[.slice A n c, .int .i64 a] w (MarkA 106 Reading.cells A n c (a + 2 * n) (markReading a n) w) := by
  obtain ⟨g, ho, hg⟩ := h.own
  refine (c_markReadingS g A n c ts a w ho hn h.2.1 h.2.2.1 ha0 ha1).mono fun e w' ⟨h1, h2, h3⟩ => ?_
  exact ⟨h1, h2.toA h.2.1 h.2.2.1, Turn.of_only h3 hg⟩
end Go.Proofs.Ytjpmiokbgpggbaa
