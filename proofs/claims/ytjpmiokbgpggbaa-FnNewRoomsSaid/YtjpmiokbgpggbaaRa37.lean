/-
  The helpers of the laws on Event: copying, comparing, measuring, marking. Marking and holding slices of int64; what a call that returns a slice and a code leaves. The events of a room, of the program and of the reference.
-/
import Derived.Test.YtjpmiokbgpggbaaRa16
import Derived.Test.YtjpmiokbgpggbaaRa01
import Derived.Test.YtjpmiokbgpggbaaRa08
import Derived.Test.YtjpmiokbgpggbaaRa18
import Derived.Test.YtjpmiokbgpggbaaRa03
namespace Go.Proofs.Ytjpmiokbgpggbaa
open Go.RowKit

structure Event where
  kind : Int
  a : Int
  b : Int
  c : Int
  d : Int
def Event.cells (x : Event) : List Value := [.int .i64 x.kind, .int .i64 x.a, .int .i64 x.b, .int .i64 x.c, .int .i64 x.d]
theorem event_len (x : Event) : x.cells.length = 5 := rfl
theorem event_info : (Try.prog.info? 101).map (fun i => (i.zero, i.size, i.bytes)) = some (some (.agg #[.int .i64 0, .int .i64 0, .int .i64 0, .int .i64 0, .int .i64 0]), 5, 40) := by kernel_rfl


theorem c_eqEvent (x : Event) (w : World) :
    Calls Try.prog 80 #[.agg #[.int .i64 x.kind, .int .i64 x.a, .int .i64 x.b, .int .i64 x.c, .int .i64 x.d], .agg #[.int .i64 x.kind, .int .i64 x.a, .int .i64 x.b, .int .i64 x.c, .int .i64 x.d]] w (Ret (.bool true) w) := by
  go_enter Try.func80, Try.ntmps80
  go_wp2
  go_ret
  exact Ret.bool rfl (((Ext.refl _).and_alloc _).and_alloc _)




set_option maxHeartbeats 1000000 in
theorem c_eqEventS (A A' : Option Addr) (n c n' c' : Nat) (ts : List Event) (w : World) (hs : SliceOf w 5 Event.cells A n c ts) (hs' : SliceOf w 5 Event.cells A' n' c' ts) :
    Calls Try.prog 33 #[.slice A n c, .slice A' n' c'] w (Ret (.bool true) w) := by
  have hl := hs.len
  obtain rfl : n = n' := by rw [hs.len, hs'.len]
  have hm := hs.max
  have hcp := hs.cap
  clear hl
  go_enter Try.func33, Try.ntmps33
  go_wp2_with fail
  go_loopw [5] (fun i wr => ∃ (k : Nat), k ≤ n ∧ i = .int .i64 k ∧ Ext w wr) (fun i _ => n - (intOf i).toNat)
  case atStart => exact ⟨0, Nat.zero_le _, rfl, Ext.refl _⟩
  case round =>
    obtain ⟨k, hk, rfl, hx⟩ := hrel
    by_cases hlt : k < n
    · obtain ⟨b, off, x, rfl, hb, hxk, hc⟩ := (hs.ext hx).get hlt
      obtain ⟨b', off', x', rfl, hb', hxk', hc'⟩ := (hs'.ext hx).get hlt
      obtain rfl : x = x' := by rw [hxk] at hxk'; injection hxk'
      have hc0 := hc 0 _ rfl
      have hc1 := hc 1 _ rfl
      have hc2 := hc 2 _ rfl
      have hc3 := hc 3 _ rfl
      have hc4 := hc 4 _ rfl
      have hd0 := hc' 0 _ rfl
      have hd1 := hc' 1 _ rfl
      have hd2 := hc' 2 _ rfl
      have hd3 := hc' 3 _ rfl
      have hd4 := hc' 4 _ rfl
      clear hc hc' hxk hxk'
      simp only [Nat.add_zero] at hc0 hd0
      go_wp2_with fail
      refine wp_region_later (by kernel_rfl) (by kernel_rfl) ?_
      repeat (go_big_quiet_step ((go_at_call 80; exact quiet_later (c_eqEvent x _))))
      refine wpQuiet_nil ?_
      intro w1 hx1
      go_wp2
      go_roundw
      case rel => exact ⟨k + 1, by omega, by go_num, hx.trans hx1⟩
      case measure => simp [intOf]; omega
    · go_wp2
      go_ret
      exact Ret.bool rfl hx


/-- the marks from a number on -/
def markEvent (a : Int) (n : Nat) : List Event := (List.range n).map fun (i : Nat) => ⟨a + 5 * (i : Int), a + 5 * (i : Int) + 1, a + 5 * (i : Int) + 2, a + 5 * (i : Int) + 3, a + 5 * (i : Int) + 4⟩
theorem markEvent_at (a : Int) (n i : Nat) (h : i < n) : (markEvent a n)[i]? = some ⟨a + 5 * (i : Int), a + 5 * (i : Int) + 1, a + 5 * (i : Int) + 2, a + 5 * (i : Int) + 3, a + 5 * (i : Int) + 4⟩ := by
  unfold markEvent; rw [List.getElem?_map, List.getElem?_range h]; rfl
/-- the row is marked; nothing else has turned -/
def MarkedEvent (g : Nat) (A : Option Addr) (n : Nat) (a : Int) (w : World) (e : Ending) (w' : World) : Prop :=
  e = .returned (.int .i64 (a + 5 * n)) ∧ OwnS w' g 101 Event.cells A n (markEvent a n) ∧ Only g w w'
set_option maxHeartbeats 1000000 in
theorem c_markEventS (g : Nat) (A : Option Addr) (n c : Nat) (ts : List Event) (a : Int) (w : World) (hown0 : OwnS w g 101 Event.cells A n ts) (hn : n ≤ 1000000000) (hcap : n ≤ c) (hmax : c ≤ 9223372036854775807) (ha0 : 0 ≤ a) (ha1 : a ≤ 1000000000000) :
    Calls Try.prog 34 #[.slice A n c, .int .i64 a] w (MarkedEvent g A n a w) := by
  go_enter Try.func34, Try.ntmps34
  go_wp2_with fail
  go_loopw [1, 5] (fun q i wr => ∃ (k : Nat) (K : Int) (L : List Event), k ≤ n ∧ q = .int .i64 K ∧ i = .int .i64 k ∧ a + 5 * (k : Int) ≤ K ∧ K ≤ a + 5 * (k : Int) ∧ OwnS wr g 101 Event.cells A n L ∧ Hid (∀ j, j < k → L[j]? = (markEvent a n)[j]?) ∧ Only g w wr) (fun _ i _ => n - (intOf i).toNat)
  case atStart => exact ⟨0, a, ts, Nat.zero_le _, rfl, rfl, by omega, by omega, hown0, hide (fun j hj => absurd hj (by omega)), Only.refl _ _⟩
  case round =>
    obtain ⟨k, K, L, hk, rfl, rfl, hK0, hK1, hown, HK, hx⟩ := hrel
    by_cases hlt : k < n
    · have hn0 : 0 < n := by omega
      obtain ⟨rfl, _⟩ := hown.2 hn0
      obtain ⟨v0, hv0⟩ := hown.there event_len (i := k) hlt (j := 0) (by omega)
      have hf0 := hown.frozen hn0 (k * 5)
      obtain ⟨v1, hv1⟩ := hown.there event_len (i := k) hlt (j := 1) (by omega)
      have hf1 := hown.frozen hn0 (k * 5 + 1)
      obtain ⟨v2, hv2⟩ := hown.there event_len (i := k) hlt (j := 2) (by omega)
      have hf2 := hown.frozen hn0 (k * 5 + 2)
      obtain ⟨v3, hv3⟩ := hown.there event_len (i := k) hlt (j := 3) (by omega)
      have hf3 := hown.frozen hn0 (k * 5 + 3)
      obtain ⟨v4, hv4⟩ := hown.there event_len (i := k) hlt (j := 4) (by omega)
      have hf4 := hown.frozen hn0 (k * 5 + 4)
      rw [Nat.add_zero] at hv0
      have HL := hide hown.1
      go_wp2_with fail
      go_roundw
      case rel =>
        refine ⟨k + 1, _, L.set k ⟨K, K + 1, K + 1 + 1, K + 1 + 1 + 1, K + 1 + 1 + 1 + 1⟩, by omega, rfl, by go_num, by omega, by omega, hown.put event_len hlt ⟨K, K + 1, K + 1 + 1, K + 1 + 1 + 1, K + 1 + 1 + 1 + 1⟩, hide ?_, hx.put (k * 5) (Event.cells ⟨K, K + 1, K + 1 + 1, K + 1 + 1 + 1, K + 1 + 1 + 1 + 1⟩)⟩
        intro j hj
        rw [List.getElem?_set]
        by_cases e : k = j
        · subst e
          rw [if_pos rfl, if_pos (by rw [← HL.out]; exact hlt), markEvent_at _ _ _ hlt]
          congr 2 <;> omega
        · rw [if_neg e]; exact HK.out j (by omega)
      case measure => simp [intOf]; omega
    · go_wp2_with fail
      go_ret
      have hLts : L = markEvent a n := by
        apply List.ext_getElem?
        intro j
        by_cases hj : j < n
        · exact HK.out j (by omega)
        · rw [List.getElem?_eq_none (by have := hown.1; omega), List.getElem?_eq_none (by simp [markEvent]; omega)]
      subst hLts
      refine ⟨?_, hown, hx⟩
      obtain rfl : k = n := by omega
      have : K = a + 5 * (k : Int) := by omega
      rw [← this]; rfl

set_option maxRecDepth 8000 in
set_option maxHeartbeats 1000000 in
theorem c_heldEventS (A : Option Addr) (n c : Nat) (a : Int) (w : World) (hs : SliceOf w 5 Event.cells A n c (markEvent a n)) (hn : n ≤ 1000000000) (ha0 : 0 ≤ a) (ha1 : a ≤ 1000000000000) :
    Calls Try.prog 35 #[.slice A n c, .int .i64 a] w fun e w' => e = .returned (.int .i64 (a + 5 * n)) ∧ w = w' := by
  have hcap := hs.cap
  have hmax := hs.max
  go_enter Try.func35, Try.ntmps35
  go_wp2_with fail
  go_loop [1, 5] (fun q i => ∃ (k : Nat) (K : Int), k ≤ n ∧ q = .int .i64 K ∧ i = .int .i64 k ∧ a + 5 * (k : Int) ≤ K ∧ K ≤ a + 5 * (k : Int)) (fun _ i => n - (intOf i).toNat)
  case atStart => exact ⟨0, a, Nat.zero_le _, rfl, rfl, by omega, by omega⟩
  case round =>
    obtain ⟨k, K, hk, rfl, rfl, hK0, hK1⟩ := hrel
    by_cases hlt : k < n
    · obtain ⟨b, off, x, rfl, hb, hxk, hc⟩ := hs.get hlt
      rw [markEvent_at _ _ _ hlt] at hxk
      obtain rfl : (⟨K, K + 1, K + 1 + 1, K + 1 + 1 + 1, K + 1 + 1 + 1 + 1⟩ : Event) = x := by
        injection hxk with hxk
        rw [← hxk]
        congr 1 <;> omega
      clear hxk
      have hc0 := hc 0 _ rfl
      have hc1 := hc 1 _ rfl
      have hc2 := hc 2 _ rfl
      have hc3 := hc 3 _ rfl
      have hc4 := hc 4 _ rfl
      clear hc
      simp only [Nat.add_zero] at hc0
      go_wp2_with fail
      go_round
      case rel => exact ⟨k + 1, _, by omega, rfl, by go_num, by omega, by omega⟩
      case measure => simp [intOf]; omega
    · go_wp2_with fail
      go_ret
      obtain rfl : k = n := by omega
      have : K = a + 5 * (k : Int) := by omega
      exact ⟨by rw [← this]; rfl, rfl⟩

end Go.Proofs.Ytjpmiokbgpggbaa

namespace Go.Proofs.Ytjpmiokbgpggbaa
open Go.RowKit

/-- a slice of the call's own, and a code -/
def RetS {α : Type} (t : TypeId) (f : α → List Value) (r : List α × Int) (w : World) (e : Ending) (w' : World) : Prop :=
  ∃ A n c g, e = .returned (.tuple #[.slice A n c, .int .i64 r.2]) ∧ n ≤ c ∧ c ≤ 9223372036854775807 ∧ w.heap.size ≤ g ∧ OwnS w' g t f A n r.1 ∧ Ext w w'
theorem RetS.nil_ {α : Type} {t : TypeId} {f : α → List Value} {r : List α × Int} {k : Int} {w w' : World} (h : r = ([], k)) (hx : Ext w w') : RetS t f r w (.returned (.tuple #[.slice none 0 0, .int .i64 k])) w' := by
  subst h
  exact ⟨none, 0, 0, w.heap.size, rfl, Nat.le_refl _, by omega, Nat.le_refl _, OwnS.nil, hx⟩
theorem RetS.row {α : Type} {t : TypeId} {f : α → List Value} {r : List α × Int} {xs : List α} {k : Int} {w w' : World} {g n : Nat} (h : r = (xs, k)) (hn : n = xs.length) (hm : n ≤ 9223372036854775807) (hg : w.heap.size ≤ g) (hr : RowOf w' g t f xs) (hx : Ext w w') :
    RetS t f r w (.returned (.tuple #[.slice (some ⟨g, 0, none⟩) n n, .int .i64 k])) w' := by
  subst h
  subst hn
  exact ⟨_, _, _, g, rfl, Nat.le_refl _, hm, hg, OwnS.of_row hr, hx⟩




end Go.Proofs.Ytjpmiokbgpggbaa

namespace Go.Proofs.Ytjpmiokbgpggbaa
open Go.RowKit
def nomEv (x : Nomination) : Event := ⟨1, x.contract, x.hour, x.sent, x.amount⟩
def readEv (x : Reading) : Event := ⟨2, x.node, x.amount, 0, 0⟩
def closeEv (k : Nat) : Event := ⟨3, k, 0, 0, 0⟩
def hourEv (m k : Nat) (xs : List Reading) : List Event := xs.map readEv ++ if k + 1 < m then [closeEv k] else []
def hoursEv (m : Nat) : Nat → List (List Reading) → List Event
  | _, [] => []
  | k, xs :: rest => hourEv m k xs ++ hoursEv m (k + 1) rest
theorem hoursEv_snoc (m k : Nat) (l : List (List Reading)) (xs : List Reading) : hoursEv m k (l ++ [xs]) = hoursEv m k l ++ hourEv m (k + l.length) xs := by
  induction l generalizing k with
  | nil => simp [hoursEv]
  | cons y l ih =>
    simp only [List.cons_append, hoursEv, ih, List.length_cons, List.append_assoc]
    rw [show k + 1 + l.length = k + (l.length + 1) by omega]
def roomEv (r : Room) : List Event := r.L.map nomEv ++ hoursEv r.rs.length 0 (r.rs.map RS.xs)
def evR (r : Room) : List Event × Int := if 300 < (roomEv r).length then ([], 3) else (roomEv r, 0)
theorem take_one {α : Type} {l : List α} {k : Nat} {x : α} (h : l[k]? = some x) : l.take (k + 1) = l.take k ++ [x] := by
  rw [List.take_add_one, h]; rfl
theorem ev_step {m : Nat} {rs : List RS} {k : Nat} {q : RS} (h : rs[k]? = some q) : hoursEv m 0 ((rs.take (k + 1)).map RS.xs) = hoursEv m 0 ((rs.take k).map RS.xs) ++ hourEv m k q.xs := by
  rw [take_one h, List.map_append, List.map_singleton, hoursEv_snoc]
  have : ((rs.take k).map RS.xs).length = k := by rw [List.length_map, List.length_take]; have := (List.getElem?_eq_some_iff.1 h).1; omega
  rw [this, Nat.zero_add]
theorem event_one (y : Event) : ∀ u ∈ y.cells, u.oneCell' = true := by intro u hu; simp [Event.cells] at hu; rcases hu with rfl | rfl | rfl | rfl | rfl <;> rfl
/-- what is known of a valid room's sizes -/
structure RoomFits (r : Room) : Prop where
  L : r.L.length ≤ 200
  rs : r.rs.length ≤ 48
  xs : ∀ q ∈ r.rs, q.xs.length ≤ 48
theorem roomFits {n1 : Int} {r : Room} (h : roomB n1 r = true) : RoomFits r := by
  simp only [roomB, Bool.and_eq_true, nomsOk, nomsB, decide_eq_true_eq, inB_true, List.all_eq_true] at h
  obtain ⟨⟨⟨_, h1, _⟩, h2⟩, h3⟩ := h
  refine ⟨h1, by omega, fun q hq => ?_⟩
  have := h3 q hq
  simp only [readsB, Bool.and_eq_true, decide_eq_true_eq] at this
  exact this.1
set_option maxHeartbeats 4000000 in
theorem c_roomEvents (A1 A2 A3 A4 A5 : Option Addr) (n1 c1 n2 c2 n3 c3 n4 c4 n5 c5 : Nat) (r : Room) (w : World) (hat : RoomAt w A1 A2 A3 A4 A5 n1 c1 n2 c2 n3 c3 n4 c4 n5 c5 r) (hf : RoomFits r) :
    Calls Try.prog 73 #[.agg #[.slice A1 n1 c1, .slice A2 n2 c2, .slice A3 n3 c3, .slice A4 n4 c4, .slice A5 n5 c5]] w (RetS 101 Event.cells (evR r) w) := by
  obtain ⟨W0, HW⟩ : ∃ W0, Hid (W0 = w.alloc (.cells #[.slice A1 n1 c1, .slice A2 n2 c2, .slice A3 n3 c3, .slice A4 n4 c4, .slice A5 n5 c5] 41)) := ⟨_, hide rfl⟩
  have hin : RoomIn W0 w.heap.size A1 A2 A3 A4 A5 n1 c1 n2 c2 n3 c3 n4 c4 n5 c5 := by rw [HW.out]; exact RoomIn.new w A1 A2 A3 A4 A5 n1 c1 n2 c2 n3 c3 n4 c4 n5 c5 41
  have hw0 : Ext w W0 := by rw [HW.out]; exact Ext.alloc _ _
  have hm4 := hat.s4.max
  have hc4 := hat.s4.cap
  have hm5 := hat.s5.max
  have hc5 := hat.s5.cap
  have h200 : n4 ≤ 200 := by rw [hat.s4.len]; exact hf.L
  have h48 : n5 ≤ 48 := by rw [hat.s5.len]; exact hf.rs
  have HL5 := hide hat.s5.len
  have HL4 := hide hat.s4.len
  have hsz0 : W0.heap.size = w.heap.size + 1 := by rw [HW.out]; simp
  have HSZ := hide hsz0
  clear hsz0
  go_enter Try.func73, Try.ntmps73
  go_wp2_with fail
  go_loopw [4, 14] (fun v i wr => ∃ (k : Nat) (E : List Event), k ≤ n4 ∧ i = .int .i64 k ∧ E.length ≤ k ∧ Hid (E = (r.L.take k).map nomEv) ∧ OwnL wr (w.heap.size + 1) 101 5 Event.cells v E ∧ Ext W0 wr) (fun _ i _ => n4 - (intOf i).toNat)
  case atStart => exact ⟨0, [], Nat.zero_le _, rfl, by simp, hide rfl, OwnL.nil_ _ _ _ _ _, by rw [HW.out]; exact Ext.refl _⟩
  case round =>
    obtain ⟨k, E, hk, rfl, hE, HE, hown, hx⟩ := hrel
    have hxz := hx.size
    rw [HSZ.out] at hxz
    by_cases hlt : k < n4
    · obtain ⟨b, off, p, rfl, hb, hxk, hc⟩ := (hat.s4.ext (hw0.trans hx)).get hlt
      have HX := hide hxk
      clear hxk
      have hc0 := hc 0 _ rfl
      have hc1 := hc 1 _ rfl
      have hc2 := hc 2 _ rfl
      have hc3 := hc 3 _ rfl
      clear hc
      simp only [Nat.add_zero] at hc0
      go_wp2_with (at_builtin; go_must (refine wpList_append_one rfl _ _ 63 rfl (w.heap.size + 1) 101 _ 5 40 Try.underlying63 event_info rfl (by decide) Event.cells event_len event_one _ _ rfl (hown.ext ((Ext.alloc _ _).and_alloc _)) _ (nomEv p) rfl _ rfl (by first | rfl | simp) (by omega) (by omega) (by first | omega | (simp; omega)) ?_))
      intro v1 w4 hown4 hext4
      have hx4 := hext4 _ (by rw [HSZ.out]; exact Nat.le_refl _) ((hx.and_alloc _).and_alloc _)
      go_wp2_with fail
      go_roundw
      case rel => exact ⟨k + 1, _, by omega, by go_num, by simp; omega, hide (by rw [take_one HX.out, List.map_append, HE.out]; rfl), hown4, hx4⟩
      case measure => simp [intOf]; omega
    · obtain rfl : n4 = k := by omega
      have HE0 := hide (show E = r.L.map nomEv by rw [HE.out, HL4.out, List.take_length])
      clear HE
      obtain ⟨hlt0, x0, x1, x2, x3, x4⟩ := hin.ext hx
      go_wp2_with fail
      clear hlt0 x0 x1 x2 x3 x4
      go_loopw [4, 34] (fun v i wr => ∃ (k : Nat) (E : List Event), k ≤ n5 ∧ i = .int .i64 k ∧ E.length ≤ 200 + 49 * k ∧ Hid (E = r.L.map nomEv ++ hoursEv r.rs.length 0 ((r.rs.take k).map RS.xs)) ∧ OwnL wr (w.heap.size + 1) 101 5 Event.cells v E ∧ Ext W0 wr) (fun _ i _ => n5 - (intOf i).toNat)
      case atStart => exact ⟨0, E, Nat.zero_le _, rfl, by omega, hide (by rw [HE0.out]; simp [hoursEv]), hown, hx⟩
      case round =>
        clear hown hx hxz HE0 hE
        obtain ⟨k, E, hk, rfl, hE, HE, hown, hx⟩ := hrel
        have hxz := hx.size
        rw [HSZ.out] at hxz
        obtain ⟨hlt0, x0, x1, x2, x3, x4⟩ := hin.ext hx
        by_cases hlt : k < n5
        · obtain ⟨b, off, q, rfl, hb, hxk, hc⟩ := (hat.s5.ext (hw0.trans hx)).get hlt
          have t0 := hc 0 _ rfl
          simp only [Nat.add_zero, Nat.mul_one] at t0
          obtain ⟨qA, qn, qc, qx⟩ := q
          simp only at t0
          have hq : SliceOf w 2 Reading.cells qA qn qc qx := hat.s6 _ (List.mem_of_getElem? hxk)
          have hq48 : qn ≤ 48 := by rw [hq.len]; exact hf.xs _ (List.mem_of_getElem? hxk)
          have HQL := hide hq.len
          have hqm := hq.max
          have hqc := hq.cap
          have HX := hide hxk
          clear hxk hc
          go_wp2_with fail
          clear hlt0 x0 x1 x2 x3 x4
          go_loopw [4, 41] (fun v i wr => ∃ (j : Nat) (E' : List Event), j ≤ qn ∧ i = .int .i64 j ∧ E'.length ≤ 200 + 49 * k + j ∧ Hid (E' = E ++ (qx.take j).map readEv) ∧ OwnL wr (w.heap.size + 1) 101 5 Event.cells v E' ∧ Ext W0 wr) (fun _ i _ => qn - (intOf i).toNat)
          case atStart => exact ⟨0, E, Nat.zero_le _, rfl, by omega, hide (by simp), hown, hx⟩
          case round =>
            clear hown hx hxz t0 hb hE
            obtain ⟨j, E', hj, rfl, hE', HE', hown, hx⟩ := hrel
            have hxz := hx.size
            rw [HSZ.out] at hxz
            obtain ⟨hlt0, x0, x1, x2, x3, x4⟩ := hin.ext hx
            by_cases hjlt : j < qn
            · clear hlt0 x0 x1 x2 x3 x4
              obtain ⟨b2, off2, x, rfl, hb2, hxj, hc⟩ := (hq.ext (hw0.trans hx)).get hjlt
              have HXJ := hide hxj
              clear hxj
              have hc0 := hc 0 _ rfl
              have hc1 := hc 1 _ rfl
              clear hc
              simp only [Nat.add_zero] at hc0
              go_wp2_with (at_builtin; go_must (refine wpList_append_one rfl _ _ 63 rfl (w.heap.size + 1) 101 _ 5 40 Try.underlying63 event_info rfl (by decide) Event.cells event_len event_one _ _ rfl (hown.ext ((Ext.alloc _ _).and_alloc _)) _ (readEv x) rfl _ rfl (by first | rfl | simp) (by omega) (by omega) (by first | omega | (simp; omega)) ?_))
              intro v1 w4 hown4 hext4
              have hx4 := hext4 _ (by rw [HSZ.out]; exact Nat.le_refl _) ((hx.and_alloc _).and_alloc _)
              go_wp2_with fail
              go_roundw
              case rel => exact ⟨j + 1, _, by omega, by go_num, by simp; omega, hide (by rw [take_one HXJ.out, List.map_append, HE'.out]; simp), hown4, hx4⟩
              case measure => simp [intOf]; omega
            · obtain rfl : qn = j := by omega
              have HE2 := hide (show E' = E ++ qx.map readEv by rw [HE'.out, HQL.out, List.take_length])
              clear HE'
              by_cases hlast : k + 1 < n5
              · have hd : ((k : Int) < (n5 : Int) - 1) := by omega
                go_wp2_with (at_builtin; go_must (refine wpList_append_one rfl _ _ 63 rfl (w.heap.size + 1) 101 _ 5 40 Try.underlying63 event_info rfl (by decide) Event.cells event_len event_one _ _ rfl (hown.ext (Ext.alloc _ _)) _ (closeEv k) rfl _ rfl (by first | rfl | simp) (by omega) (by omega) (by first | omega | (simp; omega)) ?_))
                intro v1 w4 hown4 hext4
                have hx4 := hext4 _ (by rw [HSZ.out]; exact Nat.le_refl _) (hx.and_alloc _)
                go_wp2_with fail
                go_roundw
                case rel => exact ⟨k + 1, _, by omega, by go_num, by simp; omega, hide (by rw [ev_step HX.out, ← List.append_assoc, ← HE.out, HE2.out, hourEv, if_pos (by have := HL5.out; omega)]; simp), hown4, hx4⟩
                case measure => simp [intOf]; omega
              · have hd : ¬ ((k : Int) < (n5 : Int) - 1) := by omega
                go_wp2_with fail
                go_roundw
                case rel => exact ⟨k + 1, _, by omega, by go_num, by omega, hide (by rw [ev_step HX.out, ← List.append_assoc, ← HE.out, HE2.out, hourEv, if_neg (by have := HL5.out; omega)]; simp), hown, hx⟩
                case measure => simp [intOf]; omega
        · obtain rfl : n5 = k := by omega
          have HE2 := hide (show E = roomEv r by rw [HE.out, HL5.out, List.take_length]; rfl)
          clear HE
          obtain ⟨A', c', g, hv, hg, hnc, hcm, ho⟩ := hown.own event_len (by omega)
          subst hv
          by_cases h300 : 300 < E.length
          · have hd : (300 : Int) < (E.length : Int) := by omega
            have HR := hide (show evR r = ([], 3) by unfold evR; rw [← HE2.out, if_pos h300])
            go_wp2_with fail
            go_ret2
            exact RetS.nil_ HR.out (hw0.trans hx)
          · have hd : ¬ (300 : Int) < (E.length : Int) := by omega
            have HR := hide (show evR r = (E, 0) by unfold evR; rw [← HE2.out, if_neg h300])
            go_wp2_with fail
            go_ret2
            rw [HR.out]
            exact ⟨A', _, c', g, rfl, hnc, hcm, by omega, ho, (hw0.trans hx)⟩
end Go.Proofs.Ytjpmiokbgpggbaa
