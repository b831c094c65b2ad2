/-
  The helpers of the laws on nodes, networks and lists of lists: marking, and looking at the marks. The helpers of the laws on rooms: marking, and looking at the marks.
-/
import Derived.Test.YtjpmiokbgpggbaaGreatRb31
import Derived.Test.YtjpmiokbgpggbaaGreatRb02
namespace Go.Proofs.YtjpmiokbgpggbaaGreat
open Go.RowKit
/-- the marks from a number on -/
def markNode (a : Int) (n : Nat) : List Node := (List.range n).map fun (i : Nat) => ⟨mtext (a + 3 * (i : Int)), a + 3 * (i : Int) + 1, a + 3 * (i : Int) + 2⟩
theorem markNode_at (a : Int) (n i : Nat) (h : i < n) : (markNode a n)[i]? = some ⟨mtext (a + 3 * (i : Int)), a + 3 * (i : Int) + 1, a + 3 * (i : Int) + 2⟩ := by
  unfold markNode; rw [List.getElem?_map, List.getElem?_range h]; rfl
def MarkedNode (g : Nat) (A : Option Addr) (n : Nat) (a : Int) (w : World) (e : Ending) (w' : World) : Prop :=
  e = .returned (.int .i64 (a + 3 * n)) ∧ OwnS w' g 115 Node.cells A n (markNode a n) ∧ Only g w w'
set_option maxHeartbeats 1000000 in
theorem c_markNodeS (g : Nat) (A : Option Addr) (n c : Nat) (ts : List Node) (a : Int) (w : World) (hown0 : OwnS w g 115 Node.cells A n ts) (hn : n ≤ 1000000000) (hcap : n ≤ c) (hmax : c ≤ 9223372036854775807) (ha0 : 0 ≤ a) (ha1 : a ≤ 1000000000000) :
    Calls Tryz.prog 101 #[.slice A n c, .int .i64 a] w (MarkedNode g A n a w) := by
  go_enter Tryz.func101, Tryz.ntmps101
  go_wp2_with fail
  go_loopw [1, 5] (fun q i wr => ∃ (k : Nat) (K : Int) (L : List Node), k ≤ n ∧ q = .int .i64 K ∧ i = .int .i64 k ∧ a + 3 * (k : Int) ≤ K ∧ K ≤ a + 3 * (k : Int) ∧ OwnS wr g 115 Node.cells A n L ∧ Hid (∀ j, j < k → L[j]? = (markNode a n)[j]?) ∧ Only g w wr) (fun _ i _ => n - (intOf i).toNat)
  case atStart => exact ⟨0, a, ts, Nat.zero_le _, rfl, rfl, by omega, by omega, hown0, hide (fun j hj => absurd hj (by omega)), Only.refl _ _⟩
  case round =>
    obtain ⟨k, K, L, hk, rfl, rfl, hK0, hK1, hown, HK, hx⟩ := hrel
    by_cases hlt : k < n
    · have hn0 : 0 < n := by omega
      obtain ⟨rfl, _⟩ := hown.2 hn0
      go_wp2_with fail
      refine (c_markText K _ (by omega)).mono ?_
      rintro e w1 ⟨rfl, hx1⟩
      have hown1 := hown.ext hx1
      have hlt1 := hown1.lt hn0
      obtain ⟨v0, hv0⟩ := hown1.there node_len (i := k) hlt (j := 0) (by omega)
      have hf0 := hown1.frozen hn0 (k * 3)
      obtain ⟨v1, hv1⟩ := hown1.there node_len (i := k) hlt (j := 1) (by omega)
      have hf1 := hown1.frozen hn0 (k * 3 + 1)
      obtain ⟨v2, hv2⟩ := hown1.there node_len (i := k) hlt (j := 2) (by omega)
      have hf2 := hown1.frozen hn0 (k * 3 + 2)
      rw [Nat.add_zero] at hv0
      have HL := hide hown.1
      go_wp2_with fail
      go_roundw
      case rel =>
        refine ⟨k + 1, _, L.set k ⟨mtext K, K + 1, K + 1 + 1⟩, by omega, rfl, by go_num, by omega, by omega, hown1.put node_len hlt ⟨mtext K, K + 1, K + 1 + 1⟩, hide ?_, (hx.trans (Only.of_ext hx1 _)).put (k * 3) (Node.cells ⟨mtext K, K + 1, K + 1 + 1⟩)⟩
        intro j hj
        rw [List.getElem?_set]
        by_cases e : k = j
        · subst e
          rw [if_pos rfl, if_pos (by rw [← HL.out]; exact hlt), markNode_at _ _ _ hlt]
          have : K = a + 3 * (k : Int) := by omega
          subst this
          congr 2 <;> omega
        · rw [if_neg e]; exact HK.out j (by omega)
      case measure => simp [intOf]; omega
    · go_wp2_with fail
      go_ret
      have hLts : L = markNode a n := by
        apply List.ext_getElem?
        intro j
        by_cases hj : j < n
        · exact HK.out j (by omega)
        · rw [List.getElem?_eq_none (by have := hown.1; omega), List.getElem?_eq_none (by simp [markNode]; omega)]
      subst hLts
      refine ⟨?_, hown, hx⟩
      obtain rfl : k = n := by omega
      have : K = a + 3 * (k : Int) := by omega
      rw [← this]; rfl
set_option maxRecDepth 8000 in
set_option maxHeartbeats 1000000 in
theorem c_heldNodeS (A : Option Addr) (n c : Nat) (a : Int) (w : World) (hs : SliceOf w 3 Node.cells A n c (markNode a n)) (hn : n ≤ 1000000000) (ha0 : 0 ≤ a) (ha1 : a ≤ 1000000000000) :
    Calls Tryz.prog 104 #[.slice A n c, .int .i64 a] w (Ret (.int .i64 (a + 3 * n)) w) := by
  have hcap := hs.cap
  have hmax := hs.max
  go_enter Tryz.func104, Tryz.ntmps104
  go_wp2_with fail
  go_loopw [1, 5] (fun q i wr => ∃ (k : Nat) (K : Int), k ≤ n ∧ q = .int .i64 K ∧ i = .int .i64 k ∧ a + 3 * (k : Int) ≤ K ∧ K ≤ a + 3 * (k : Int) ∧ Ext w wr) (fun _ i _ => n - (intOf i).toNat)
  case atStart => exact ⟨0, a, Nat.zero_le _, rfl, rfl, by omega, by omega, Ext.refl _⟩
  case round =>
    obtain ⟨k, K, hk, rfl, rfl, hK0, hK1, hx⟩ := hrel
    by_cases hlt : k < n
    · obtain ⟨b, off, x, rfl, hb, hxk, hc⟩ := (hs.ext hx).get hlt
      rw [markNode_at _ _ _ hlt] at hxk
      obtain rfl : (⟨mtext K, K + 1, K + 1 + 1⟩ : Node) = x := by
        injection hxk with hxk
        rw [← hxk]
        have : K = a + 3 * (k : Int) := by omega
        subst this
        congr 1 <;> omega
      clear hxk
      have hc0 := hc 0 _ rfl
      have hc1 := hc 1 _ rfl
      have hc2 := hc 2 _ rfl
      clear hc
      simp only [Nat.add_zero] at hc0
      go_wp2_with fail
      refine wp_region_later (by kernel_rfl) (by kernel_rfl) ?_
      repeat (go_big_quiet_step ((go_at_call 134; exact quiet_later (c_markText K _ (by omega)))))
      refine wpQuiet_nil ?_
      intro w1 hx1
      have hd1 := (hx1.cell b (off + k * 3 + 1) hb).trans hc1
      have hd2 := (hx1.cell b (off + k * 3 + 2) hb).trans hc2
      have hb1 : b < w1.heap.size := Nat.lt_of_lt_of_le hb hx1.size
      go_wp2_with fail
      go_roundw
      case rel => exact ⟨k + 1, _, by omega, rfl, by go_num, by omega, by omega, hx.trans hx1⟩
      case measure => simp [intOf]; omega
    · go_wp2_with fail
      go_ret
      obtain rfl : k = n := by omega
      have : K = a + 3 * (k : Int) := by omega
      exact ⟨by rw [← this]; rfl, hx⟩
/-- a marked slice -/
def MarkA {α : Type} (t : TypeId) (f : α → List Value) (A : Option Addr) (n c : Nat) (z : Int) (L : List α) (w : World) (e : Ending) (w' : World) : Prop :=
  e = .returned (.int .i64 z) ∧ OwnA w' t f A n c L ∧ Turn (fun k => blkOf A n = some k) w w'
theorem m_markNodeS (A : Option Addr) (n c : Nat) (ts : List Node) (a : Int) (w : World) (h : OwnA w 115 Node.cells A n c ts) (hn : n ≤ 1000000000) (ha0 : 0 ≤ a) (ha1 : a ≤ 1000000000000) :
    Calls Tryz.prog 101 #[.slice A n c, .int .i64 a] w (MarkA 115 Node.cells A n c (a + 3 * n) (markNode a n) w) := by
  obtain ⟨g, ho, hg⟩ := h.own
  refine (c_markNodeS g A n c ts a w ho hn h.2.1 h.2.2.1 ha0 ha1).mono fun e w' ⟨h1, h2, h3⟩ => ?_
  exact ⟨h1, h2.toA h.2.1 h.2.2.1, Turn.of_only h3 hg⟩
theorem m_markPipeS (A : Option Addr) (n c : Nat) (ts : List Pipe) (a : Int) (w : World) (h : OwnA w 117 Pipe.cells A n c ts) (hn : n ≤ 1000000000) (ha0 : 0 ≤ a) (ha1 : a ≤ 1000000000000) :
    Calls Tryz.prog 102 #[.slice A n c, .int .i64 a] w (MarkA 117 Pipe.cells A n c (a + 5 * n) (markPipe a n) w) := by
  obtain ⟨g, ho, hg⟩ := h.own
  refine (c_markPipeS g A n c ts a w ho hn h.2.1 h.2.2.1 ha0 ha1).mono fun e w' ⟨h1, h2, h3⟩ => ?_
  exact ⟨h1, h2.toA h.2.1 h.2.2.1, Turn.of_only h3 hg⟩
theorem m_markContractS (A : Option Addr) (n c : Nat) (ts : List Contract) (a : Int) (w : World) (h : OwnA w 68 Contract.cells A n c ts) (hn : n ≤ 1000000000) (ha0 : 0 ≤ a) (ha1 : a ≤ 1000000000000) :
    Calls Tryz.prog 60 #[.slice A n c, .int .i64 a] w (MarkA 68 Contract.cells A n c (a + 8 * n) (markContract a n) w) := by
  obtain ⟨g, ho, hg⟩ := h.own
  refine (c_markContractS g A n c ts a w ho hn h.2.1 h.2.2.1 ha0 ha1).mono fun e w' ⟨h1, h2, h3⟩ => ?_
  exact ⟨h1, h2.toA h.2.1 h.2.2.1, Turn.of_only h3 hg⟩
theorem m_markNominationS (A : Option Addr) (n c : Nat) (ts : List Nomination) (a : Int) (w : World) (h : OwnA w 70 Nomination.cells A n c ts) (hn : n ≤ 1000000000) (ha0 : 0 ≤ a) (ha1 : a ≤ 1000000000000) :
    Calls Tryz.prog 61 #[.slice A n c, .int .i64 a] w (MarkA 70 Nomination.cells A n c (a + 4 * n) (markNomination a n) w) := by
  obtain ⟨g, ho, hg⟩ := h.own
  refine (c_markNominationS g A n c ts a w ho hn h.2.1 h.2.2.1 ha0 ha1).mono fun e w' ⟨h1, h2, h3⟩ => ?_
  exact ⟨h1, h2.toA h.2.1 h.2.2.1, Turn.of_only h3 hg⟩
theorem m_markReadingS (A : Option Addr) (n c : Nat) (ts : List Reading) (a : Int) (w : World) (h : OwnA w 93 Reading.cells A n c ts) (hn : n ≤ 1000000000) (ha0 : 0 ≤ a) (ha1 : a ≤ 1000000000000) :
    Calls Tryz.prog 103 #[.slice A n c, .int .i64 a] w (MarkA 93 Reading.cells A n c (a + 2 * n) (markReading a n) w) := by
  obtain ⟨g, ho, hg⟩ := h.own
  refine (c_markReadingS g A n c ts a w ho hn h.2.1 h.2.2.1 ha0 ha1).mono fun e w' ⟨h1, h2, h3⟩ => ?_
  exact ⟨h1, h2.toA h.2.1 h.2.2.1, Turn.of_only h3 hg⟩
end Go.Proofs.YtjpmiokbgpggbaaGreat

namespace Go.Proofs.YtjpmiokbgpggbaaGreat
open Go.RowKit
def markRS : Int → List RS → List RS
  | _, [] => []
  | a, q :: t => ⟨q.A, q.n, q.c, markReading a q.n⟩ :: markRS (a + 2 * q.n) t
theorem markRS_at (a : Int) (rs : List RS) (j : Nat) : (markRS a rs)[j]? = (rs[j]?).map fun q => ⟨q.A, q.n, q.c, markReading (a + 2 * (((rs.take j).map RS.n).sum : Nat)) q.n⟩ := by
  induction rs generalizing a j with
  | nil => simp [markRS]
  | cons q t ih =>
    cases j with
    | zero => simp [markRS]
    | succ j =>
      simp only [markRS, List.getElem?_cons_succ, ih, List.take_succ_cons, List.map_cons, List.sum_cons]
      congr 1
      funext x
      congr 2
      omega
theorem markRS_len (a : Int) (rs : List RS) : (markRS a rs).length = rs.length := by
  induction rs generalizing a with
  | nil => rfl
  | cons q t ih => simp [markRS, ih]
theorem markRS_cells (a : Int) (rs : List RS) : (markRS a rs).map RS.cells = rs.map RS.cells := by
  induction rs generalizing a with
  | nil => rfl
  | cons q t ih => simp only [markRS, List.map_cons, ih]; rfl
theorem SliceOf.same {α β : Type} {w : World} {size : Nat} {f : α → List Value} {f' : β → List Value} {A : Option Addr} {n c : Nat} {xs : List α} {ys : List β} (h : SliceOf w size f A n c xs) (he : ys.map f' = xs.map f) : SliceOf w size f' A n c ys := by
  obtain ⟨h1, h2, h3, h4⟩ := h
  have hl := congrArg List.length he
  simp at hl
  refine ⟨by rw [hl]; exact h1, h2, h3, fun hn => ?_⟩
  obtain ⟨b, off, hA, hb, hc⟩ := h4 hn
  refine ⟨b, off, hA, hb, fun i y hy j u hu => ?_⟩
  have h5 := congrArg (fun l => l[i]?) he
  simp only [List.getElem?_map, hy, Option.map_some] at h5
  cases hx : xs[i]? with
  | none => rw [hx] at h5; cases h5
  | some x =>
    rw [hx] at h5
    simp only [Option.map_some, Option.some.injEq] at h5
    exact hc i x hx j u (by rw [← h5]; exact hu)
theorem OwnA.same {α β : Type} {w : World} {t : TypeId} {f : α → List Value} {f' : β → List Value} {A : Option Addr} {n c : Nat} {xs : List α} {ys : List β} (h : OwnA w t f A n c xs) (he : ys.map f' = xs.map f) : OwnA w t f' A n c ys := by
  have hl := congrArg List.length he
  simp at hl
  have hf : ys.flatMap f' = xs.flatMap f := by rw [List.flatMap_def, List.flatMap_def, he]
  refine ⟨by rw [hl]; exact h.1, h.2.1, h.2.2.1, fun hn => ?_⟩
  rw [hf]
  exact h.2.2.2 hn
/-- the blocks of the lists -/
def rsBlk (rs : List RS) (b : Nat) : Prop := ∃ q ∈ rs, blkOf q.A q.n = some b
structure MarkedRS (rs : List RS) (a : Int) (w : World) (e : Ending) (w' : World) : Prop where
  e : e = .returned (.int .i64 (a + 2 * ((rs.map RS.n).sum : Nat)))
  own : ∀ q ∈ markRS a rs, OwnA w' 93 Reading.cells q.A q.n q.c q.xs
  turn : Turn (rsBlk rs) w w'
theorem sum_le_of_take {rs : List RS} {k : Nat} {q : RS} (h : rs[k]? = some q) : ((rs.take k).map RS.n).sum + q.n ≤ (rs.map RS.n).sum := by
  have h1 : rs.map RS.n = (rs.take (k + 1)).map RS.n ++ (rs.drop (k + 1)).map RS.n := by rw [← List.map_append, List.take_append_drop]
  rw [h1, List.sum_append, sum_take h]
  omega
set_option maxHeartbeats 1000000 in
theorem c_markReadingSS (A : Option Addr) (n c : Nat) (rs : List RS) (a : Int) (w : World) (hs : SliceOf w 1 RS.cells A n c rs) (h6 : ∀ q ∈ rs, OwnA w 93 Reading.cells q.A q.n q.c q.xs)
    (hrr : SepL (rs.map fun q => blkOf q.A q.n)) (hfr : ∀ b, blkOf A n = some b → ¬ rsBlk rs b) (hsum : (rs.map RS.n).sum ≤ 1048576) (ha0 : 0 ≤ a) (ha1 : a ≤ 100000000000) :
    Calls Tryz.prog 62 #[.slice A n c, .int .i64 a] w (MarkedRS rs a w) := by
  have hm := hs.max
  have hcap := hs.cap
  have HL := hide hs.len
  have HSM := hide hsum
  clear hsum
  go_enter Tryz.func62, Tryz.ntmps62
  go_wp2_with fail
  go_loopw [1, 5] (fun z i wr => ∃ (k : Nat) (K : Int), k ≤ n ∧ z = .int .i64 K ∧ i = .int .i64 k ∧ Hid (K = a + 2 * (((rs.take k).map RS.n).sum : Nat)) ∧ a ≤ K ∧ K ≤ a + 2097152 ∧
      Hid (∀ j q, rs[j]? = some q → (j < k → OwnA wr 93 Reading.cells q.A q.n q.c (markReading (a + 2 * (((rs.take j).map RS.n).sum : Nat)) q.n)) ∧ (k ≤ j → OwnA wr 93 Reading.cells q.A q.n q.c q.xs)) ∧ Turn (rsBlk rs) w wr) (fun _ i _ => n - (intOf i).toNat)
  case atStart => exact ⟨0, a, Nat.zero_le _, rfl, rfl, hide (by simp), by omega, by omega, hide (fun j q hq => ⟨fun h => absurd h (by omega), fun _ => h6 q (List.mem_of_getElem? hq)⟩), Turn.refl _⟩
  case round =>
    obtain ⟨k, K, hk, rfl, rfl, HKK, hK0, hK1, HK, hx⟩ := hrel
    by_cases hlt : k < n
    · have hsr := hs.turn hx hfr
      obtain ⟨bb, off, p, rfl, hbb, hxk, t⟩ := hsr.get hlt
      have t0 := t 0 _ rfl
      simp only [Nat.add_zero, Nat.mul_one] at t0
      have HX := hide hxk
      have hp := (HK.out k p hxk).2 (Nat.le_refl _)
      have hpn := sum_le_of_take hxk
      have h0 := HSM.out
      have hp1 : p.n ≤ 1048576 := by omega
      have hp2 : K + 2 * (p.n : Int) ≤ a + 2097152 := by rw [HKK.out]; omega
      clear hxk t hpn h0 hsr
      go_wp2_with fail
      refine (m_markReadingS p.A p.n p.c p.xs K _ hp (by omega) (by omega) (by omega)).mono ?_
      rintro e w1 ⟨rfl, ho1, ht1⟩
      go_wp2_with fail
      go_roundw
      case rel =>
        refine ⟨k + 1, _, by omega, rfl, by go_num, hide (by rw [sum_take HX.out, HKK.out]; omega), by omega, by omega, hide fun j q hq => ⟨fun hj => ?_, fun hj => ?_⟩, hx.trans (ht1.mono fun b hb => ⟨p, List.mem_of_getElem? HX.out, hb⟩)⟩
        · by_cases e : j = k
          · subst e; rw [HX.out] at hq; injection hq with hq; subst hq; rw [← HKK.out]; exact ho1
          · refine ((HK.out j q hq).1 (by omega)).turn ht1 (fun b hb hb' => ?_)
            exact hrr j k b e (by rw [List.getElem?_map, hq]; simp [hb]) (by rw [List.getElem?_map, HX.out]; simp [hb'])
        · refine ((HK.out j q hq).2 (by omega)).turn ht1 (fun b hb hb' => ?_)
          exact hrr j k b (by omega) (by rw [List.getElem?_map, hq]; simp [hb]) (by rw [List.getElem?_map, HX.out]; simp [hb'])
      case measure => simp [intOf]; omega
    · go_wp2_with fail
      go_ret
      obtain rfl : n = k := by omega
      have h1 := HKK.out
      rw [List.take_of_length_le (by have := HL.out; omega)] at h1
      refine ⟨by rw [← h1]; rfl, fun q' hq' => ?_, hx⟩
      obtain ⟨j, hj, hjq⟩ := List.mem_iff_getElem.1 hq'
      have h2 := markRS_at a rs j
      rw [List.getElem?_eq_getElem hj, hjq] at h2
      cases hq : rs[j]? with
      | none => rw [hq] at h2; cases h2
      | some q =>
        rw [hq] at h2
        simp only [Option.map_some, Option.some.injEq] at h2
        subst h2
        exact (HK.out j q hq).1 (by have := (List.getElem?_eq_some_iff.1 hq).1; have := HL.out; omega)
set_option maxHeartbeats 1000000 in
theorem c_heldReadingSS (A : Option Addr) (n c : Nat) (rs : List RS) (a : Int) (w : World) (hs : SliceOf w 1 RS.cells A n c (markRS a rs)) (h6 : ∀ q ∈ markRS a rs, SliceOf w 2 Reading.cells q.A q.n q.c q.xs)
    (hsum : (rs.map RS.n).sum ≤ 1048576) (ha0 : 0 ≤ a) (ha1 : a ≤ 100000000000) :
    Calls Tryz.prog 66 #[.slice A n c, .int .i64 a] w (Ret (.int .i64 (a + 2 * ((rs.map RS.n).sum : Nat))) w) := by
  have hm := hs.max
  have hcap := hs.cap
  have HL := hide (hs.len.trans (markRS_len a rs))
  have HSM := hide hsum
  clear hsum
  go_enter Tryz.func66, Tryz.ntmps66
  go_wp2_with fail
  go_loopw [1, 5] (fun z i wr => ∃ (k : Nat) (K : Int), k ≤ n ∧ z = .int .i64 K ∧ i = .int .i64 k ∧ Hid (K = a + 2 * (((rs.take k).map RS.n).sum : Nat)) ∧ a ≤ K ∧ K ≤ a + 2097152 ∧ Ext w wr) (fun _ i _ => n - (intOf i).toNat)
  case atStart => exact ⟨0, a, Nat.zero_le _, rfl, rfl, hide (by simp), by omega, by omega, Ext.refl _⟩
  case round =>
    obtain ⟨k, K, hk, rfl, rfl, HKK, hK0, hK1, hx⟩ := hrel
    by_cases hlt : k < n
    · obtain ⟨bb, off, p', rfl, hbb, hxk', t⟩ := (hs.ext hx).get hlt
      have hp := (h6 p' (List.mem_of_getElem? hxk')).ext hx
      have h2 := markRS_at a rs k
      rw [hxk'] at h2
      obtain ⟨p, hxk⟩ : ∃ p, rs[k]? = some p := ⟨_, List.getElem?_eq_getElem (by have := HL.out; omega)⟩
      rw [hxk] at h2
      simp only [Option.map_some, Option.some.injEq] at h2
      subst h2
      have t0 := t 0 _ rfl
      simp only [Nat.add_zero, Nat.mul_one] at t0
      simp only at hp
      rw [← HKK.out] at hp
      have HX := hide hxk
      have hpn := sum_le_of_take hxk
      have h0 := HSM.out
      have hp1 : p.n ≤ 1048576 := by omega
      have hp2 : K + 2 * (p.n : Int) ≤ a + 2097152 := by rw [HKK.out]; omega
      have hp3 : ¬ K + 2 * (p.n : Int) < 0 := by omega
      clear hxk t hpn h0 hxk'
      go_wp2_with fail
      refine (c_heldReadingS p.A p.n p.c K _ hp (by omega) (by omega) (by omega)).mono ?_
      rintro e w1 ⟨rfl, rfl⟩
      go_wp2_with fail
      go_roundw
      case rel => exact ⟨k + 1, _, by omega, rfl, by go_num, hide (by rw [sum_take HX.out, HKK.out]; omega), by omega, by omega, hx⟩
      case measure => simp [intOf]; omega
    · go_wp2_with fail
      go_ret
      obtain rfl : n = k := by omega
      have h1 := HKK.out
      rw [List.take_of_length_le (by have := HL.out; omega)] at h1
      exact ⟨by rw [← h1]; rfl, hx⟩
end Go.Proofs.YtjpmiokbgpggbaaGreat
