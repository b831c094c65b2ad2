/-
  The helpers of the laws on nodes, networks and lists of lists: marking, and looking at the marks. The helpers of the laws on rooms: marking, and looking at the marks. The helpers of the laws on whole rooms: marking, and looking at the marks. What the laws on hours share: boxes of a network, blocks of copies, bounds of what is returned.
-/
import Derived.Test.YtfkpghdmljjegaaGreatVb33
import Derived.Test.YtfkpghdmljjegaaGreatVb06
import Derived.Test.YtfkpghdmljjegaaGreatVb31
import Derived.Test.YtfkpghdmljjegaaGreatVb01
namespace Go.Proofs.YtfkpghdmljjegaaGreat
open Go.RowKit
/-- the marks from a number on -/
def markNode (a : Int) (n : Nat) : List Node := (List.range n).map fun (i : Nat) => ⟨mtext (a + 3 * (i : Int)), a + 3 * (i : Int) + 1, a + 3 * (i : Int) + 2⟩
theorem markNode_at (a : Int) (n i : Nat) (h : i < n) : (markNode a n)[i]? = some ⟨mtext (a + 3 * (i : Int)), a + 3 * (i : Int) + 1, a + 3 * (i : Int) + 2⟩ := by
  unfold markNode; rw [List.getElem?_map, List.getElem?_range h]; rfl
def MarkedNode (g : Nat) (A : Option Addr) (n : Nat) (a : Int) (w : World) (e : Ending) (w' : World) : Prop :=
  e = .returned (.int .i64 (a + 3 * n)) ∧ OwnS w' g 223 Node.cells A n (markNode a n) ∧ Only g w w'
set_option maxHeartbeats 1000000 in
theorem c_markNodeS (g : Nat) (A : Option Addr) (n c : Nat) (ts : List Node) (a : Int) (w : World) (hown0 : OwnS w g 223 Node.cells A n ts) (hn : n ≤ 1000000000) (hcap : n ≤ c) (hmax : c ≤ 9223372036854775807) (ha0 : 0 ≤ a) (ha1 : a ≤ 1000000000000) :
    Calls Tryz.prog 119 #[.slice A n c, .int .i64 a] w (MarkedNode g A n a w) := by
  go_enter Tryz.func119, Tryz.ntmps119
  go_wp2_with fail
  go_loopw [1, 5] (fun q i wr => ∃ (k : Nat) (K : Int) (L : List Node), k ≤ n ∧ q = .int .i64 K ∧ i = .int .i64 k ∧ a + 3 * (k : Int) ≤ K ∧ K ≤ a + 3 * (k : Int) ∧ OwnS wr g 223 Node.cells A n L ∧ Hid (∀ j, j < k → L[j]? = (markNode a n)[j]?) ∧ Only g w wr) (fun _ i _ => n - (intOf i).toNat)
  case atStart => exact ⟨0, a, ts, Nat.zero_le _, rfl, rfl, by omega, by omega, hown0, hide (fun j hj => absurd hj (by omega)), Only.refl _ _⟩
  case round =>
    obtain ⟨k, K, L, hk, rfl, rfl, hK0, hK1, hown, HK, hx⟩ := hrel
    by_cases hlt : k < n
    · have hn0 : 0 < n := by omega
      obtain ⟨rfl, _⟩ := hown.2 hn0
      go_wp2_with fail
      refine (c_markText K _ (by omega)).mono ?_
      rintro e w1 ⟨rfl, hx1⟩
      have hown1 := hown.ext hx1
      have hlt1 := hown1.lt hn0
      obtain ⟨v0, hv0⟩ := hown1.there node_len (i := k) hlt (j := 0) (by omega)
      have hf0 := hown1.frozen hn0 (k * 3)
      obtain ⟨v1, hv1⟩ := hown1.there node_len (i := k) hlt (j := 1) (by omega)
      have hf1 := hown1.frozen hn0 (k * 3 + 1)
      obtain ⟨v2, hv2⟩ := hown1.there node_len (i := k) hlt (j := 2) (by omega)
      have hf2 := hown1.frozen hn0 (k * 3 + 2)
      rw [Nat.add_zero] at hv0
      have HL := hide hown.1
      go_wp2_with fail
      go_roundw
      case rel =>
        refine ⟨k + 1, _, L.set k ⟨mtext K, K + 1, K + 1 + 1⟩, by omega, rfl, by go_num, by omega, by omega, hown1.put node_len hlt ⟨mtext K, K + 1, K + 1 + 1⟩, hide ?_, (hx.trans (Only.of_ext hx1 _)).put (k * 3) (Node.cells ⟨mtext K, K + 1, K + 1 + 1⟩)⟩
        intro j hj
        rw [List.getElem?_set]
        by_cases e : k = j
        · subst e
          rw [if_pos rfl, if_pos (by rw [← HL.out]; exact hlt), markNode_at _ _ _ hlt]
          have : K = a + 3 * (k : Int) := by omega
          subst this
          congr 2 <;> omega
        · rw [if_neg e]; exact HK.out j (by omega)
      case measure => simp [intOf]; omega
    · go_wp2_with fail
      go_ret
      have hLts : L = markNode a n := by
        apply List.ext_getElem?
        intro j
        by_cases hj : j < n
        · exact HK.out j (by omega)
        · rw [List.getElem?_eq_none (by have := hown.1; omega), List.getElem?_eq_none (by simp [markNode]; omega)]
      subst hLts
      refine ⟨?_, hown, hx⟩
      obtain rfl : k = n := by omega
      have : K = a + 3 * (k : Int) := by omega
      rw [← this]; rfl
/-- a marked slice -/
def MarkA {α : Type} (t : TypeId) (f : α → List Value) (A : Option Addr) (n c : Nat) (z : Int) (L : List α) (w : World) (e : Ending) (w' : World) : Prop :=
  e = .returned (.int .i64 z) ∧ OwnA w' t f A n c L ∧ Turn (fun k => blkOf A n = some k) w w'
theorem m_markNodeS (A : Option Addr) (n c : Nat) (ts : List Node) (a : Int) (w : World) (h : OwnA w 223 Node.cells A n c ts) (hn : n ≤ 1000000000) (ha0 : 0 ≤ a) (ha1 : a ≤ 1000000000000) :
    Calls Tryz.prog 119 #[.slice A n c, .int .i64 a] w (MarkA 223 Node.cells A n c (a + 3 * n) (markNode a n) w) := by
  obtain ⟨g, ho, hg⟩ := h.own
  refine (c_markNodeS g A n c ts a w ho hn h.2.1 h.2.2.1 ha0 ha1).mono fun e w' ⟨h1, h2, h3⟩ => ?_
  exact ⟨h1, h2.toA h.2.1 h.2.2.1, Turn.of_only h3 hg⟩
theorem m_markPipeS (A : Option Addr) (n c : Nat) (ts : List Pipe) (a : Int) (w : World) (h : OwnA w 181 Pipe.cells A n c ts) (hn : n ≤ 1000000000) (ha0 : 0 ≤ a) (ha1 : a ≤ 1000000000000) :
    Calls Tryz.prog 120 #[.slice A n c, .int .i64 a] w (MarkA 181 Pipe.cells A n c (a + 5 * n) (markPipe a n) w) := by
  obtain ⟨g, ho, hg⟩ := h.own
  refine (c_markPipeS g A n c ts a w ho hn h.2.1 h.2.2.1 ha0 ha1).mono fun e w' ⟨h1, h2, h3⟩ => ?_
  exact ⟨h1, h2.toA h.2.1 h.2.2.1, Turn.of_only h3 hg⟩
theorem m_markContractS (A : Option Addr) (n c : Nat) (ts : List Contract) (a : Int) (w : World) (h : OwnA w 153 Contract.cells A n c ts) (hn : n ≤ 1000000000) (ha0 : 0 ≤ a) (ha1 : a ≤ 1000000000000) :
    Calls Tryz.prog 31 #[.slice A n c, .int .i64 a] w (MarkA 153 Contract.cells A n c (a + 8 * n) (markContract a n) w) := by
  obtain ⟨g, ho, hg⟩ := h.own
  refine (c_markContractS g A n c ts a w ho hn h.2.1 h.2.2.1 ha0 ha1).mono fun e w' ⟨h1, h2, h3⟩ => ?_
  exact ⟨h1, h2.toA h.2.1 h.2.2.1, Turn.of_only h3 hg⟩
theorem m_markNominationS (A : Option Addr) (n c : Nat) (ts : List Nomination) (a : Int) (w : World) (h : OwnA w 157 Nomination.cells A n c ts) (hn : n ≤ 1000000000) (ha0 : 0 ≤ a) (ha1 : a ≤ 1000000000000) :
    Calls Tryz.prog 32 #[.slice A n c, .int .i64 a] w (MarkA 157 Nomination.cells A n c (a + 4 * n) (markNomination a n) w) := by
  obtain ⟨g, ho, hg⟩ := h.own
  refine (c_markNominationS g A n c ts a w ho hn h.2.1 h.2.2.1 ha0 ha1).mono fun e w' ⟨h1, h2, h3⟩ => ?_
  exact ⟨h1, h2.toA h.2.1 h.2.2.1, Turn.of_only h3 hg⟩
theorem m_markReadingS (A : Option Addr) (n c : Nat) (ts : List Reading) (a : Int) (w : World) (h : OwnA w 176 Reading.cells A n c ts) (hn : n ≤ 1000000000) (ha0 : 0 ≤ a) (ha1 : a ≤ 1000000000000) :
    Calls Tryz.prog 38 #[.slice A n c, .int .i64 a] w (MarkA 176 Reading.cells A n c (a + 2 * n) (markReading a n) w) := by
  obtain ⟨g, ho, hg⟩ := h.own
  refine (c_markReadingS g A n c ts a w ho hn h.2.1 h.2.2.1 ha0 ha1).mono fun e w' ⟨h1, h2, h3⟩ => ?_
  exact ⟨h1, h2.toA h.2.1 h.2.2.1, Turn.of_only h3 hg⟩
end Go.Proofs.YtfkpghdmljjegaaGreat

namespace Go.Proofs.YtfkpghdmljjegaaGreat
open Go.RowKit
def markRS : Int → List RS → List RS
  | _, [] => []
  | a, q :: t => ⟨q.A, q.n, q.c, markReading a q.n⟩ :: markRS (a + 2 * q.n) t
theorem markRS_at (a : Int) (rs : List RS) (j : Nat) : (markRS a rs)[j]? = (rs[j]?).map fun q => ⟨q.A, q.n, q.c, markReading (a + 2 * (((rs.take j).map RS.n).sum : Nat)) q.n⟩ := by
  induction rs generalizing a j with
  | nil => simp [markRS]
  | cons q t ih =>
    cases j with
    | zero => simp [markRS]
    | succ j =>
      simp only [markRS, List.getElem?_cons_succ, ih, List.take_succ_cons, List.map_cons, List.sum_cons]
      congr 1
      funext x
      congr 2
      omega
theorem markRS_cells (a : Int) (rs : List RS) : (markRS a rs).map RS.cells = rs.map RS.cells := by
  induction rs generalizing a with
  | nil => rfl
  | cons q t ih => simp only [markRS, List.map_cons, ih]; rfl
theorem SliceOf.same {α β : Type} {w : World} {size : Nat} {f : α → List Value} {f' : β → List Value} {A : Option Addr} {n c : Nat} {xs : List α} {ys : List β} (h : SliceOf w size f A n c xs) (he : ys.map f' = xs.map f) : SliceOf w size f' A n c ys := by
  obtain ⟨h1, h2, h3, h4⟩ := h
  have hl := congrArg List.length he
  simp at hl
  refine ⟨by rw [hl]; exact h1, h2, h3, fun hn => ?_⟩
  obtain ⟨b, off, hA, hb, hc⟩ := h4 hn
  refine ⟨b, off, hA, hb, fun i y hy j u hu => ?_⟩
  have h5 := congrArg (fun l => l[i]?) he
  simp only [List.getElem?_map, hy, Option.map_some] at h5
  cases hx : xs[i]? with
  | none => rw [hx] at h5; cases h5
  | some x =>
    rw [hx] at h5
    simp only [Option.map_some, Option.some.injEq] at h5
    exact hc i x hx j u (by rw [← h5]; exact hu)
theorem OwnA.same {α β : Type} {w : World} {t : TypeId} {f : α → List Value} {f' : β → List Value} {A : Option Addr} {n c : Nat} {xs : List α} {ys : List β} (h : OwnA w t f A n c xs) (he : ys.map f' = xs.map f) : OwnA w t f' A n c ys := by
  have hl := congrArg List.length he
  simp at hl
  have hf : ys.flatMap f' = xs.flatMap f := by rw [List.flatMap_def, List.flatMap_def, he]
  refine ⟨by rw [hl]; exact h.1, h.2.1, h.2.2.1, fun hn => ?_⟩
  rw [hf]
  exact h.2.2.2 hn
/-- the blocks of the lists -/
def rsBlk (rs : List RS) (b : Nat) : Prop := ∃ q ∈ rs, blkOf q.A q.n = some b
structure MarkedRS (rs : List RS) (a : Int) (w : World) (e : Ending) (w' : World) : Prop where
  e : e = .returned (.int .i64 (a + 2 * ((rs.map RS.n).sum : Nat)))
  own : ∀ q ∈ markRS a rs, OwnA w' 176 Reading.cells q.A q.n q.c q.xs
  turn : Turn (rsBlk rs) w w'
theorem sum_le_of_take {rs : List RS} {k : Nat} {q : RS} (h : rs[k]? = some q) : ((rs.take k).map RS.n).sum + q.n ≤ (rs.map RS.n).sum := by
  have h1 : rs.map RS.n = (rs.take (k + 1)).map RS.n ++ (rs.drop (k + 1)).map RS.n := by rw [← List.map_append, List.take_append_drop]
  rw [h1, List.sum_append, sum_take h]
  omega
set_option maxHeartbeats 1000000 in
theorem c_markReadingSS (A : Option Addr) (n c : Nat) (rs : List RS) (a : Int) (w : World) (hs : SliceOf w 1 RS.cells A n c rs) (h6 : ∀ q ∈ rs, OwnA w 176 Reading.cells q.A q.n q.c q.xs)
    (hrr : SepL (rs.map fun q => blkOf q.A q.n)) (hfr : ∀ b, blkOf A n = some b → ¬ rsBlk rs b) (hsum : (rs.map RS.n).sum ≤ 1048576) (ha0 : 0 ≤ a) (ha1 : a ≤ 100000000000) :
    Calls Tryz.prog 60 #[.slice A n c, .int .i64 a] w (MarkedRS rs a w) := by
  have hm := hs.max
  have hcap := hs.cap
  have HL := hide hs.len
  have HSM := hide hsum
  clear hsum
  go_enter Tryz.func60, Tryz.ntmps60
  go_wp2_with fail
  go_loopw [1, 5] (fun z i wr => ∃ (k : Nat) (K : Int), k ≤ n ∧ z = .int .i64 K ∧ i = .int .i64 k ∧ Hid (K = a + 2 * (((rs.take k).map RS.n).sum : Nat)) ∧ a ≤ K ∧ K ≤ a + 2097152 ∧
      Hid (∀ j q, rs[j]? = some q → (j < k → OwnA wr 176 Reading.cells q.A q.n q.c (markReading (a + 2 * (((rs.take j).map RS.n).sum : Nat)) q.n)) ∧ (k ≤ j → OwnA wr 176 Reading.cells q.A q.n q.c q.xs)) ∧ Turn (rsBlk rs) w wr) (fun _ i _ => n - (intOf i).toNat)
  case atStart => exact ⟨0, a, Nat.zero_le _, rfl, rfl, hide (by simp), by omega, by omega, hide (fun j q hq => ⟨fun h => absurd h (by omega), fun _ => h6 q (List.mem_of_getElem? hq)⟩), Turn.refl _⟩
  case round =>
    obtain ⟨k, K, hk, rfl, rfl, HKK, hK0, hK1, HK, hx⟩ := hrel
    by_cases hlt : k < n
    · have hsr := hs.turn hx hfr
      obtain ⟨bb, off, p, rfl, hbb, hxk, t⟩ := hsr.get hlt
      have t0 := t 0 _ rfl
      simp only [Nat.add_zero, Nat.mul_one] at t0
      have HX := hide hxk
      have hp := (HK.out k p hxk).2 (Nat.le_refl _)
      have hpn := sum_le_of_take hxk
      have h0 := HSM.out
      have hp1 : p.n ≤ 1048576 := by omega
      have hp2 : K + 2 * (p.n : Int) ≤ a + 2097152 := by rw [HKK.out]; omega
      clear hxk t hpn h0 hsr
      go_wp2_with fail
      refine (m_markReadingS p.A p.n p.c p.xs K _ hp (by omega) (by omega) (by omega)).mono ?_
      rintro e w1 ⟨rfl, ho1, ht1⟩
      go_wp2_with fail
      go_roundw
      case rel =>
        refine ⟨k + 1, _, by omega, rfl, by go_num, hide (by rw [sum_take HX.out, HKK.out]; omega), by omega, by omega, hide fun j q hq => ⟨fun hj => ?_, fun hj => ?_⟩, hx.trans (ht1.mono fun b hb => ⟨p, List.mem_of_getElem? HX.out, hb⟩)⟩
        · by_cases e : j = k
          · subst e; rw [HX.out] at hq; injection hq with hq; subst hq; rw [← HKK.out]; exact ho1
          · refine ((HK.out j q hq).1 (by omega)).turn ht1 (fun b hb hb' => ?_)
            exact hrr j k b e (by rw [List.getElem?_map, hq]; simp [hb]) (by rw [List.getElem?_map, HX.out]; simp [hb'])
        · refine ((HK.out j q hq).2 (by omega)).turn ht1 (fun b hb hb' => ?_)
          exact hrr j k b (by omega) (by rw [List.getElem?_map, hq]; simp [hb]) (by rw [List.getElem?_map, HX.out]; simp [hb'])
      case measure => simp [intOf]; omega
    · go_wp2_with fail
      go_ret
      obtain rfl : n = k := by omega
      have h1 := HKK.out
      rw [List.take_of_length_le (by have := HL.out; omega)] at h1
      refine ⟨by rw [← h1]; rfl, fun q' hq' => ?_, hx⟩
      obtain ⟨j, hj, hjq⟩ := List.mem_iff_getElem.1 hq'
      have h2 := markRS_at a rs j
      rw [List.getElem?_eq_getElem hj, hjq] at h2
      cases hq : rs[j]? with
      | none => rw [hq] at h2; cases h2
      | some q =>
        rw [hq] at h2
        simp only [Option.map_some, Option.some.injEq] at h2
        subst h2
        exact (HK.out j q hq).1 (by have := (List.getElem?_eq_some_iff.1 hq).1; have := HL.out; omega)
end Go.Proofs.YtfkpghdmljjegaaGreat

namespace Go.Proofs.YtfkpghdmljjegaaGreat
open Go.RowKit
structure MarkedNet (A1 A2 : Option Addr) (n1 c1 n2 c2 : Nat) (a : Int) (w : World) (e : Ending) (w' : World) : Prop where
  e : e = .returned (.int .i64 (a + 3 * n1 + 5 * n2))
  o1 : OwnA w' 223 Node.cells A1 n1 c1 (markNode a n1)
  o2 : OwnA w' 181 Pipe.cells A2 n2 c2 (markPipe (a + 3 * n1) n2)
  turn : Turn (fun b => blkOf A1 n1 = some b ∨ blkOf A2 n2 = some b) w w'
set_option maxHeartbeats 1000000 in
theorem c_markNetwork (A1 A2 : Option Addr) (n1 c1 n2 c2 : Nat) (ns : List Node) (ps : List Pipe) (a : Int) (w : World) (h1 : OwnA w 223 Node.cells A1 n1 c1 ns) (h2 : OwnA w 181 Pipe.cells A2 n2 c2 ps)
    (hap : ∀ b, blkOf A1 n1 = some b → blkOf A2 n2 ≠ some b) (m1 : n1 ≤ 1048576) (m2 : n2 ≤ 1048576) (ha0 : 0 ≤ a) (ha1 : a ≤ 1000000000) :
    Calls Tryz.prog 30 #[.agg #[.slice A1 n1 c1, .slice A2 n2 c2], .int .i64 a] w (MarkedNet A1 A2 n1 c1 n2 c2 a w) := by
  go_enter Tryz.func30, Tryz.ntmps30
  go_wp2_with fail
  refine (m_markNodeS A1 n1 c1 ns a _ (h1.ext (Ext.alloc _ _)) (by omega) (by omega) (by omega)).mono ?_
  rintro e w1 ⟨rfl, o1, t1⟩
  have hz1 : w.heap.size < w1.heap.size := by have := t1.size; simp at this; omega
  have hb1 : ∀ j, w1.cell? ⟨w.heap.size, j, none⟩ = (w.alloc (.cells #[.slice A1 n1 c1, .slice A2 n2 c2] 45)).cell? ⟨w.heap.size, j, none⟩ := fun j => t1.cell (by simp) (fun h => by have := h1.lt h; omega)
  have o2 := (h2.ext (Ext.alloc _ _)).turn t1 (fun b hb hb' => hap b hb' hb)
  go_wp2_with fail
  refine (m_markPipeS A2 n2 c2 ps _ _ o2 (by omega) (by omega) (by omega)).mono ?_
  rintro e w2 ⟨rfl, o2', t2⟩
  go_wp2_with fail
  go_ret
  exact ⟨rfl, o1.turn t2 (fun b hb hb' => hap b hb hb'), o2', (Turn.of_ext (Ext.alloc _ _)).trans ((t1.mono (fun b hb => .inl hb)).trans (t2.mono (fun b hb => .inr hb)))⟩
/-- a room in blocks of its own, from lo to hi -/
structure ROwn (w : World) (lo hi : Nat) (A1 A2 A3 A4 A5 : Option Addr) (n1 c1 n2 c2 n3 c3 n4 c4 n5 c5 : Nat) (r : Room) : Prop where
  o1 : OwnA w 223 Node.cells A1 n1 c1 r.ns
  o2 : OwnA w 181 Pipe.cells A2 n2 c2 r.ps
  o3 : OwnA w 153 Contract.cells A3 n3 c3 r.xs
  o4 : OwnA w 157 Nomination.cells A4 n4 c4 r.L
  o5 : OwnA w 60 RS.cells A5 n5 c5 r.rs
  o6 : ∀ q ∈ r.rs, OwnA w 176 Reading.cells q.A q.n q.c q.xs
  ff : SepL [blkOf A1 n1, blkOf A2 n2, blkOf A3 n3, blkOf A4 n4, blkOf A5 n5]
  rr : SepL (r.rs.map fun q => blkOf q.A q.n)
  fr : ∀ b, some b ∈ [blkOf A1 n1, blkOf A2 n2, blkOf A3 n3, blkOf A4 n4, blkOf A5 n5] → ¬ rsBlk r.rs b
  rf : ∀ b, some b ∈ [blkOf A1 n1, blkOf A2 n2, blkOf A3 n3, blkOf A4 n4, blkOf A5 n5] → lo ≤ b ∧ b < hi
  rq : ∀ b, rsBlk r.rs b → lo ≤ b ∧ b < hi
section
variable {w w' : World} {lo hi : Nat} {A1 A2 A3 A4 A5 : Option Addr} {n1 c1 n2 c2 n3 c3 n4 c4 n5 c5 : Nat} {r : Room}
theorem ROwn.ext (h : ROwn w lo hi A1 A2 A3 A4 A5 n1 c1 n2 c2 n3 c3 n4 c4 n5 c5 r) (hx : Ext w w') : ROwn w' lo hi A1 A2 A3 A4 A5 n1 c1 n2 c2 n3 c3 n4 c4 n5 c5 r :=
  ⟨h.o1.ext hx, h.o2.ext hx, h.o3.ext hx, h.o4.ext hx, h.o5.ext hx, fun q hq => (h.o6 q hq).ext hx, h.ff, h.rr, h.fr, h.rf, h.rq⟩
theorem ROwn.turn {S : Nat → Prop} (h : ROwn w lo hi A1 A2 A3 A4 A5 n1 c1 n2 c2 n3 c3 n4 c4 n5 c5 r) (k : Turn S w w') (hs : ∀ b, S b → b < lo ∨ hi ≤ b) : ROwn w' lo hi A1 A2 A3 A4 A5 n1 c1 n2 c2 n3 c3 n4 c4 n5 c5 r := by
  have g : ∀ b, some b ∈ [blkOf A1 n1, blkOf A2 n2, blkOf A3 n3, blkOf A4 n4, blkOf A5 n5] → ¬ S b := fun b hb hS => by have := h.rf b hb; have := hs b hS; omega
  exact ⟨h.o1.turn k (fun b hb => g b (by simp [hb])), h.o2.turn k (fun b hb => g b (by simp [hb])), h.o3.turn k (fun b hb => g b (by simp [hb])), h.o4.turn k (fun b hb => g b (by simp [hb])), h.o5.turn k (fun b hb => g b (by simp [hb])),
    fun q hq => (h.o6 q hq).turn k (fun b hb hS => by have := h.rq b ⟨q, hq, hb⟩; have := hs b hS; omega), h.ff, h.rr, h.fr, h.rf, h.rq⟩
theorem ROwn.at_ (h : ROwn w lo hi A1 A2 A3 A4 A5 n1 c1 n2 c2 n3 c3 n4 c4 n5 c5 r) : RoomAt w A1 A2 A3 A4 A5 n1 c1 n2 c2 n3 c3 n4 c4 n5 c5 r :=
  ⟨h.o1.slice node_len, h.o2.slice pipe_len, h.o3.slice contract_len, h.o4.slice nomination_len, h.o5.slice rs_len, fun q hq => (h.o6 q hq).slice reading_len⟩
end
/-- the marks of a room -/
def markR (a : Int) (n1 n2 n3 n4 : Nat) (rs : List RS) : Room :=
  ⟨markNode a n1, markPipe (a + 3 * n1) n2, markContract (a + 3 * n1 + 5 * n2) n3, markNomination (a + 3 * n1 + 5 * n2 + 8 * n3) n4, markRS (a + 3 * n1 + 5 * n2 + 8 * n3 + 4 * n4) rs⟩
def markN (a : Int) (n1 n2 n3 n4 : Nat) (rs : List RS) : Int := a + 3 * n1 + 5 * n2 + 8 * n3 + 4 * n4 + 2 * ((rs.map RS.n).sum : Nat)
structure MarkedRoom (lo hi : Nat) (A1 A2 A3 A4 A5 : Option Addr) (n1 c1 n2 c2 n3 c3 n4 c4 n5 c5 : Nat) (rs : List RS) (a : Int) (w : World) (e : Ending) (w' : World) : Prop where
  e : e = .returned (.int .i64 (markN a n1 n2 n3 n4 rs))
  own : RoomAt w' A1 A2 A3 A4 A5 n1 c1 n2 c2 n3 c3 n4 c4 n5 c5 (markR a n1 n2 n3 n4 rs)
  turn : Turn (fun b => lo ≤ b ∧ b < hi) w w'
structure RoomSm (n1 n2 n3 n4 : Nat) (rs : List RS) : Prop where
  m1 : n1 ≤ 1048576
  m2 : n2 ≤ 1048576
  m3 : n3 ≤ 1048576
  m4 : n4 ≤ 1048576
  m5 : (rs.map RS.n).sum ≤ 1048576
set_option maxHeartbeats 2000000 in
theorem c_markRoom (lo hi : Nat) (A1 A2 A3 A4 A5 : Option Addr) (n1 c1 n2 c2 n3 c3 n4 c4 n5 c5 : Nat) (r : Room) (a : Int) (w : World) (h : ROwn w lo hi A1 A2 A3 A4 A5 n1 c1 n2 c2 n3 c3 n4 c4 n5 c5 r) (hm : RoomSm n1 n2 n3 n4 r.rs) (ha0 : 0 ≤ a) (ha1 : a ≤ 1000000) :
    Calls Tryz.prog 73 #[.agg #[.slice A1 n1 c1, .slice A2 n2 c2, .slice A3 n3 c3, .slice A4 n4 c4, .slice A5 n5 c5], .int .i64 a] w (MarkedRoom lo hi A1 A2 A3 A4 A5 n1 c1 n2 c2 n3 c3 n4 c4 n5 c5 r.rs a w) := by
  obtain ⟨m1, m2, m3, m4, m5⟩ := hm
  have h5 : ∀ b, blkOf A5 n5 = some b → ¬ rsBlk r.rs b := fun b hb => h.fr b (by simp [hb])
  have hlt : ∀ b, some b ∈ [blkOf A1 n1, blkOf A2 n2, blkOf A3 n3, blkOf A4 n4] → b < w.heap.size := by
    intro b hb
    simp only [List.mem_cons, List.not_mem_nil, or_false] at hb
    rcases hb with hb | hb | hb | hb
    · exact h.o1.lt hb.symm
    · exact h.o2.lt hb.symm
    · exact h.o3.lt hb.symm
    · exact h.o4.lt hb.symm
  have HM5 := hide m5
  have HLT := hide hlt
  clear m5 hlt
  have hin := RoomIn.new w A1 A2 A3 A4 A5 n1 c1 n2 c2 n3 c3 n4 c4 n5 c5 82
  go_enter Tryz.func73, Tryz.ntmps73
  go_wp2_with fail
  refine (c_markNetwork A1 A2 n1 c1 n2 c2 r.ns r.ps a _ (h.o1.ext (Ext.alloc _ _)) (h.o2.ext (Ext.alloc _ _)) (fun b hb hb' => h.ff 0 1 b (by decide) (by simp [hb]) (by simp [hb'])) m1 m2 (by omega) (by omega)).mono ?_
  rintro e w1 ⟨rfl, o1, o2, t1⟩
  have hz1 : w.heap.size < w1.heap.size := by have := t1.size; simp at this; omega
  have hb1 : ∀ j, w1.cell? ⟨w.heap.size, j, none⟩ = (w.alloc (.cells #[.slice A1 n1 c1, .slice A2 n2 c2, .slice A3 n3 c3, .slice A4 n4 c4, .slice A5 n5 c5] 82)).cell? ⟨w.heap.size, j, none⟩ := fun j => t1.cell (by simp) (fun h => by rcases h with h | h <;> (have := HLT.out w.heap.size (by rw [h]; simp); omega))
  have o3 := (h.o3.ext (Ext.alloc _ _)).turn t1 (fun b hb hb' => by
    rcases hb' with hb' | hb'
    · exact h.ff 0 2 b (by decide) (by simp [hb']) (by simp [hb])
    · exact h.ff 1 2 b (by decide) (by simp [hb']) (by simp [hb]))
  go_wp2_with fail
  refine (m_markContractS A3 n3 c3 r.xs _ _ o3 (by omega) (by omega) (by omega)).mono ?_
  rintro e w2 ⟨rfl, o3', t2⟩
  have hz2 : w.heap.size < w2.heap.size := by have := t2.size; omega
  have hb2 : ∀ j, w2.cell? ⟨w.heap.size, j, none⟩ = (w.alloc (.cells #[.slice A1 n1 c1, .slice A2 n2 c2, .slice A3 n3 c3, .slice A4 n4 c4, .slice A5 n5 c5] 82)).cell? ⟨w.heap.size, j, none⟩ := fun j => (t2.cell hz1 (fun h => by have := HLT.out w.heap.size (by rw [h]; simp); omega)).trans (hb1 j)
  clear hb1
  have o1a := o1.turn t2 (fun b hb hb' => h.ff 0 2 b (by decide) (by simp [hb]) (by simp [hb']))
  have o2a := o2.turn t2 (fun b hb hb' => h.ff 1 2 b (by decide) (by simp [hb]) (by simp [hb']))
  have o4 := ((h.o4.ext (Ext.alloc _ _)).turn t1 (fun b hb hb' => by
    rcases hb' with hb' | hb'
    · exact h.ff 0 3 b (by decide) (by simp [hb']) (by simp [hb])
    · exact h.ff 1 3 b (by decide) (by simp [hb']) (by simp [hb]))).turn t2 (fun b hb hb' => h.ff 2 3 b (by decide) (by simp [hb']) (by simp [hb]))
  go_wp2_with fail
  refine (m_markNominationS A4 n4 c4 r.L _ _ o4 (by omega) (by omega) (by omega)).mono ?_
  rintro e w3 ⟨rfl, o4', t3⟩
  have hz3 : w.heap.size < w3.heap.size := by have := t3.size; omega
  have hb3 : ∀ j, w3.cell? ⟨w.heap.size, j, none⟩ = (w.alloc (.cells #[.slice A1 n1 c1, .slice A2 n2 c2, .slice A3 n3 c3, .slice A4 n4 c4, .slice A5 n5 c5] 82)).cell? ⟨w.heap.size, j, none⟩ := fun j => (t3.cell hz2 (fun h => by have := HLT.out w.heap.size (by rw [h]; simp); omega)).trans (hb2 j)
  clear hb2
  have o1b := o1a.turn t3 (fun b hb hb' => h.ff 0 3 b (by decide) (by simp [hb]) (by simp [hb']))
  have o2b := o2a.turn t3 (fun b hb hb' => h.ff 1 3 b (by decide) (by simp [hb]) (by simp [hb']))
  have o3b := o3'.turn t3 (fun b hb hb' => h.ff 2 3 b (by decide) (by simp [hb]) (by simp [hb']))
  have t13 : Turn (fun b => some b ∈ [blkOf A1 n1, blkOf A2 n2, blkOf A3 n3, blkOf A4 n4]) (w.alloc (.cells #[.slice A1 n1 c1, .slice A2 n2 c2, .slice A3 n3 c3, .slice A4 n4 c4, .slice A5 n5 c5] 82)) w3 :=
    (t1.mono (fun b hb => by rcases hb with hb | hb <;> simp [hb])).trans ((t2.mono (fun b hb => by simp [hb])).trans (t3.mono (fun b hb => by simp [hb])))
  have s5 := ((h.o5.ext (Ext.alloc _ _)).turn t13 (fun b hb hb' => by
    simp only [List.mem_cons, List.not_mem_nil, or_false] at hb'
    rcases hb' with hb' | hb' | hb' | hb'
    · exact h.ff 0 4 b (by decide) (by simp [← hb']) (by simp [hb])
    · exact h.ff 1 4 b (by decide) (by simp [← hb']) (by simp [hb])
    · exact h.ff 2 4 b (by decide) (by simp [← hb']) (by simp [hb])
    · exact h.ff 3 4 b (by decide) (by simp [← hb']) (by simp [hb])))
  have o6 : ∀ q ∈ r.rs, OwnA w3 176 Reading.cells q.A q.n q.c q.xs := fun q hq => ((h.o6 q hq).ext (Ext.alloc _ _)).turn t13 (fun b hb hb' => h.fr b (by
    simp only [List.mem_cons, List.not_mem_nil, or_false] at hb' ⊢
    rcases hb' with hb' | hb' | hb' | hb' <;> simp [hb']) ⟨q, hq, hb⟩)
  clear t1 t2 t3 o1 o2 o3 o1a o2a o3' o4
  go_wp2_with fail
  refine (c_markReadingSS A5 n5 c5 r.rs _ _ (s5.slice rs_len) o6 h.rr h5 HM5.out (by omega) (by omega)).mono ?_
  rintro e w4 ⟨rfl, o6', t4⟩
  clear hb3
  go_wp2_with fail
  go_ret
  have fx : ∀ (A : Option Addr) (n : Nat), blkOf A n ∈ [blkOf A1 n1, blkOf A2 n2, blkOf A3 n3, blkOf A4 n4, blkOf A5 n5] → ∀ b, blkOf A n = some b → ¬ rsBlk r.rs b := fun A n hm b hb => h.fr b (by rw [← hb]; exact hm)
  refine ⟨rfl, ⟨(o1b.turn t4 (fx _ _ (by simp))).slice node_len, (o2b.turn t4 (fx _ _ (by simp))).slice pipe_len, (o3b.turn t4 (fx _ _ (by simp))).slice contract_len, (o4'.turn t4 (fx _ _ (by simp))).slice nomination_len, ((s5.turn t4 (fx _ _ (by simp))).same (markRS_cells _ r.rs)).slice rs_len, fun q hq => (o6' q hq).slice reading_len⟩, ?_⟩
  refine (Turn.of_ext (Ext.alloc _ _)).trans ((t13.mono fun b hb => h.rf b ?_).trans (t4.mono fun b hb => h.rq b hb))
  simp only [List.mem_cons, List.not_mem_nil, or_false] at hb ⊢
  rcases hb with hb | hb | hb | hb <;> simp [hb]
end Go.Proofs.YtfkpghdmljjegaaGreat

namespace Go.Proofs.YtfkpghdmljjegaaGreat
open Go.RowKit
/-- a box of a network, by its block -/
structure NBoxL (w : World) (b : Nat) (A1 A2 : Option Addr) (n1 c1 n2 c2 : Nat) : Prop where
  lt : b < w.heap.size
  x0 : w.cell? ⟨b, 0, none⟩ = some (.slice A1 n1 c1)
  x1 : w.cell? ⟨b, 1, none⟩ = some (.slice A2 n2 c2)
theorem NBoxL.ext {w w' : World} {b : Nat} {A1 A2 : Option Addr} {n1 c1 n2 c2 : Nat} (h : NBoxL w b A1 A2 n1 c1 n2 c2) (hx : Ext w w') : NBoxL w' b A1 A2 n1 c1 n2 c2 :=
  ⟨Nat.lt_of_lt_of_le h.lt hx.size, (hx.cell _ _ h.lt).trans h.x0, (hx.cell _ _ h.lt).trans h.x1⟩
theorem NBoxL.new (w : World) (A1 A2 : Option Addr) (n1 c1 n2 c2 : Nat) (t : TypeId) : NBoxL (w.alloc (.cells #[.slice A1 n1 c1, .slice A2 n2 c2] t)) w.heap.size A1 A2 n1 c1 n2 c2 := by
  have hR := Row.new w t [.slice A1 n1 c1, .slice A2 n2 c2]
  exact ⟨by simp, hR.cell 0, hR.cell 1⟩
theorem blk_is {g n b : Nat} (h : blkOf (some ⟨g, 0, none⟩) n = some b) : b = g := by
  unfold blkOf at h
  split at h
  · cases h
  · simpa using h.symm
end Go.Proofs.YtfkpghdmljjegaaGreat
