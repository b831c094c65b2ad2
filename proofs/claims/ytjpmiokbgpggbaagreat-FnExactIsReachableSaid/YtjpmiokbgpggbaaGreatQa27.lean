/-
  What the laws on rooms know of an argument and of its copies. markText of the laws: a text for each number. The helpers of the laws on nodes, networks and lists of lists: marking, and looking at the marks.
-/
import Derived.Test.YtjpmiokbgpggbaaGreatQa26
import Derived.Test.YtjpmiokbgpggbaaGreatQa00
import Derived.Laws.IdiomStrings
import Derived.Laws.BytesString
import Derived.Test.YtjpmiokbgpggbaaGreatProg
import Derived.Test.YtjpmiokbgpggbaaGreatQa19
namespace Go.Proofs.YtjpmiokbgpggbaaGreat
open Go.RowKit Go.ChangeShapes Go.WideShapes Go.ChangeAt Go.Deep Go.Joins
theorem own : ownKnob Tryz.prog.godebug = none := by kernel_rfl
theorem laidOut : laidOutB Tryz.prog = true := by kernel_rfl
def roomOk (r : Room) : Bool := roomB r.ns.length r
def RoomLen (r : Room) : Prop := r.ns.length ≤ 1048576 ∧ Named r.ns ∧ r.ps.length ≤ 1048576 ∧ r.xs.length ≤ 1048576 ∧ r.L.length ≤ 1048576 ∧ r.rs.length ≤ 1048576 ∧ (∀ q ∈ r.rs, q.xs.length ≤ 1048576) ∧ ((r.rs.map RS.xs).map List.length).sum ≤ 1048576
section
variable {w w' : World} {A1 A2 A3 A4 A5 : Option Addr} {n1 c1 n2 c2 n3 c3 n4 c4 n5 c5 : Nat} {r r' : Room}
theorem RoomAt.roomLen (h : RoomAt w A1 A2 A3 A4 A5 n1 c1 n2 c2 n3 c3 n4 c4 n5 c5 r) (hz : RoomSz r n1 n2 n3 n4 n5) : RoomLen r :=
  ⟨h.s1.len ▸ hz.n1, hz.nm, h.s2.len ▸ hz.n2, h.s3.len ▸ hz.n3, h.s4.len ▸ hz.n4, h.s5.len ▸ hz.n5, fun q hq => (h.s6 q hq).len ▸ hz.n6 q hq, by
    have : (r.rs.map RS.xs).map List.length = r.rs.map RS.n := by rw [List.map_map]; exact List.map_congr_left (fun q hq => (h.s6 q hq).len.symm)
    rw [this]; exact hz.n7⟩
theorem RoomLen.like (h : RoomLen r) (hl : r'.Like r) : RoomLen r' := by
  obtain ⟨h1, h2, h3, h4, h5⟩ := hl
  obtain ⟨k1, k2, k3, k4, k5, k6, k7, k8⟩ := h
  have hlen := congrArg List.length h5
  simp at hlen
  refine ⟨by rw [h1]; exact k1, by rw [h1]; exact k2, by rw [h2]; exact k3, by rw [h3]; exact k4, by rw [h4]; exact k5, by rw [hlen]; exact k6, fun q hq => ?_, by rw [h5]; exact k8⟩
  have : q.xs ∈ r.rs.map RS.xs := by rw [← h5]; exact List.mem_map_of_mem hq
  obtain ⟨q', hq', he⟩ := List.mem_map.1 this
  rw [← he]; exact k7 q' hq'
theorem RoomAt.ok (h : RoomAt w A1 A2 A3 A4 A5 n1 c1 n2 c2 n3 c3 n4 c4 n5 c5 r') (hl : r'.Like r) : roomB n1 r' = roomOk r := by
  unfold roomOk
  rw [h.s1.len, hl.1, roomB_like hl]
end
/-- a copy, as it is read -/
def RoomOf (r : Room) (w : World) (e : Ending) (w' : World) : Prop := ∃ (A1 A2 A3 A4 A5 : Option Addr) (n1 c1 n2 c2 n3 c3 n4 c4 n5 c5 : Nat) (r' : Room), e = .returned (.agg #[.slice A1 n1 c1, .slice A2 n2 c2, .slice A3 n3 c3, .slice A4 n4 c4, .slice A5 n5 c5]) ∧ RoomAt w' A1 A2 A3 A4 A5 n1 c1 n2 c2 n3 c3 n4 c4 n5 c5 r' ∧ r'.Like r ∧ Ext w w'
theorem CopiedRoom.of {r : Room} {w w' : World} {e : Ending} (hl : RoomLen r) (h : CopiedRoom r w e w') : RoomOf r w e w' := by
  obtain ⟨g1, g2, g3, g4, g5, rs', rfl, _, _, _, _, _, r1, r2, r3, r4, r5, hm, ho, _, hx⟩ := h
  obtain ⟨k1, _, k2, k3, k4, k5, _⟩ := hl
  have hlen := congrArg List.length hm
  simp at hlen
  exact ⟨_, _, _, _, _, _, _, _, _, _, _, _, _, _, _, ⟨r.ns, r.ps, r.xs, r.L, rs'⟩, rfl, ⟨r1.slice node_len rfl (by omega), r2.slice pipe_len rfl (by omega), r3.slice contract_len rfl (by omega), r4.slice nomination_len rfl (by omega), r5.slice rs_len hlen.symm (by omega), fun q hq => (ho q hq).slice⟩, ⟨rfl, rfl, rfl, rfl, hm⟩, hx⟩
theorem hourR_like {r r' : Room} {n1 : Int} (h : roomB n1 r' = roomOk r) (hl : r'.Like r) : hourR n1 r' = hourR r.ns.length r := by
  have hlen := congrArg List.length hl.2.2.2.2
  simp at hlen
  unfold hourR
  rw [h, hlen]; rfl
end Go.Proofs.YtjpmiokbgpggbaaGreat

namespace Go.Proofs.YtjpmiokbgpggbaaGreat
open Go.RowKit
def mtGo (k : Nat) (out : ByteArray) : ByteArray := if _h : k = 0 then out else mtGo (k / 10) (⟨#[48 + UInt8.ofNat (k % 10)]⟩ ++ out)
termination_by k
decreasing_by omega
theorem mt_step {k : Nat} {out : ByteArray} (h : 0 < k) : mtGo k out = mtGo (k / 10) (⟨#[48 + UInt8.ofNat (k % 10)]⟩ ++ out) := by
  conv => lhs; unfold mtGo
  rw [dif_neg (by omega)]
theorem mt_end (out : ByteArray) : mtGo 0 out = out := by
  unfold mtGo
  rw [dif_pos rfl]
def mtext (k : Int) : ByteArray := if k ≤ 0 then ⟨#[109, 48]⟩ else ⟨#[109]⟩ ++ mtGo k.toNat ByteArray.empty
theorem digit_conv (W : World) (m : Nat) (z : Int) (hz : z = (m : Int)) (hm : m < 10) : (convert 22 9 (.slice (some ⟨W.heap.size, 0, none⟩) 1 1)).run Tryz.prog (W.alloc (.cells #[.int .u8 (48 + z)] 5)) = .ok (.string ⟨#[48 + UInt8.ofNat m]⟩) (W.alloc (.cells #[.int .u8 (48 + z)] 5)) := by
  have h := run_convert_bytes_back (P := Tryz.prog) (W.alloc (.cells #[.int .u8 (48 + z)] 5)) 22 9 5 ⟨W.heap.size, 0, none⟩ 1 [48 + UInt8.ofNat m] Tryz.underlying22 Tryz.underlying5 Tryz.underlying9 (fun j hj => by
    obtain rfl : j = 0 := by simp at hj; omega
    have : (Addr.add ⟨W.heap.size, 0, none⟩ 0) = ⟨W.heap.size, 0, none⟩ := rfl
    rw [this, World.cell?_alloc_mark]
    subst hz
    simp
    omega)
  exact h
set_option maxRecDepth 8000 in
theorem c_markText (k : Int) (w : World) (hk : k ≤ 1000000000000000) :
    Calls Tryz.prog 134 #[.int .i64 k] w (Ret (.string (mtext k)) w) := by
  by_cases h0 : k ≤ 0
  · have HR := hide (show mtext k = ⟨#[109, 48]⟩ by unfold mtext; rw [if_pos h0])
    go_enter Tryz.func134, Tryz.ntmps134
    go_wp2_with fail
    go_ret
    rw [HR.out]
    exact ⟨rfl, Ext.refl _⟩
  · obtain ⟨K, rfl⟩ : ∃ K : Nat, k = K := ⟨k.toNat, by omega⟩
    have HR := hide (show mtext K = ⟨#[109]⟩ ++ mtGo K ByteArray.empty by unfold mtext; rw [if_neg h0]; rfl)
    go_enter Tryz.func134, Tryz.ntmps134
    go_wp2_with fail
    go_loopw [0, 3] (fun i s wr => ∃ (j : Nat) (o : ByteArray), j ≤ 1000000000000000 ∧ i = .int .i64 j ∧ s = .string o ∧ o.size + j ≤ 1000000000000000 ∧ Hid (mtGo j o = mtGo K ByteArray.empty) ∧ Ext w wr) (fun i _ _ => (intOf i).toNat)
    case atStart => exact ⟨K, _, by omega, rfl, rfl, by show 0 + K ≤ _; omega, hide rfl, Ext.refl _⟩
    case round =>
      obtain ⟨j, o, hj, rfl, rfl, hos, HJ, hx⟩ := hrel
      by_cases hlt : 0 < j
      · have e1 : (j : Int).tmod 10 = (j : Int) % 10 := Int.tmod_eq_emod_of_nonneg (by omega)
        have e2 : (j : Int).tdiv 10 = (j : Int) / 10 := Int.tdiv_eq_ediv_of_nonneg (by omega)
        have e3 : IntKind.i64.wrap (48 + (j : Int) % 10) = 48 + (j : Int) % 10 := IntWalk.i64_in _ (by omega)
        have e4 : IntKind.u8.wrap (48 + (j : Int) % 10) = 48 + (j : Int) % 10 := by simp [IntKind.wrap, IntKind.signed, IntKind.bits]; omega
        have hcv := digit_conv wr (j % 10) ((j : Int) % 10) (by omega) (by omega)
        have hsz : ¬ 9223372036854775807 < 1 + o.size := by omega
        go_wp2_with fail
        go_roundw
        case rel => exact ⟨j / 10, _, by omega, by simp, rfl, by rw [ByteArray.size_append]; show 1 + o.size + j / 10 ≤ _; omega, hide (by rw [← HJ.out, mt_step hlt]), hx.and_alloc _⟩
        case measure => simp [intOf]; omega
      · obtain rfl : j = 0 := by omega
        have hsz : ¬ 9223372036854775807 < 1 + o.size := by omega
        have HE := hide (show o = mtGo K ByteArray.empty by rw [← HJ.out, mt_end])
        go_wp2_with fail
        go_ret
        rw [HR.out, ← HE.out]
        exact ⟨rfl, hx⟩
end Go.Proofs.YtjpmiokbgpggbaaGreat

namespace Go.Proofs.YtjpmiokbgpggbaaGreat
open Go.RowKit
/-- the marks from a number on -/
def markNode (a : Int) (n : Nat) : List Node := (List.range n).map fun (i : Nat) => ⟨mtext (a + 3 * (i : Int)), a + 3 * (i : Int) + 1, a + 3 * (i : Int) + 2⟩
theorem markNode_at (a : Int) (n i : Nat) (h : i < n) : (markNode a n)[i]? = some ⟨mtext (a + 3 * (i : Int)), a + 3 * (i : Int) + 1, a + 3 * (i : Int) + 2⟩ := by
  unfold markNode; rw [List.getElem?_map, List.getElem?_range h]; rfl
def MarkedNode (g : Nat) (A : Option Addr) (n : Nat) (a : Int) (w : World) (e : Ending) (w' : World) : Prop :=
  e = .returned (.int .i64 (a + 3 * n)) ∧ OwnS w' g 115 Node.cells A n (markNode a n) ∧ Only g w w'
set_option maxHeartbeats 1000000 in
theorem c_markNodeS (g : Nat) (A : Option Addr) (n c : Nat) (ts : List Node) (a : Int) (w : World) (hown0 : OwnS w g 115 Node.cells A n ts) (hn : n ≤ 1000000000) (hcap : n ≤ c) (hmax : c ≤ 9223372036854775807) (ha0 : 0 ≤ a) (ha1 : a ≤ 1000000000000) :
    Calls Tryz.prog 101 #[.slice A n c, .int .i64 a] w (MarkedNode g A n a w) := by
  go_enter Tryz.func101, Tryz.ntmps101
  go_wp2_with fail
  go_loopw [1, 5] (fun q i wr => ∃ (k : Nat) (K : Int) (L : List Node), k ≤ n ∧ q = .int .i64 K ∧ i = .int .i64 k ∧ a + 3 * (k : Int) ≤ K ∧ K ≤ a + 3 * (k : Int) ∧ OwnS wr g 115 Node.cells A n L ∧ Hid (∀ j, j < k → L[j]? = (markNode a n)[j]?) ∧ Only g w wr) (fun _ i _ => n - (intOf i).toNat)
  case atStart => exact ⟨0, a, ts, Nat.zero_le _, rfl, rfl, by omega, by omega, hown0, hide (fun j hj => absurd hj (by omega)), Only.refl _ _⟩
  case round =>
    obtain ⟨k, K, L, hk, rfl, rfl, hK0, hK1, hown, HK, hx⟩ := hrel
    by_cases hlt : k < n
    · have hn0 : 0 < n := by omega
      obtain ⟨rfl, _⟩ := hown.2 hn0
      go_wp2_with fail
      refine (c_markText K _ (by omega)).mono ?_
      rintro e w1 ⟨rfl, hx1⟩
      have hown1 := hown.ext hx1
      have hlt1 := hown1.lt hn0
      obtain ⟨v0, hv0⟩ := hown1.there node_len (i := k) hlt (j := 0) (by omega)
      have hf0 := hown1.frozen hn0 (k * 3)
      obtain ⟨v1, hv1⟩ := hown1.there node_len (i := k) hlt (j := 1) (by omega)
      have hf1 := hown1.frozen hn0 (k * 3 + 1)
      obtain ⟨v2, hv2⟩ := hown1.there node_len (i := k) hlt (j := 2) (by omega)
      have hf2 := hown1.frozen hn0 (k * 3 + 2)
      rw [Nat.add_zero] at hv0
      have HL := hide hown.1
      go_wp2_with fail
      go_roundw
      case rel =>
        refine ⟨k + 1, _, L.set k ⟨mtext K, K + 1, K + 1 + 1⟩, by omega, rfl, by go_num, by omega, by omega, hown1.put node_len hlt ⟨mtext K, K + 1, K + 1 + 1⟩, hide ?_, (hx.trans (Only.of_ext hx1 _)).put (k * 3) (Node.cells ⟨mtext K, K + 1, K + 1 + 1⟩)⟩
        intro j hj
        rw [List.getElem?_set]
        by_cases e : k = j
        · subst e
          rw [if_pos rfl, if_pos (by rw [← HL.out]; exact hlt), markNode_at _ _ _ hlt]
          have : K = a + 3 * (k : Int) := by omega
          subst this
          congr 2 <;> omega
        · rw [if_neg e]; exact HK.out j (by omega)
      case measure => simp [intOf]; omega
    · go_wp2_with fail
      go_ret
      have hLts : L = markNode a n := by
        apply List.ext_getElem?
        intro j
        by_cases hj : j < n
        · exact HK.out j (by omega)
        · rw [List.getElem?_eq_none (by have := hown.1; omega), List.getElem?_eq_none (by simp [markNode]; omega)]
      subst hLts
      refine ⟨?_, hown, hx⟩
      obtain rfl : k = n := by omega
      have : K = a + 3 * (k : Int) := by omega
      rw [← this]; rfl
set_option maxRecDepth 8000 in
set_option maxHeartbeats 1000000 in
theorem c_heldNodeS (A : Option Addr) (n c : Nat) (a : Int) (w : World) (hs : SliceOf w 3 Node.cells A n c (markNode a n)) (hn : n ≤ 1000000000) (ha0 : 0 ≤ a) (ha1 : a ≤ 1000000000000) :
    Calls Tryz.prog 104 #[.slice A n c, .int .i64 a] w (Ret (.int .i64 (a + 3 * n)) w) := by
  have hcap := hs.cap
  have hmax := hs.max
  go_enter Tryz.func104, Tryz.ntmps104
  go_wp2_with fail
  go_loopw [1, 5] (fun q i wr => ∃ (k : Nat) (K : Int), k ≤ n ∧ q = .int .i64 K ∧ i = .int .i64 k ∧ a + 3 * (k : Int) ≤ K ∧ K ≤ a + 3 * (k : Int) ∧ Ext w wr) (fun _ i _ => n - (intOf i).toNat)
  case atStart => exact ⟨0, a, Nat.zero_le _, rfl, rfl, by omega, by omega, Ext.refl _⟩
  case round =>
    obtain ⟨k, K, hk, rfl, rfl, hK0, hK1, hx⟩ := hrel
    by_cases hlt : k < n
    · obtain ⟨b, off, x, rfl, hb, hxk, hc⟩ := (hs.ext hx).get hlt
      rw [markNode_at _ _ _ hlt] at hxk
      obtain rfl : (⟨mtext K, K + 1, K + 1 + 1⟩ : Node) = x := by
        injection hxk with hxk
        rw [← hxk]
        have : K = a + 3 * (k : Int) := by omega
        subst this
        congr 1 <;> omega
      clear hxk
      have hc0 := hc 0 _ rfl
      have hc1 := hc 1 _ rfl
      have hc2 := hc 2 _ rfl
      clear hc
      simp only [Nat.add_zero] at hc0
      go_wp2_with fail
      refine wp_region_later (by kernel_rfl) (by kernel_rfl) ?_
      repeat (go_big_quiet_step ((go_at_call 134; exact quiet_later (c_markText K _ (by omega)))))
      refine wpQuiet_nil ?_
      intro w1 hx1
      have hd1 := (hx1.cell b (off + k * 3 + 1) hb).trans hc1
      have hd2 := (hx1.cell b (off + k * 3 + 2) hb).trans hc2
      have hb1 : b < w1.heap.size := Nat.lt_of_lt_of_le hb hx1.size
      go_wp2_with fail
      go_roundw
      case rel => exact ⟨k + 1, _, by omega, rfl, by go_num, by omega, by omega, hx.trans hx1⟩
      case measure => simp [intOf]; omega
    · go_wp2_with fail
      go_ret
      obtain rfl : k = n := by omega
      have : K = a + 3 * (k : Int) := by omega
      exact ⟨by rw [← this]; rfl, hx⟩
/-- a marked slice -/
def MarkA {α : Type} (t : TypeId) (f : α → List Value) (A : Option Addr) (n c : Nat) (z : Int) (L : List α) (w : World) (e : Ending) (w' : World) : Prop :=
  e = .returned (.int .i64 z) ∧ OwnA w' t f A n c L ∧ Turn (fun k => blkOf A n = some k) w w'
theorem m_markNodeS (A : Option Addr) (n c : Nat) (ts : List Node) (a : Int) (w : World) (h : OwnA w 115 Node.cells A n c ts) (hn : n ≤ 1000000000) (ha0 : 0 ≤ a) (ha1 : a ≤ 1000000000000) :
    Calls Tryz.prog 101 #[.slice A n c, .int .i64 a] w (MarkA 115 Node.cells A n c (a + 3 * n) (markNode a n) w) := by
  obtain ⟨g, ho, hg⟩ := h.own
  refine (c_markNodeS g A n c ts a w ho hn h.2.1 h.2.2.1 ha0 ha1).mono fun e w' ⟨h1, h2, h3⟩ => ?_
  exact ⟨h1, h2.toA h.2.1 h.2.2.1, Turn.of_only h3 hg⟩
theorem m_markPipeS (A : Option Addr) (n c : Nat) (ts : List Pipe) (a : Int) (w : World) (h : OwnA w 117 Pipe.cells A n c ts) (hn : n ≤ 1000000000) (ha0 : 0 ≤ a) (ha1 : a ≤ 1000000000000) :
    Calls Tryz.prog 102 #[.slice A n c, .int .i64 a] w (MarkA 117 Pipe.cells A n c (a + 5 * n) (markPipe a n) w) := by
  obtain ⟨g, ho, hg⟩ := h.own
  refine (c_markPipeS g A n c ts a w ho hn h.2.1 h.2.2.1 ha0 ha1).mono fun e w' ⟨h1, h2, h3⟩ => ?_
  exact ⟨h1, h2.toA h.2.1 h.2.2.1, Turn.of_only h3 hg⟩
theorem m_markContractS (A : Option Addr) (n c : Nat) (ts : List Contract) (a : Int) (w : World) (h : OwnA w 68 Contract.cells A n c ts) (hn : n ≤ 1000000000) (ha0 : 0 ≤ a) (ha1 : a ≤ 1000000000000) :
    Calls Tryz.prog 60 #[.slice A n c, .int .i64 a] w (MarkA 68 Contract.cells A n c (a + 8 * n) (markContract a n) w) := by
  obtain ⟨g, ho, hg⟩ := h.own
  refine (c_markContractS g A n c ts a w ho hn h.2.1 h.2.2.1 ha0 ha1).mono fun e w' ⟨h1, h2, h3⟩ => ?_
  exact ⟨h1, h2.toA h.2.1 h.2.2.1, Turn.of_only h3 hg⟩
theorem m_markNominationS (A : Option Addr) (n c : Nat) (ts : List Nomination) (a : Int) (w : World) (h : OwnA w 70 Nomination.cells A n c ts) (hn : n ≤ 1000000000) (ha0 : 0 ≤ a) (ha1 : a ≤ 1000000000000) :
    Calls Tryz.prog 61 #[.slice A n c, .int .i64 a] w (MarkA 70 Nomination.cells A n c (a + 4 * n) (markNomination a n) w) := by
  obtain ⟨g, ho, hg⟩ := h.own
  refine (c_markNominationS g A n c ts a w ho hn h.2.1 h.2.2.1 ha0 ha1).mono fun e w' ⟨h1, h2, h3⟩ => ?_
  exact ⟨h1, h2.toA h.2.1 h.2.2.1, Turn.of_only h3 hg⟩
theorem m_markReadingS (A : Option Addr) (n c : Nat) (ts : List Reading) (a : Int) (w : World) (h : OwnA w 93 Reading.cells A n c ts) (hn : n ≤ 1000000000) (ha0 : 0 ≤ a) (ha1 : a ≤ 1000000000000) :
    Calls Tryz.prog 103 #[.slice A n c, .int .i64 a] w (MarkA 93 Reading.cells A n c (a + 2 * n) (markReading a n) w) := by
  obtain ⟨g, ho, hg⟩ := h.own
  refine (c_markReadingS g A n c ts a w ho hn h.2.1 h.2.2.1 ha0 ha1).mono fun e w' ⟨h1, h2, h3⟩ => ?_
  exact ⟨h1, h2.toA h.2.1 h.2.2.1, Turn.of_only h3 hg⟩
end Go.Proofs.YtjpmiokbgpggbaaGreat
