/-
  The arguments of the laws on hours: networks, books, nominations, lists of readings, read from what is laid. The program's own knobs are none, and its types are laid out: two facts that every lift of a law names. What the laws on rooms know of an argument and of its copies. markText of the laws: a text for each number. Plain lemmas: a world of which some blocks have turned; slices of the call's own, by their address; blocks that are apart. No function of the program is named here. The helpers of the laws on nodes, networks and lists of lists: marking, and looking at the marks. The helpers of the laws on rooms: marking, and looking at the marks. The helpers of the laws on whole rooms: marking, and looking at the marks.
-/
import Derived.Test.YtfkpghdmljjegaaGreatVa07
import Derived.Test.YtfkpghdmljjegaaGreatVa00
import Derived.OpenShut
import Derived.ProofKit
import Derived.ShutString
import Derived.ChangeOld
import Derived.Lib.SmallJoins
import Derived.Laws.IdiomStrings
import Derived.Laws.BytesString
import Derived.Test.YtfkpghdmljjegaaGreatProg
import Derived.Test.YtfkpghdmljjegaaGreatVa01
namespace Go.Proofs.YtfkpghdmljjegaaGreat
open Go.RowKit Go.ChangeShapes Go.WideShapes Go.ChangeAt Go.Deep Go.Joins
section
variable {H : Type} {enc : TypeId × Value → H} {w : World} {base : Nat} {spare : Nat → Bool} {held : Bool}
set_option maxRecDepth 100000 in
theorem opened_net {r0 : Reach} {b0 : Nat} {v : Value} {d : DataW H} {p : List MemPlace} (hv : Value.okWide Tryz.prog w r0 b0 34 v) (h : DataW.Trod enc Tryz.prog w base spare held 34 v d p) :
    ∃ (A1 A2 : Option Addr) (n1 c1 n2 c2 : Nat) (ns : List Node) (ps : List Pipe), v = .agg #[.slice A1 n1 c1, .slice A2 n2 c2] ∧ SliceOf w 3 Node.cells A1 n1 c1 ns ∧ SliceOf w 5 Pipe.cells A2 n2 c2 ps ∧ Named0 ns := by
  obtain ⟨cs, rfl, hsz⟩ := okWide_struct Tryz.underlying34 hv
  have hC : Tryz.prog.cellsOf 34 = 2 := by kernel_rfl
  obtain ⟨l⟩ := cs
  match l, hsz.trans hC with
  | [v0, v1], _ =>
    obtain ⟨fuel, hf⟩ := h
    obtain ⟨A1, A2, n1, c1, n2, c2, ns, ps, rfl, rfl, s1, s2, hnm⟩ := open_net hf
    exact ⟨A1, A2, n1, c1, n2, c2, ns, ps, rfl, s1, s2, hnm⟩
set_option maxRecDepth 100000 in
theorem opened_book {r0 : Reach} {b0 : Nat} {v : Value} {d : DataW H} {p : List MemPlace} (hv : Value.okWide Tryz.prog w r0 b0 35 v) (h : DataW.Trod enc Tryz.prog w base spare held 35 v d p) :
    ∃ (A : Option Addr) (n c : Nat) (xs : List Contract), v = .slice A n c ∧ SliceOf w 8 Contract.cells A n c xs := by
  obtain ⟨a0, len, cap, rfl⟩ := okWide_slice Tryz.underlying35 hv
  obtain ⟨fuel, hf⟩ := h
  exact open_contracts hf
set_option maxRecDepth 100000 in
theorem opened_noms {r0 : Reach} {b0 : Nat} {v : Value} {d : DataW H} {p : List MemPlace} (hv : Value.okWide Tryz.prog w r0 b0 36 v) (h : DataW.Trod enc Tryz.prog w base spare held 36 v d p) :
    ∃ (A : Option Addr) (n c : Nat) (xs : List Nomination), v = .slice A n c ∧ SliceOf w 4 Nomination.cells A n c xs := by
  obtain ⟨a0, len, cap, rfl⟩ := okWide_slice Tryz.underlying36 hv
  obtain ⟨fuel, hf⟩ := h
  obtain ⟨A, n, c, xs, e, hl, s⟩ := open_flat Tryz.underlying36 Tryz.underlying159 (by kernel_rfl) (by kernel_rfl) (by kernel_rfl) (by decide) hf
  exact ⟨A, n, c, _, e, SliceOf.map s nomOf (by
    intro zs hzs
    match zs, hl zs hzs with
    | [a, b, c, d], _ => rfl)⟩
set_option maxRecDepth 100000 in
theorem opened_readss {r0 : Reach} {b0 : Nat} {v : Value} {d : DataW H} {p : List MemPlace} (hv : Value.okWide Tryz.prog w r0 b0 88 v) (h : DataW.Trod enc Tryz.prog w base spare held 88 v d p) :
    ∃ (A : Option Addr) (n c : Nat) (rs : List RS), v = .slice A n c ∧ SliceOf w 1 RS.cells A n c rs ∧ ∀ q ∈ rs, SliceOf w 2 Reading.cells q.A q.n q.c q.xs := by
  obtain ⟨a0, len, cap, rfl⟩ := okWide_slice Tryz.underlying88 hv
  obtain ⟨fuel, hf⟩ := h
  exact open_readss hf
end
end Go.Proofs.YtfkpghdmljjegaaGreat

namespace Go.Proofs.YtfkpghdmljjegaaGreat
open Go.RowKit Go.ChangeShapes Go.WideShapes Go.ChangeAt Go.Deep Go.Joins
theorem own : ownKnob Tryz.prog.godebug = none := by kernel_rfl
theorem laidOut : laidOutB Tryz.prog = true := by kernel_rfl
end Go.Proofs.YtfkpghdmljjegaaGreat

namespace Go.Proofs.YtfkpghdmljjegaaGreat
open Go.RowKit Go.ChangeShapes Go.WideShapes Go.ChangeAt Go.Deep Go.Joins
def roomOk (r : Room) : Bool := roomB r.ns.length r
def RoomLen (r : Room) : Prop := r.ns.length ≤ 1048576 ∧ Named r.ns ∧ r.ps.length ≤ 1048576 ∧ r.xs.length ≤ 1048576 ∧ r.L.length ≤ 1048576 ∧ r.rs.length ≤ 1048576 ∧ (∀ q ∈ r.rs, q.xs.length ≤ 1048576) ∧ ((r.rs.map RS.xs).map List.length).sum ≤ 1048576
section
variable {w w' : World} {A1 A2 A3 A4 A5 : Option Addr} {n1 c1 n2 c2 n3 c3 n4 c4 n5 c5 : Nat} {r r' : Room}
theorem RoomAt.ok (h : RoomAt w A1 A2 A3 A4 A5 n1 c1 n2 c2 n3 c3 n4 c4 n5 c5 r') (hl : r'.Like r) : roomB n1 r' = roomOk r := by
  unfold roomOk
  rw [h.s1.len, hl.1, roomB_like hl]
end
/-- a copy, as it is read -/
def RoomOf (r : Room) (w : World) (e : Ending) (w' : World) : Prop := ∃ (A1 A2 A3 A4 A5 : Option Addr) (n1 c1 n2 c2 n3 c3 n4 c4 n5 c5 : Nat) (r' : Room), e = .returned (.agg #[.slice A1 n1 c1, .slice A2 n2 c2, .slice A3 n3 c3, .slice A4 n4 c4, .slice A5 n5 c5]) ∧ RoomAt w' A1 A2 A3 A4 A5 n1 c1 n2 c2 n3 c3 n4 c4 n5 c5 r' ∧ r'.Like r ∧ Ext w w'
theorem CopiedRoom.of {r : Room} {w w' : World} {e : Ending} (hl : RoomLen r) (h : CopiedRoom r w e w') : RoomOf r w e w' := by
  obtain ⟨g1, g2, g3, g4, g5, rs', rfl, _, _, _, _, _, r1, r2, r3, r4, r5, hm, ho, _, hx⟩ := h
  obtain ⟨k1, _, k2, k3, k4, k5, _⟩ := hl
  have hlen := congrArg List.length hm
  simp at hlen
  exact ⟨_, _, _, _, _, _, _, _, _, _, _, _, _, _, _, ⟨r.ns, r.ps, r.xs, r.L, rs'⟩, rfl, ⟨r1.slice node_len rfl (by omega), r2.slice pipe_len rfl (by omega), r3.slice contract_len rfl (by omega), r4.slice nomination_len rfl (by omega), r5.slice rs_len hlen.symm (by omega), fun q hq => (ho q hq).slice⟩, ⟨rfl, rfl, rfl, rfl, hm⟩, hx⟩
end Go.Proofs.YtfkpghdmljjegaaGreat

namespace Go.Proofs.YtfkpghdmljjegaaGreat
open Go.RowKit
def mtGo (k : Nat) (out : ByteArray) : ByteArray := if _h : k = 0 then out else mtGo (k / 10) (⟨#[48 + UInt8.ofNat (k % 10)]⟩ ++ out)
termination_by k
decreasing_by omega
theorem mt_step {k : Nat} {out : ByteArray} (h : 0 < k) : mtGo k out = mtGo (k / 10) (⟨#[48 + UInt8.ofNat (k % 10)]⟩ ++ out) := by
  conv => lhs; unfold mtGo
  rw [dif_neg (by omega)]
theorem mt_end (out : ByteArray) : mtGo 0 out = out := by
  unfold mtGo
  rw [dif_pos rfl]
def mtext (k : Int) : ByteArray := if k ≤ 0 then ⟨#[109, 48]⟩ else ⟨#[109]⟩ ++ mtGo k.toNat ByteArray.empty
theorem digit_conv (W : World) (m : Nat) (z : Int) (hz : z = (m : Int)) (hm : m < 10) : (convert 22 9 (.slice (some ⟨W.heap.size, 0, none⟩) 1 1)).run Tryz.prog (W.alloc (.cells #[.int .u8 (48 + z)] 5)) = .ok (.string ⟨#[48 + UInt8.ofNat m]⟩) (W.alloc (.cells #[.int .u8 (48 + z)] 5)) := by
  have h := run_convert_bytes_back (P := Tryz.prog) (W.alloc (.cells #[.int .u8 (48 + z)] 5)) 22 9 5 ⟨W.heap.size, 0, none⟩ 1 [48 + UInt8.ofNat m] Tryz.underlying22 Tryz.underlying5 Tryz.underlying9 (fun j hj => by
    obtain rfl : j = 0 := by simp at hj; omega
    have : (Addr.add ⟨W.heap.size, 0, none⟩ 0) = ⟨W.heap.size, 0, none⟩ := rfl
    rw [this, World.cell?_alloc_mark]
    subst hz
    simp
    omega)
  exact h
set_option maxRecDepth 8000 in
theorem c_markText (k : Int) (w : World) (hk : k ≤ 1000000000000000) :
    Calls Tryz.prog 193 #[.int .i64 k] w (Ret (.string (mtext k)) w) := by
  by_cases h0 : k ≤ 0
  · have HR := hide (show mtext k = ⟨#[109, 48]⟩ by unfold mtext; rw [if_pos h0])
    go_enter Tryz.func193, Tryz.ntmps193
    go_wp2_with fail
    go_ret
    rw [HR.out]
    exact ⟨rfl, Ext.refl _⟩
  · obtain ⟨K, rfl⟩ : ∃ K : Nat, k = K := ⟨k.toNat, by omega⟩
    have HR := hide (show mtext K = ⟨#[109]⟩ ++ mtGo K ByteArray.empty by unfold mtext; rw [if_neg h0]; rfl)
    go_enter Tryz.func193, Tryz.ntmps193
    go_wp2_with fail
    go_loopw [0, 3] (fun i s wr => ∃ (j : Nat) (o : ByteArray), j ≤ 1000000000000000 ∧ i = .int .i64 j ∧ s = .string o ∧ o.size + j ≤ 1000000000000000 ∧ Hid (mtGo j o = mtGo K ByteArray.empty) ∧ Ext w wr) (fun i _ _ => (intOf i).toNat)
    case atStart => exact ⟨K, _, by omega, rfl, rfl, by show 0 + K ≤ _; omega, hide rfl, Ext.refl _⟩
    case round =>
      obtain ⟨j, o, hj, rfl, rfl, hos, HJ, hx⟩ := hrel
      by_cases hlt : 0 < j
      · have e1 : (j : Int).tmod 10 = (j : Int) % 10 := Int.tmod_eq_emod_of_nonneg (by omega)
        have e2 : (j : Int).tdiv 10 = (j : Int) / 10 := Int.tdiv_eq_ediv_of_nonneg (by omega)
        have e3 : IntKind.i64.wrap (48 + (j : Int) % 10) = 48 + (j : Int) % 10 := IntWalk.i64_in _ (by omega)
        have e4 : IntKind.u8.wrap (48 + (j : Int) % 10) = 48 + (j : Int) % 10 := by simp [IntKind.wrap, IntKind.signed, IntKind.bits]; omega
        have hcv := digit_conv wr (j % 10) ((j : Int) % 10) (by omega) (by omega)
        have hsz : ¬ 9223372036854775807 < 1 + o.size := by omega
        go_wp2_with fail
        go_roundw
        case rel => exact ⟨j / 10, _, by omega, by simp, rfl, by rw [ByteArray.size_append]; show 1 + o.size + j / 10 ≤ _; omega, hide (by rw [← HJ.out, mt_step hlt]), hx.and_alloc _⟩
        case measure => simp [intOf]; omega
      · obtain rfl : j = 0 := by omega
        have hsz : ¬ 9223372036854775807 < 1 + o.size := by omega
        have HE := hide (show o = mtGo K ByteArray.empty by rw [← HJ.out, mt_end])
        go_wp2_with fail
        go_ret
        rw [HR.out, ← HE.out]
        exact ⟨rfl, hx⟩
end Go.Proofs.YtfkpghdmljjegaaGreat

namespace Go.Proofs.YtfkpghdmljjegaaGreat
open Go.RowKit

/-- only blocks of S have turned -/
structure Turn (S : Nat → Prop) (w w' : World) : Prop where
  os : w'.os = w.os
  tape : w'.tape = w.tape
  output : w'.output = w.output
  size : w.heap.size ≤ w'.heap.size
  block : ∀ k, k < w.heap.size → ¬ S k → w'.heap[k]? = w.heap[k]?
section
variable {S S' : Nat → Prop} {w w' w'' : World}
theorem Turn.of_ext (h : Ext w w') : Turn S w w' := ⟨h.os, h.tape, h.output, h.size, fun k hk _ => h.block k hk⟩
theorem Turn.refl (w : World) : Turn S w w := Turn.of_ext (Ext.refl _)
theorem Turn.of_only {g : Nat} (h : Only g w w') (hg : g < w.heap.size → S g) : Turn S w w' :=
  ⟨h.os, h.tape, h.output, h.size, fun k hk hne => h.block k hk (by intro e; simp at e; subst e; exact hne (hg hk))⟩
theorem Turn.trans (h : Turn S w w') (k : Turn S w' w'') : Turn S w w'' :=
  ⟨k.os.trans h.os, k.tape.trans h.tape, k.output.trans h.output, Nat.le_trans h.size k.size, fun i hi hne => (k.block i (Nat.lt_of_lt_of_le hi h.size) hne).trans (h.block i hi hne)⟩
theorem Turn.mono (h : Turn S w w') (hs : ∀ k, S k → S' k) : Turn S' w w' := ⟨h.os, h.tape, h.output, h.size, fun k hk hne => h.block k hk (fun h' => hne (hs k h'))⟩
theorem Ext.turn {w0 : World} (h : Ext w0 w) (k : Turn S w w') (hs : ∀ b, S b → w0.heap.size ≤ b) : Ext w0 w' :=
  ⟨k.os.trans h.os, k.tape.trans h.tape, k.output.trans h.output, Nat.le_trans h.size k.size, fun i hi => (k.block i (Nat.lt_of_lt_of_le hi h.size) (fun h' => by have := hs i h'; omega)).trans (h.block i hi)⟩
theorem Turn.cell (h : Turn S w w') {b o : Nat} (hb : b < w.heap.size) (hne : ¬ S b) : w'.cell? ⟨b, o, none⟩ = w.cell? ⟨b, o, none⟩ := World.cell?_of_block (w := w) (h.block b hb hne)
theorem Row.turn {t : TypeId} {cs : List Value} {g : Nat} (h : Row w g t cs) (k : Turn S w w') (hne : ¬ S g) : Row w' g t cs := (k.block g h.lt hne).trans h
end
/-- the block of a slice that is not empty -/
def blkOf (A : Option Addr) (n : Nat) : Option Nat := if n = 0 then none else A.map Addr.block
/-- a slice of the call's own, by its address -/
def OwnA {α : Type} (w : World) (t : TypeId) (f : α → List Value) (A : Option Addr) (n c : Nat) (xs : List α) : Prop :=
  n = xs.length ∧ n ≤ c ∧ c ≤ 9223372036854775807 ∧ (0 < n → ∃ g, A = some ⟨g, 0, none⟩ ∧ ∃ rest, Row w g t (xs.flatMap f ++ rest))
section
variable {α : Type} {S : Nat → Prop} {w w' : World} {t : TypeId} {f : α → List Value} {size : Nat} {A : Option Addr} {n c g : Nat} {xs : List α}
theorem OwnS.toA (h : OwnS w g t f A n xs) (hc : n ≤ c) (hm : c ≤ 9223372036854775807) : OwnA w t f A n c xs := ⟨h.1, hc, hm, fun hn => ⟨g, h.2 hn⟩⟩
theorem OwnS.blk (h : OwnS w g t f A n xs) {b : Nat} (hb : blkOf A n = some b) : b = g ∧ 0 < n := by
  unfold blkOf at hb
  split at hb
  · cases hb
  · have hn : 0 < n := by omega
    rw [(h.2 hn).1] at hb
    simp at hb
    exact ⟨hb.symm, hn⟩
theorem RowOf.toA (h : RowOf w g t f xs) (hn : n = xs.length) (hc : n ≤ c) (hm : c ≤ 9223372036854775807) : OwnA w t f (some ⟨g, 0, none⟩) n c xs := by
  subst hn
  exact (OwnS.of_row h).toA hc hm
theorem OwnA.ext (h : OwnA w t f A n c xs) (hx : Ext w w') : OwnA w' t f A n c xs := ⟨h.1, h.2.1, h.2.2.1, fun hn => let ⟨g, hA, r, hr⟩ := h.2.2.2 hn; ⟨g, hA, r, hr.ext hx⟩⟩
theorem OwnA.turn (h : OwnA w t f A n c xs) (k : Turn S w w') (hne : ∀ b, blkOf A n = some b → ¬ S b) : OwnA w' t f A n c xs :=
  ⟨h.1, h.2.1, h.2.2.1, fun hn => let ⟨g, hA, r, hr⟩ := h.2.2.2 hn; ⟨g, hA, r, hr.turn k (hne g (by unfold blkOf; rw [if_neg (by omega), hA]; rfl))⟩⟩
theorem OwnA.own (h : OwnA w t f A n c xs) : ∃ g, OwnS w g t f A n xs ∧ (g < w.heap.size → blkOf A n = some g) := by
  by_cases hn : 0 < n
  · obtain ⟨g, hA, r, hr⟩ := h.2.2.2 hn
    exact ⟨g, ⟨h.1, fun _ => ⟨hA, r, hr⟩⟩, fun _ => by unfold blkOf; rw [if_neg (by omega), hA]; rfl⟩
  · exact ⟨w.heap.size, ⟨h.1, fun h0 => absurd h0 hn⟩, fun h0 => absurd h0 (Nat.lt_irrefl _)⟩
theorem OwnA.slice (h : OwnA w t f A n c xs) (hf : ∀ x, (f x).length = size) : SliceOf w size f A n c xs := by
  obtain ⟨g, ho, _⟩ := h.own
  exact ho.slice hf h.2.1 h.2.2.1
theorem OwnA.lt (h : OwnA w t f A n c xs) {b : Nat} (hb : blkOf A n = some b) : b < w.heap.size := by
  obtain ⟨g, ho, _⟩ := h.own
  obtain ⟨rfl, hn⟩ := ho.blk hb
  exact ho.lt hn
theorem SliceOf.turn (h : SliceOf w size f A n c xs) (k : Turn S w w') (hne : ∀ b, blkOf A n = some b → ¬ S b) : SliceOf w' size f A n c xs := by
  obtain ⟨h1, h2, h3, h4⟩ := h
  refine ⟨h1, h2, h3, fun hn => ?_⟩
  obtain ⟨b, off, hA, hb, hc⟩ := h4 hn
  exact ⟨b, off, hA, Nat.lt_of_lt_of_le hb k.size, fun i x hx j u hu => (k.cell hb (hne b (by unfold blkOf; rw [if_neg (by omega), hA]; rfl))).trans (hc i x hx j u hu)⟩
theorem SliceOf.blk (h : SliceOf w size f A n c xs) {b : Nat} (hb : blkOf A n = some b) : b < w.heap.size := by
  unfold blkOf at hb
  split at hb
  · cases hb
  · obtain ⟨b', off, hA, hlt, _⟩ := h.2.2.2 (by omega)
    rw [hA] at hb
    simp at hb
    omega
end
/-- blocks that are apart -/
def SepL (l : List (Option Nat)) : Prop := ∀ (i j b : Nat), i ≠ j → l[i]? = some (some b) → l[j]? ≠ some (some b)
end Go.Proofs.YtfkpghdmljjegaaGreat

namespace Go.Proofs.YtfkpghdmljjegaaGreat
open Go.RowKit
/-- the marks from a number on -/
def markNode (a : Int) (n : Nat) : List Node := (List.range n).map fun (i : Nat) => ⟨mtext (a + 3 * (i : Int)), a + 3 * (i : Int) + 1, a + 3 * (i : Int) + 2⟩
theorem markNode_at (a : Int) (n i : Nat) (h : i < n) : (markNode a n)[i]? = some ⟨mtext (a + 3 * (i : Int)), a + 3 * (i : Int) + 1, a + 3 * (i : Int) + 2⟩ := by
  unfold markNode; rw [List.getElem?_map, List.getElem?_range h]; rfl
def MarkedNode (g : Nat) (A : Option Addr) (n : Nat) (a : Int) (w : World) (e : Ending) (w' : World) : Prop :=
  e = .returned (.int .i64 (a + 3 * n)) ∧ OwnS w' g 223 Node.cells A n (markNode a n) ∧ Only g w w'
set_option maxHeartbeats 1000000 in
theorem c_markNodeS (g : Nat) (A : Option Addr) (n c : Nat) (ts : List Node) (a : Int) (w : World) (hown0 : OwnS w g 223 Node.cells A n ts) (hn : n ≤ 1000000000) (hcap : n ≤ c) (hmax : c ≤ 9223372036854775807) (ha0 : 0 ≤ a) (ha1 : a ≤ 1000000000000) :
    Calls Tryz.prog 119 #[.slice A n c, .int .i64 a] w (MarkedNode g A n a w) := by
  go_enter Tryz.func119, Tryz.ntmps119
  go_wp2_with fail
  go_loopw [1, 5] (fun q i wr => ∃ (k : Nat) (K : Int) (L : List Node), k ≤ n ∧ q = .int .i64 K ∧ i = .int .i64 k ∧ a + 3 * (k : Int) ≤ K ∧ K ≤ a + 3 * (k : Int) ∧ OwnS wr g 223 Node.cells A n L ∧ Hid (∀ j, j < k → L[j]? = (markNode a n)[j]?) ∧ Only g w wr) (fun _ i _ => n - (intOf i).toNat)
  case atStart => exact ⟨0, a, ts, Nat.zero_le _, rfl, rfl, by omega, by omega, hown0, hide (fun j hj => absurd hj (by omega)), Only.refl _ _⟩
  case round =>
    obtain ⟨k, K, L, hk, rfl, rfl, hK0, hK1, hown, HK, hx⟩ := hrel
    by_cases hlt : k < n
    · have hn0 : 0 < n := by omega
      obtain ⟨rfl, _⟩ := hown.2 hn0
      go_wp2_with fail
      refine (c_markText K _ (by omega)).mono ?_
      rintro e w1 ⟨rfl, hx1⟩
      have hown1 := hown.ext hx1
      have hlt1 := hown1.lt hn0
      obtain ⟨v0, hv0⟩ := hown1.there node_len (i := k) hlt (j := 0) (by omega)
      have hf0 := hown1.frozen hn0 (k * 3)
      obtain ⟨v1, hv1⟩ := hown1.there node_len (i := k) hlt (j := 1) (by omega)
      have hf1 := hown1.frozen hn0 (k * 3 + 1)
      obtain ⟨v2, hv2⟩ := hown1.there node_len (i := k) hlt (j := 2) (by omega)
      have hf2 := hown1.frozen hn0 (k * 3 + 2)
      rw [Nat.add_zero] at hv0
      have HL := hide hown.1
      go_wp2_with fail
      go_roundw
      case rel =>
        refine ⟨k + 1, _, L.set k ⟨mtext K, K + 1, K + 1 + 1⟩, by omega, rfl, by go_num, by omega, by omega, hown1.put node_len hlt ⟨mtext K, K + 1, K + 1 + 1⟩, hide ?_, (hx.trans (Only.of_ext hx1 _)).put (k * 3) (Node.cells ⟨mtext K, K + 1, K + 1 + 1⟩)⟩
        intro j hj
        rw [List.getElem?_set]
        by_cases e : k = j
        · subst e
          rw [if_pos rfl, if_pos (by rw [← HL.out]; exact hlt), markNode_at _ _ _ hlt]
          have : K = a + 3 * (k : Int) := by omega
          subst this
          congr 2 <;> omega
        · rw [if_neg e]; exact HK.out j (by omega)
      case measure => simp [intOf]; omega
    · go_wp2_with fail
      go_ret
      have hLts : L = markNode a n := by
        apply List.ext_getElem?
        intro j
        by_cases hj : j < n
        · exact HK.out j (by omega)
        · rw [List.getElem?_eq_none (by have := hown.1; omega), List.getElem?_eq_none (by simp [markNode]; omega)]
      subst hLts
      refine ⟨?_, hown, hx⟩
      obtain rfl : k = n := by omega
      have : K = a + 3 * (k : Int) := by omega
      rw [← this]; rfl
/-- a marked slice -/
def MarkA {α : Type} (t : TypeId) (f : α → List Value) (A : Option Addr) (n c : Nat) (z : Int) (L : List α) (w : World) (e : Ending) (w' : World) : Prop :=
  e = .returned (.int .i64 z) ∧ OwnA w' t f A n c L ∧ Turn (fun k => blkOf A n = some k) w w'
theorem m_markNodeS (A : Option Addr) (n c : Nat) (ts : List Node) (a : Int) (w : World) (h : OwnA w 223 Node.cells A n c ts) (hn : n ≤ 1000000000) (ha0 : 0 ≤ a) (ha1 : a ≤ 1000000000000) :
    Calls Tryz.prog 119 #[.slice A n c, .int .i64 a] w (MarkA 223 Node.cells A n c (a + 3 * n) (markNode a n) w) := by
  obtain ⟨g, ho, hg⟩ := h.own
  refine (c_markNodeS g A n c ts a w ho hn h.2.1 h.2.2.1 ha0 ha1).mono fun e w' ⟨h1, h2, h3⟩ => ?_
  exact ⟨h1, h2.toA h.2.1 h.2.2.1, Turn.of_only h3 hg⟩
theorem m_markPipeS (A : Option Addr) (n c : Nat) (ts : List Pipe) (a : Int) (w : World) (h : OwnA w 181 Pipe.cells A n c ts) (hn : n ≤ 1000000000) (ha0 : 0 ≤ a) (ha1 : a ≤ 1000000000000) :
    Calls Tryz.prog 120 #[.slice A n c, .int .i64 a] w (MarkA 181 Pipe.cells A n c (a + 5 * n) (markPipe a n) w) := by
  obtain ⟨g, ho, hg⟩ := h.own
  refine (c_markPipeS g A n c ts a w ho hn h.2.1 h.2.2.1 ha0 ha1).mono fun e w' ⟨h1, h2, h3⟩ => ?_
  exact ⟨h1, h2.toA h.2.1 h.2.2.1, Turn.of_only h3 hg⟩
theorem m_markContractS (A : Option Addr) (n c : Nat) (ts : List Contract) (a : Int) (w : World) (h : OwnA w 153 Contract.cells A n c ts) (hn : n ≤ 1000000000) (ha0 : 0 ≤ a) (ha1 : a ≤ 1000000000000) :
    Calls Tryz.prog 31 #[.slice A n c, .int .i64 a] w (MarkA 153 Contract.cells A n c (a + 8 * n) (markContract a n) w) := by
  obtain ⟨g, ho, hg⟩ := h.own
  refine (c_markContractS g A n c ts a w ho hn h.2.1 h.2.2.1 ha0 ha1).mono fun e w' ⟨h1, h2, h3⟩ => ?_
  exact ⟨h1, h2.toA h.2.1 h.2.2.1, Turn.of_only h3 hg⟩
theorem m_markNominationS (A : Option Addr) (n c : Nat) (ts : List Nomination) (a : Int) (w : World) (h : OwnA w 157 Nomination.cells A n c ts) (hn : n ≤ 1000000000) (ha0 : 0 ≤ a) (ha1 : a ≤ 1000000000000) :
    Calls Tryz.prog 32 #[.slice A n c, .int .i64 a] w (MarkA 157 Nomination.cells A n c (a + 4 * n) (markNomination a n) w) := by
  obtain ⟨g, ho, hg⟩ := h.own
  refine (c_markNominationS g A n c ts a w ho hn h.2.1 h.2.2.1 ha0 ha1).mono fun e w' ⟨h1, h2, h3⟩ => ?_
  exact ⟨h1, h2.toA h.2.1 h.2.2.1, Turn.of_only h3 hg⟩
theorem m_markReadingS (A : Option Addr) (n c : Nat) (ts : List Reading) (a : Int) (w : World) (h : OwnA w 176 Reading.cells A n c ts) (hn : n ≤ 1000000000) (ha0 : 0 ≤ a) (ha1 : a ≤ 1000000000000) :
    Calls Tryz.prog 38 #[.slice A n c, .int .i64 a] w (MarkA 176 Reading.cells A n c (a + 2 * n) (markReading a n) w) := by
  obtain ⟨g, ho, hg⟩ := h.own
  refine (c_markReadingS g A n c ts a w ho hn h.2.1 h.2.2.1 ha0 ha1).mono fun e w' ⟨h1, h2, h3⟩ => ?_
  exact ⟨h1, h2.toA h.2.1 h.2.2.1, Turn.of_only h3 hg⟩
end Go.Proofs.YtfkpghdmljjegaaGreat

namespace Go.Proofs.YtfkpghdmljjegaaGreat
open Go.RowKit
def markRS : Int → List RS → List RS
  | _, [] => []
  | a, q :: t => ⟨q.A, q.n, q.c, markReading a q.n⟩ :: markRS (a + 2 * q.n) t
theorem markRS_at (a : Int) (rs : List RS) (j : Nat) : (markRS a rs)[j]? = (rs[j]?).map fun q => ⟨q.A, q.n, q.c, markReading (a + 2 * (((rs.take j).map RS.n).sum : Nat)) q.n⟩ := by
  induction rs generalizing a j with
  | nil => simp [markRS]
  | cons q t ih =>
    cases j with
    | zero => simp [markRS]
    | succ j =>
      simp only [markRS, List.getElem?_cons_succ, ih, List.take_succ_cons, List.map_cons, List.sum_cons]
      congr 1
      funext x
      congr 2
      omega
/-- the blocks of the lists -/
def rsBlk (rs : List RS) (b : Nat) : Prop := ∃ q ∈ rs, blkOf q.A q.n = some b
structure MarkedRS (rs : List RS) (a : Int) (w : World) (e : Ending) (w' : World) : Prop where
  e : e = .returned (.int .i64 (a + 2 * ((rs.map RS.n).sum : Nat)))
  own : ∀ q ∈ markRS a rs, OwnA w' 176 Reading.cells q.A q.n q.c q.xs
  turn : Turn (rsBlk rs) w w'
theorem sum_le_of_take {rs : List RS} {k : Nat} {q : RS} (h : rs[k]? = some q) : ((rs.take k).map RS.n).sum + q.n ≤ (rs.map RS.n).sum := by
  have h1 : rs.map RS.n = (rs.take (k + 1)).map RS.n ++ (rs.drop (k + 1)).map RS.n := by rw [← List.map_append, List.take_append_drop]
  rw [h1, List.sum_append, sum_take h]
  omega
set_option maxHeartbeats 1000000 in
theorem c_markReadingSS (A : Option Addr) (n c : Nat) (rs : List RS) (a : Int) (w : World) (hs : SliceOf w 1 RS.cells A n c rs) (h6 : ∀ q ∈ rs, OwnA w 176 Reading.cells q.A q.n q.c q.xs)
    (hrr : SepL (rs.map fun q => blkOf q.A q.n)) (hfr : ∀ b, blkOf A n = some b → ¬ rsBlk rs b) (hsum : (rs.map RS.n).sum ≤ 1048576) (ha0 : 0 ≤ a) (ha1 : a ≤ 100000000000) :
    Calls Tryz.prog 60 #[.slice A n c, .int .i64 a] w (MarkedRS rs a w) := by
  have hm := hs.max
  have hcap := hs.cap
  have HL := hide hs.len
  have HSM := hide hsum
  clear hsum
  go_enter Tryz.func60, Tryz.ntmps60
  go_wp2_with fail
  go_loopw [1, 5] (fun z i wr => ∃ (k : Nat) (K : Int), k ≤ n ∧ z = .int .i64 K ∧ i = .int .i64 k ∧ Hid (K = a + 2 * (((rs.take k).map RS.n).sum : Nat)) ∧ a ≤ K ∧ K ≤ a + 2097152 ∧
      Hid (∀ j q, rs[j]? = some q → (j < k → OwnA wr 176 Reading.cells q.A q.n q.c (markReading (a + 2 * (((rs.take j).map RS.n).sum : Nat)) q.n)) ∧ (k ≤ j → OwnA wr 176 Reading.cells q.A q.n q.c q.xs)) ∧ Turn (rsBlk rs) w wr) (fun _ i _ => n - (intOf i).toNat)
  case atStart => exact ⟨0, a, Nat.zero_le _, rfl, rfl, hide (by simp), by omega, by omega, hide (fun j q hq => ⟨fun h => absurd h (by omega), fun _ => h6 q (List.mem_of_getElem? hq)⟩), Turn.refl _⟩
  case round =>
    obtain ⟨k, K, hk, rfl, rfl, HKK, hK0, hK1, HK, hx⟩ := hrel
    by_cases hlt : k < n
    · have hsr := hs.turn hx hfr
      obtain ⟨bb, off, p, rfl, hbb, hxk, t⟩ := hsr.get hlt
      have t0 := t 0 _ rfl
      simp only [Nat.add_zero, Nat.mul_one] at t0
      have HX := hide hxk
      have hp := (HK.out k p hxk).2 (Nat.le_refl _)
      have hpn := sum_le_of_take hxk
      have h0 := HSM.out
      have hp1 : p.n ≤ 1048576 := by omega
      have hp2 : K + 2 * (p.n : Int) ≤ a + 2097152 := by rw [HKK.out]; omega
      clear hxk t hpn h0 hsr
      go_wp2_with fail
      refine (m_markReadingS p.A p.n p.c p.xs K _ hp (by omega) (by omega) (by omega)).mono ?_
      rintro e w1 ⟨rfl, ho1, ht1⟩
      go_wp2_with fail
      go_roundw
      case rel =>
        refine ⟨k + 1, _, by omega, rfl, by go_num, hide (by rw [sum_take HX.out, HKK.out]; omega), by omega, by omega, hide fun j q hq => ⟨fun hj => ?_, fun hj => ?_⟩, hx.trans (ht1.mono fun b hb => ⟨p, List.mem_of_getElem? HX.out, hb⟩)⟩
        · by_cases e : j = k
          · subst e; rw [HX.out] at hq; injection hq with hq; subst hq; rw [← HKK.out]; exact ho1
          · refine ((HK.out j q hq).1 (by omega)).turn ht1 (fun b hb hb' => ?_)
            exact hrr j k b e (by rw [List.getElem?_map, hq]; simp [hb]) (by rw [List.getElem?_map, HX.out]; simp [hb'])
        · refine ((HK.out j q hq).2 (by omega)).turn ht1 (fun b hb hb' => ?_)
          exact hrr j k b (by omega) (by rw [List.getElem?_map, hq]; simp [hb]) (by rw [List.getElem?_map, HX.out]; simp [hb'])
      case measure => simp [intOf]; omega
    · go_wp2_with fail
      go_ret
      obtain rfl : n = k := by omega
      have h1 := HKK.out
      rw [List.take_of_length_le (by have := HL.out; omega)] at h1
      refine ⟨by rw [← h1]; rfl, fun q' hq' => ?_, hx⟩
      obtain ⟨j, hj, hjq⟩ := List.mem_iff_getElem.1 hq'
      have h2 := markRS_at a rs j
      rw [List.getElem?_eq_getElem hj, hjq] at h2
      cases hq : rs[j]? with
      | none => rw [hq] at h2; cases h2
      | some q =>
        rw [hq] at h2
        simp only [Option.map_some, Option.some.injEq] at h2
        subst h2
        exact (HK.out j q hq).1 (by have := (List.getElem?_eq_some_iff.1 hq).1; have := HL.out; omega)
end Go.Proofs.YtfkpghdmljjegaaGreat

namespace Go.Proofs.YtfkpghdmljjegaaGreat
open Go.RowKit
structure MarkedNet (A1 A2 : Option Addr) (n1 c1 n2 c2 : Nat) (a : Int) (w : World) (e : Ending) (w' : World) : Prop where
  e : e = .returned (.int .i64 (a + 3 * n1 + 5 * n2))
  o1 : OwnA w' 223 Node.cells A1 n1 c1 (markNode a n1)
  o2 : OwnA w' 181 Pipe.cells A2 n2 c2 (markPipe (a + 3 * n1) n2)
  turn : Turn (fun b => blkOf A1 n1 = some b ∨ blkOf A2 n2 = some b) w w'
set_option maxHeartbeats 1000000 in
theorem c_markNetwork (A1 A2 : Option Addr) (n1 c1 n2 c2 : Nat) (ns : List Node) (ps : List Pipe) (a : Int) (w : World) (h1 : OwnA w 223 Node.cells A1 n1 c1 ns) (h2 : OwnA w 181 Pipe.cells A2 n2 c2 ps)
    (hap : ∀ b, blkOf A1 n1 = some b → blkOf A2 n2 ≠ some b) (m1 : n1 ≤ 1048576) (m2 : n2 ≤ 1048576) (ha0 : 0 ≤ a) (ha1 : a ≤ 1000000000) :
    Calls Tryz.prog 30 #[.agg #[.slice A1 n1 c1, .slice A2 n2 c2], .int .i64 a] w (MarkedNet A1 A2 n1 c1 n2 c2 a w) := by
  go_enter Tryz.func30, Tryz.ntmps30
  go_wp2_with fail
  refine (m_markNodeS A1 n1 c1 ns a _ (h1.ext (Ext.alloc _ _)) (by omega) (by omega) (by omega)).mono ?_
  rintro e w1 ⟨rfl, o1, t1⟩
  have hz1 : w.heap.size < w1.heap.size := by have := t1.size; simp at this; omega
  have hb1 : ∀ j, w1.cell? ⟨w.heap.size, j, none⟩ = (w.alloc (.cells #[.slice A1 n1 c1, .slice A2 n2 c2] 45)).cell? ⟨w.heap.size, j, none⟩ := fun j => t1.cell (by simp) (fun h => by have := h1.lt h; omega)
  have o2 := (h2.ext (Ext.alloc _ _)).turn t1 (fun b hb hb' => hap b hb' hb)
  go_wp2_with fail
  refine (m_markPipeS A2 n2 c2 ps _ _ o2 (by omega) (by omega) (by omega)).mono ?_
  rintro e w2 ⟨rfl, o2', t2⟩
  go_wp2_with fail
  go_ret
  exact ⟨rfl, o1.turn t2 (fun b hb hb' => hap b hb hb'), o2', (Turn.of_ext (Ext.alloc _ _)).trans ((t1.mono (fun b hb => .inl hb)).trans (t2.mono (fun b hb => .inr hb)))⟩
/-- a room in blocks of its own, from lo to hi -/
structure ROwn (w : World) (lo hi : Nat) (A1 A2 A3 A4 A5 : Option Addr) (n1 c1 n2 c2 n3 c3 n4 c4 n5 c5 : Nat) (r : Room) : Prop where
  o1 : OwnA w 223 Node.cells A1 n1 c1 r.ns
  o2 : OwnA w 181 Pipe.cells A2 n2 c2 r.ps
  o3 : OwnA w 153 Contract.cells A3 n3 c3 r.xs
  o4 : OwnA w 157 Nomination.cells A4 n4 c4 r.L
  o5 : OwnA w 60 RS.cells A5 n5 c5 r.rs
  o6 : ∀ q ∈ r.rs, OwnA w 176 Reading.cells q.A q.n q.c q.xs
  ff : SepL [blkOf A1 n1, blkOf A2 n2, blkOf A3 n3, blkOf A4 n4, blkOf A5 n5]
  rr : SepL (r.rs.map fun q => blkOf q.A q.n)
  fr : ∀ b, some b ∈ [blkOf A1 n1, blkOf A2 n2, blkOf A3 n3, blkOf A4 n4, blkOf A5 n5] → ¬ rsBlk r.rs b
  rf : ∀ b, some b ∈ [blkOf A1 n1, blkOf A2 n2, blkOf A3 n3, blkOf A4 n4, blkOf A5 n5] → lo ≤ b ∧ b < hi
  rq : ∀ b, rsBlk r.rs b → lo ≤ b ∧ b < hi
section
variable {w w' : World} {lo hi : Nat} {A1 A2 A3 A4 A5 : Option Addr} {n1 c1 n2 c2 n3 c3 n4 c4 n5 c5 : Nat} {r : Room}
theorem ROwn.ext (h : ROwn w lo hi A1 A2 A3 A4 A5 n1 c1 n2 c2 n3 c3 n4 c4 n5 c5 r) (hx : Ext w w') : ROwn w' lo hi A1 A2 A3 A4 A5 n1 c1 n2 c2 n3 c3 n4 c4 n5 c5 r :=
  ⟨h.o1.ext hx, h.o2.ext hx, h.o3.ext hx, h.o4.ext hx, h.o5.ext hx, fun q hq => (h.o6 q hq).ext hx, h.ff, h.rr, h.fr, h.rf, h.rq⟩
theorem ROwn.turn {S : Nat → Prop} (h : ROwn w lo hi A1 A2 A3 A4 A5 n1 c1 n2 c2 n3 c3 n4 c4 n5 c5 r) (k : Turn S w w') (hs : ∀ b, S b → b < lo ∨ hi ≤ b) : ROwn w' lo hi A1 A2 A3 A4 A5 n1 c1 n2 c2 n3 c3 n4 c4 n5 c5 r := by
  have g : ∀ b, some b ∈ [blkOf A1 n1, blkOf A2 n2, blkOf A3 n3, blkOf A4 n4, blkOf A5 n5] → ¬ S b := fun b hb hS => by have := h.rf b hb; have := hs b hS; omega
  exact ⟨h.o1.turn k (fun b hb => g b (by simp [hb])), h.o2.turn k (fun b hb => g b (by simp [hb])), h.o3.turn k (fun b hb => g b (by simp [hb])), h.o4.turn k (fun b hb => g b (by simp [hb])), h.o5.turn k (fun b hb => g b (by simp [hb])),
    fun q hq => (h.o6 q hq).turn k (fun b hb hS => by have := h.rq b ⟨q, hq, hb⟩; have := hs b hS; omega), h.ff, h.rr, h.fr, h.rf, h.rq⟩
theorem ROwn.at_ (h : ROwn w lo hi A1 A2 A3 A4 A5 n1 c1 n2 c2 n3 c3 n4 c4 n5 c5 r) : RoomAt w A1 A2 A3 A4 A5 n1 c1 n2 c2 n3 c3 n4 c4 n5 c5 r :=
  ⟨h.o1.slice node_len, h.o2.slice pipe_len, h.o3.slice contract_len, h.o4.slice nomination_len, h.o5.slice rs_len, fun q hq => (h.o6 q hq).slice reading_len⟩
end
/-- the marks of a room -/
def markR (a : Int) (n1 n2 n3 n4 : Nat) (rs : List RS) : Room :=
  ⟨markNode a n1, markPipe (a + 3 * n1) n2, markContract (a + 3 * n1 + 5 * n2) n3, markNomination (a + 3 * n1 + 5 * n2 + 8 * n3) n4, markRS (a + 3 * n1 + 5 * n2 + 8 * n3 + 4 * n4) rs⟩
def markN (a : Int) (n1 n2 n3 n4 : Nat) (rs : List RS) : Int := a + 3 * n1 + 5 * n2 + 8 * n3 + 4 * n4 + 2 * ((rs.map RS.n).sum : Nat)
structure MarkedRoom (lo hi : Nat) (A1 A2 A3 A4 A5 : Option Addr) (n1 c1 n2 c2 n3 c3 n4 c4 n5 c5 : Nat) (rs : List RS) (a : Int) (w : World) (e : Ending) (w' : World) : Prop where
  e : e = .returned (.int .i64 (markN a n1 n2 n3 n4 rs))
  own : RoomAt w' A1 A2 A3 A4 A5 n1 c1 n2 c2 n3 c3 n4 c4 n5 c5 (markR a n1 n2 n3 n4 rs)
  turn : Turn (fun b => lo ≤ b ∧ b < hi) w w'
structure RoomSm (n1 n2 n3 n4 : Nat) (rs : List RS) : Prop where
  m1 : n1 ≤ 1048576
  m2 : n2 ≤ 1048576
  m3 : n3 ≤ 1048576
  m4 : n4 ≤ 1048576
  m5 : (rs.map RS.n).sum ≤ 1048576
end Go.Proofs.YtfkpghdmljjegaaGreat
