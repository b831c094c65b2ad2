/-
  NewRoom of the program and of the reference. NewRoom of the program and of the reference. Marking and holding slices of int64; what a call that returns a slice and a code leaves.
-/
import Derived.Test.YtjpmiokbgpggbaaGreatRb33
import Derived.Test.YtjpmiokbgpggbaaGreatRb06
import Derived.Test.YtjpmiokbgpggbaaGreatRb01
namespace Go.Proofs.YtjpmiokbgpggbaaGreat
open Go.RowKit
theorem SliceOf.far {α : Type} {w : World} {size : Nat} {f : α → List Value} {A : Option Addr} {n c : Nat} {xs : List α} (h : SliceOf w size f A n c xs) {p : Addr} (hp : ∀ b, blkOf A n = some b → b ≠ p.block) (u : Value) : SliceOf (w.setCell p u) size f A n c xs := by
  refine h.turn (S := fun b => b = p.block) ⟨rfl, rfl, rfl, by simp, fun k _ hk => Below.heap_setCell w p u k hk⟩ hp
theorem SliceOf.set5 {α : Type} {w : World} {size : Nat} {f : α → List Value} {A : Option Addr} {n c : Nat} {xs : List α} (h : SliceOf w size f A n c xs) {g : Nat} (hg : ∀ b, blkOf A n = some b → b ≠ g) (u0 u1 u2 u3 u4 : Value) :
    SliceOf (((((w.setCell ⟨g, 0, none⟩ u0).setCell ⟨g, 1, none⟩ u1).setCell ⟨g, 2, none⟩ u2).setCell ⟨g, 3, none⟩ u3).setCell ⟨g, 4, none⟩ u4) size f A n c xs :=
  ((((h.far (p := ⟨g, 0, none⟩) hg u0).far (p := ⟨g, 1, none⟩) hg u1).far (p := ⟨g, 2, none⟩) hg u2).far (p := ⟨g, 3, none⟩) hg u3).far (p := ⟨g, 4, none⟩) hg u4
/-- the blocks of a room -/
def RBlk (A1 A2 A3 A4 A5 : Option Addr) (n1 n2 n3 n4 n5 : Nat) (r : Room) (b : Nat) : Prop := some b ∈ [blkOf A1 n1, blkOf A2 n2, blkOf A3 n3, blkOf A4 n4, blkOf A5 n5] ∨ rsBlk r.rs b
theorem RoomAt.turnB {S : Nat → Prop} {w w' : World} {A1 A2 A3 A4 A5 : Option Addr} {n1 c1 n2 c2 n3 c3 n4 c4 n5 c5 : Nat} {r : Room} (h : RoomAt w A1 A2 A3 A4 A5 n1 c1 n2 c2 n3 c3 n4 c4 n5 c5 r) (k : Turn S w w') (hs : ∀ b, RBlk A1 A2 A3 A4 A5 n1 n2 n3 n4 n5 r b → ¬ S b) : RoomAt w' A1 A2 A3 A4 A5 n1 c1 n2 c2 n3 c3 n4 c4 n5 c5 r :=
  ⟨h.s1.turn k (fun b hb => hs b (.inl (by simp [hb]))), h.s2.turn k (fun b hb => hs b (.inl (by simp [hb]))), h.s3.turn k (fun b hb => hs b (.inl (by simp [hb]))),
    h.s4.turn k (fun b hb => hs b (.inl (by simp [hb]))), h.s5.turn k (fun b hb => hs b (.inl (by simp [hb]))), fun q hq => (h.s6 q hq).turn k (fun b hb => hs b (.inr ⟨q, hq, hb⟩))⟩
theorem turn_set (w : World) (p : Addr) (u : Value) : Turn (fun b => b = p.block) w (w.setCell p u) := ⟨rfl, rfl, rfl, by simp, fun k _ hk => Below.heap_setCell w p u k hk⟩
theorem RoomAt.set5 {w : World} {A1 A2 A3 A4 A5 : Option Addr} {n1 c1 n2 c2 n3 c3 n4 c4 n5 c5 : Nat} {r : Room} (h : RoomAt w A1 A2 A3 A4 A5 n1 c1 n2 c2 n3 c3 n4 c4 n5 c5 r) {g : Nat} (hg : ∀ b, RBlk A1 A2 A3 A4 A5 n1 n2 n3 n4 n5 r b → b ≠ g) (u0 u1 u2 u3 u4 : Value) :
    RoomAt (((((w.setCell ⟨g, 0, none⟩ u0).setCell ⟨g, 1, none⟩ u1).setCell ⟨g, 2, none⟩ u2).setCell ⟨g, 3, none⟩ u3).setCell ⟨g, 4, none⟩ u4) A1 A2 A3 A4 A5 n1 c1 n2 c2 n3 c3 n4 c4 n5 c5 r :=
  ((((h.turnB (turn_set _ ⟨g, 0, none⟩ u0) hg).turnB (turn_set _ ⟨g, 1, none⟩ u1) hg).turnB (turn_set _ ⟨g, 2, none⟩ u2) hg).turnB (turn_set _ ⟨g, 3, none⟩ u3) hg).turnB (turn_set _ ⟨g, 4, none⟩ u4) hg
/-- a new room, as it is read -/
def RoomNw (R : Room) (w : World) (e : Ending) (w' : World) : Prop := ∃ (A1 A2 A3 A4 A5 : Option Addr) (n1 c1 n2 c2 n3 c3 n4 c4 n5 c5 : Nat) (r' : Room), e = .returned (.agg #[.slice A1 n1 c1, .slice A2 n2 c2, .slice A3 n3 c3, .slice A4 n4 c4, .slice A5 n5 c5]) ∧ RoomAt w' A1 A2 A3 A4 A5 n1 c1 n2 c2 n3 c3 n4 c4 n5 c5 r' ∧ r'.Like R ∧ (∀ b, RBlk A1 A2 A3 A4 A5 n1 n2 n3 n4 n5 r' b → w.heap.size ≤ b) ∧ Ext w w'
set_option maxHeartbeats 4000000 in
theorem c_l33New (A1 A2 : Option Addr) (n1 c1 n2 c2 : Nat) (ns : List Node) (ps : List Pipe) (A : Option Addr) (n c : Nat) (xs : List Contract) (w : World) (h1 : SliceOf w 3 Node.cells A1 n1 c1 ns) (h2 : SliceOf w 5 Pipe.cells A2 n2 c2 ps) (hs : SliceOf w 8 Contract.cells A n c xs) (m1 : n1 ≤ 1048576) (m2 : n2 ≤ 1048576) (m3 : n ≤ 1048576) :
    Calls Tryz.prog 44 #[.agg #[.slice A1 n1 c1, .slice A2 n2 c2], .slice A n c] w (RoomNw (newR ns ps xs) w) := by
  have x0 : Ext w ((w.alloc (.cells #[.slice A1 n1 c1, .slice A2 n2 c2] 27)).alloc (.cells #[.slice none 0 0, .slice none 0 0, .slice none 0 0, .slice none 0 0, .slice none 0 0] 32)) := (Ext.alloc _ _).and_alloc _
  go_enter Tryz.func44, Tryz.ntmps44
  go_wp2_with fail
  refine (c_l02Own A1 A2 n1 c1 n2 c2 ns ps _ (h1.ext x0) (h2.ext x0) m1 m2).mono ?_
  rintro e w1 ⟨B1, k1, d1, B2, k2, d2, rfl, o1, o2, b1, b2, hx1⟩
  have hz1 := hx1.size
  simp at hz1
  go_wp2_with (at_builtin; go_must (refine wpList_append_grow rfl _ _ 28 rfl (w1.heap.size) 68 _ 8 64 Tryz.underlying28 contract_info rfl (by decide) Contract.cells contract_len contract_one _ [] rfl (own_new w1 _ _ _ _ _ rfl (Nat.le_refl _)) A n c xs rfl (hs.ext ((x0.trans hx1).and_alloc _)) (by first | omega | (simp; omega)) (by omega) (by first | exact Nat.le_refl _ | omega | (simp; done) | (simp; omega)) ?_))
  intro v3 w3 o3 g3
  have hX3 := wp_ext_only (Ext.alloc w1 _) g3 (Nat.le_refl _)
  obtain ⟨B3, d3, rfl, p3, q3⟩ := o3.toA contract_len (by omega)
  have hx03 := hx1.trans hX3
  have hcl := hx03.cell
  have hfr := hx03.frozen
  have hz3 : w.heap.size + 1 < w3.heap.size := by have := hX3.size; omega
  have hz4 : w.heap.size < w3.heap.size := by omega
  go_wp2
  have f1 : ∀ b, blkOf B1 k1 = some b → b ≠ w.heap.size + 1 := fun b hb => by have := b1 b hb; simp at this; omega
  have f2 : ∀ b, blkOf B2 k2 = some b → b ≠ w.heap.size + 1 := fun b hb => by have := b2 b hb; simp at this; omega
  have f3 : ∀ b, blkOf B3 xs.length = some b → b ≠ w.heap.size + 1 := fun b hb => by have := q3 b hb; omega
  refine bodyPost_ret (v := .agg #[.slice B1 k1 d1, .slice B2 k2 d2, .slice B3 xs.length d3, .slice none 0 0, .slice (some ⟨w3.heap.size + 1, 0, none⟩) 1 1]) (by simp [results, Tryz.results44, go_sem, hcl, hz3, hz4]) rfl
    ⟨B1, B2, B3, none, some ⟨w3.heap.size + 1, 0, none⟩, k1, d1, k2, d2, _, d3, 0, 0, 1, 1, ⟨ns, ps, xs, [], [⟨some ⟨w3.heap.size, 0, none⟩, 0, 0, []⟩]⟩, rfl, ⟨?_, ?_, ?_, ?_, ?_, ?_⟩, ⟨rfl, rfl, rfl, rfl, rfl⟩, ?_, ?_⟩
  · exact ((o1.ext hX3).set5 f1 _ _ _ _ _).ext ((Ext.alloc _ _).and_alloc _)
  · exact ((o2.ext hX3).set5 f2 _ _ _ _ _).ext ((Ext.alloc _ _).and_alloc _)
  · exact ((p3.slice contract_len).set5 f3 _ _ _ _ _).ext ((Ext.alloc _ _).and_alloc _)
  · exact ⟨rfl, by omega, by simp [maxLen], fun h => absurd h (by omega)⟩
  · refine OwnA.slice (t := 72) ⟨rfl, by omega, by omega, fun _ => ⟨w3.heap.size + 1, rfl, [], Row.new' (by simp)⟩⟩ rs_len
  · intro q hq
    simp at hq
    subst hq
    exact ⟨rfl, Nat.le_refl _, by simp [maxLen], fun h => absurd h (Nat.lt_irrefl 0)⟩
  · rintro b (hb | ⟨q, hq, hb⟩)
    · simp only [List.mem_cons, List.not_mem_nil, or_false] at hb
      rcases hb with hb | hb | hb | hb | hb
      · have := b1 b hb.symm; simp at this; omega
      · have := b2 b hb.symm; simp at this; omega
      · have := q3 b hb.symm; omega
      · exact absurd hb.symm (blk_zero _ _)
      · simp [blkOf] at hb; omega
    · simp at hq
      subst hq
      exact absurd hb (blk_zero _ _)
  · refine Ext.and_alloc (Ext.and_alloc ?_ _) _
    repeat (refine Ext.setCell ?_ (by first | (simp; done) | (simp; omega) | omega) _)
    exact x0.trans hx03
def zeroR : Room := ⟨[], [], [], [], []⟩
def newRR (n1 : Int) (ns : List Node) (ps : List Pipe) (xs : List Contract) : Room × Int := if (netB ns ps && bookB n1 xs) = true then (newR ns ps xs, 0) else (zeroR, 1)
/-- a room in blocks of its own, and a code -/
def RetRC (R : Room × Int) (w : World) (e : Ending) (w' : World) : Prop :=
  ∃ (A1 A2 A3 A4 A5 : Option Addr) (n1 c1 n2 c2 n3 c3 n4 c4 n5 c5 : Nat) (r' : Room), e = .returned (.tuple #[.agg #[.slice A1 n1 c1, .slice A2 n2 c2, .slice A3 n3 c3, .slice A4 n4 c4, .slice A5 n5 c5], .int .i64 R.2]) ∧ ROwn w' w.heap.size w'.heap.size A1 A2 A3 A4 A5 n1 c1 n2 c2 n3 c3 n4 c4 n5 c5 r' ∧ r'.Like R.1 ∧ Ext w w'
/-- a room, and a code -/
def RoomC (R : Room × Int) (w : World) (e : Ending) (w' : World) : Prop :=
  ∃ (A1 A2 A3 A4 A5 : Option Addr) (n1 c1 n2 c2 n3 c3 n4 c4 n5 c5 : Nat) (r' : Room), e = .returned (.tuple #[.agg #[.slice A1 n1 c1, .slice A2 n2 c2, .slice A3 n3 c3, .slice A4 n4 c4, .slice A5 n5 c5], .int .i64 R.2]) ∧ RoomAt w' A1 A2 A3 A4 A5 n1 c1 n2 c2 n3 c3 n4 c4 n5 c5 r' ∧ r'.Like R.1 ∧ Ext w w'
theorem zero_own (w : World) (lo hi : Nat) : ROwn w lo hi none none none none none 0 0 0 0 0 0 0 0 0 0 zeroR := by
  have z : ∀ {α : Type} (t : TypeId) (f : α → List Value), OwnA w t f none 0 0 [] := fun t f => ⟨rfl, by omega, by omega, fun h => absurd h (by omega)⟩
  refine ⟨z _ _, z _ _, z _ _, z _ _, z _ _, fun q hq => by simp [zeroR] at hq, ?_, ?_, ?_, ?_, ?_⟩
  · exact sepP (fun b h _ => blk_zero _ _ h) (fun b h _ => blk_zero _ _ h) (fun b h _ => blk_zero _ _ h) (fun b h _ => blk_zero _ _ h) (fun b h _ => blk_zero _ _ h) (fun b h _ => blk_zero _ _ h) (fun b h _ => blk_zero _ _ h) (fun b h _ => blk_zero _ _ h) (fun b h _ => blk_zero _ _ h) (fun b h _ => blk_zero _ _ h)
  · intro i j b _ hi
    simp [zeroR] at hi
  · rintro b _ ⟨q, hq, _⟩
    simp [zeroR] at hq
  · intro b hb
    simp [blkOf] at hb
  · rintro b ⟨q, hq, _⟩
    simp [zeroR] at hq
theorem ROwn.set5 {w : World} {lo hi : Nat} {A1 A2 A3 A4 A5 : Option Addr} {n1 c1 n2 c2 n3 c3 n4 c4 n5 c5 : Nat} {r : Room} (h : ROwn w lo hi A1 A2 A3 A4 A5 n1 c1 n2 c2 n3 c3 n4 c4 n5 c5 r) {g : Nat} (hg : g < lo ∨ hi ≤ g) (u0 u1 u2 u3 u4 : Value) :
    ROwn (((((w.setCell ⟨g, 0, none⟩ u0).setCell ⟨g, 1, none⟩ u1).setCell ⟨g, 2, none⟩ u2).setCell ⟨g, 3, none⟩ u3).setCell ⟨g, 4, none⟩ u4) lo hi A1 A2 A3 A4 A5 n1 c1 n2 c2 n3 c3 n4 c4 n5 c5 r := by
  have one : ∀ {w : World} (p : Addr) (u : Value), p.block = g → ROwn w lo hi A1 A2 A3 A4 A5 n1 c1 n2 c2 n3 c3 n4 c4 n5 c5 r → ROwn (w.setCell p u) lo hi A1 A2 A3 A4 A5 n1 c1 n2 c2 n3 c3 n4 c4 n5 c5 r := fun {w} p u hp h => h.turn (S := fun b => b = p.block) ⟨rfl, rfl, rfl, by simp, fun k _ hk => Below.heap_setCell w p u k hk⟩ (fun b hb => by omega)
  exact one _ _ rfl (one _ _ rfl (one _ _ rfl (one _ _ rfl (one _ _ rfl h))))
theorem ROwn.wider {w : World} {lo hi lo' hi' : Nat} {A1 A2 A3 A4 A5 : Option Addr} {n1 c1 n2 c2 n3 c3 n4 c4 n5 c5 : Nat} {r : Room} (h : ROwn w lo hi A1 A2 A3 A4 A5 n1 c1 n2 c2 n3 c3 n4 c4 n5 c5 r) (h1 : lo' ≤ lo) (h2 : hi ≤ hi') : ROwn w lo' hi' A1 A2 A3 A4 A5 n1 c1 n2 c2 n3 c3 n4 c4 n5 c5 r :=
  ⟨h.o1, h.o2, h.o3, h.o4, h.o5, h.o6, h.ff, h.rr, h.fr, fun b hb => by have := h.rf b hb; omega, fun b hb => by have := h.rq b hb; omega⟩
end Go.Proofs.YtjpmiokbgpggbaaGreat

namespace Go.Proofs.YtjpmiokbgpggbaaGreat
open Go.RowKit
theorem newRR_no {n1 : Int} {ns : List Node} {ps : List Pipe} {xs : List Contract} (h : (netB ns ps && bookB n1 xs) = false) : newRR n1 ns ps xs = (zeroR, 1) := by unfold newRR; rw [h]; rfl
theorem newRR_yes {n1 : Int} {ns : List Node} {ps : List Pipe} {xs : List Contract} (h : (netB ns ps && bookB n1 xs) = true) : newRR n1 ns ps xs = (newR ns ps xs, 0) := by unfold newRR; rw [if_pos h]
/-- a room and a code; the room's blocks are new -/
def RoomC2 (R : Room × Int) (w : World) (e : Ending) (w' : World) : Prop :=
  ∃ (A1 A2 A3 A4 A5 : Option Addr) (n1 c1 n2 c2 n3 c3 n4 c4 n5 c5 : Nat) (r' : Room), e = .returned (.tuple #[.agg #[.slice A1 n1 c1, .slice A2 n2 c2, .slice A3 n3 c3, .slice A4 n4 c4, .slice A5 n5 c5], .int .i64 R.2]) ∧ RoomAt w' A1 A2 A3 A4 A5 n1 c1 n2 c2 n3 c3 n4 c4 n5 c5 r' ∧ r'.Like R.1 ∧ (∀ b, RBlk A1 A2 A3 A4 A5 n1 n2 n3 n4 n5 r' b → w.heap.size ≤ b) ∧ Ext w w'
theorem zero_blk (b : Nat) : ¬ RBlk none none none none none 0 0 0 0 0 zeroR b := by
  rintro (hb | ⟨q, hq, hb⟩)
  · simp [blkOf] at hb
  · simp [zeroR] at hq
set_option maxHeartbeats 2000000 in
theorem c_specNewRoom2 (A1 A2 : Option Addr) (n1 c1 n2 c2 : Nat) (ns : List Node) (ps : List Pipe) (A : Option Addr) (n c : Nat) (xs : List Contract) (w : World) (h1 : SliceOf w 3 Node.cells A1 n1 c1 ns) (h2 : SliceOf w 5 Pipe.cells A2 n2 c2 ps) (hs : SliceOf w 8 Contract.cells A n c xs) (m1 : n1 ≤ 1048576) (m2 : n2 ≤ 1048576) (m3 : n ≤ 1048576) (hnm : ∀ x ∈ ns, x.name.size ≤ 1048576) :
    Calls Tryz.prog 68 #[.agg #[.slice A1 n1 c1, .slice A2 n2 c2], .slice A n c] w (RoomC2 (newRR n1 ns ps xs) w) := by
  have x0 : Ext w ((w.alloc (.cells #[.slice A1 n1 c1, .slice A2 n2 c2] 27)).alloc (.cells #[.slice none 0 0, .slice none 0 0, .slice none 0 0, .slice none 0 0, .slice none 0 0] 32)) := (Ext.alloc _ _).and_alloc _
  have HNM := hide hnm
  clear hnm
  cases hb : (netB ns ps && bookB n1 xs)
  · have HR := hide (newRR_no hb)
    go_enter Tryz.func68, Tryz.ntmps68
    go_wp2_with fail
    refine (c_specIsBook A1 A2 n1 c1 n2 c2 ns ps A n c xs _ (h1.ext x0) (h2.ext x0) (hs.ext x0) HNM.out).mono ?_
    rw [hb]
    rintro e w1 ⟨rfl, hx1⟩
    have hcl := hx1.cell
    have hfr := hx1.frozen
    have hz1 := hx1.size
    simp at hz1
    have hz2 : w.heap.size + 1 < w1.heap.size := by omega
    go_wp2
    rw [HR.out]
    refine bodyPost_ret (v := .tuple #[.agg #[.slice none 0 0, .slice none 0 0, .slice none 0 0, .slice none 0 0, .slice none 0 0], .int .i64 1]) (by simp [results, Tryz.results68, go_sem, hcl]) rfl
      ⟨_, _, _, _, _, _, _, _, _, _, _, _, _, _, _, zeroR, rfl, (zero_own _ 0 0).at_, ⟨rfl, rfl, rfl, rfl, rfl⟩, fun b hb => absurd hb (zero_blk b), ?_⟩
    repeat (refine Ext.setCell ?_ (by first | (simp; done) | (simp; omega) | omega) _)
    exact x0.trans hx1
  · have HR := hide (newRR_yes hb)
    go_enter Tryz.func68, Tryz.ntmps68
    go_wp2_with fail
    refine (c_specIsBook A1 A2 n1 c1 n2 c2 ns ps A n c xs _ (h1.ext x0) (h2.ext x0) (hs.ext x0) HNM.out).mono ?_
    rw [hb]
    rintro e w1 ⟨rfl, hx1⟩
    have hcl := hx1.cell
    have hz1 := hx1.size
    simp at hz1
    have hz2 : w.heap.size < w1.heap.size := by omega
    go_wp2_with fail
    refine (c_l33New A1 A2 n1 c1 n2 c2 ns ps A n c xs _ (h1.ext (x0.trans hx1)) (h2.ext (x0.trans hx1)) (hs.ext (x0.trans hx1)) m1 m2 m3).mono ?_
    rintro e w2 ⟨B1, B2, B3, B4, B5, k1, d1, k2, d2, k3, d3, k4, d4, k5, d5, r', rfl, ho, hl, hbk, hx2⟩
    clear hcl hz2
    have hx02 := hx1.trans hx2
    have hcl := hx02.cell
    have hfr := hx02.frozen
    have hz3 := hx2.size
    have hz2 : w.heap.size + 1 < w2.heap.size := by omega
    go_wp2
    rw [HR.out]
    refine bodyPost_ret (v := .tuple #[.agg #[.slice B1 k1 d1, .slice B2 k2 d2, .slice B3 k3 d3, .slice B4 k4 d4, .slice B5 k5 d5], .int .i64 0]) (by simp [results, Tryz.results68, go_sem, hcl]) rfl
      ⟨_, _, _, _, _, _, _, _, _, _, _, _, _, _, _, r', rfl, ho.set5 (fun b hb => by have := hbk b hb; omega) _ _ _ _ _, hl, fun b hb => by have := hbk b hb; have := (x0.trans hx1).size; omega, ?_⟩
    repeat (refine Ext.setCell ?_ (by first | (simp; done) | (simp; omega) | omega) _)
    exact x0.trans hx02
theorem c_specNewRoom (A1 A2 : Option Addr) (n1 c1 n2 c2 : Nat) (ns : List Node) (ps : List Pipe) (A : Option Addr) (n c : Nat) (xs : List Contract) (w : World) (h1 : SliceOf w 3 Node.cells A1 n1 c1 ns) (h2 : SliceOf w 5 Pipe.cells A2 n2 c2 ps) (hs : SliceOf w 8 Contract.cells A n c xs) (m1 : n1 ≤ 1048576) (m2 : n2 ≤ 1048576) (m3 : n ≤ 1048576) (hnm : ∀ x ∈ ns, x.name.size ≤ 1048576) :
    Calls Tryz.prog 68 #[.agg #[.slice A1 n1 c1, .slice A2 n2 c2], .slice A n c] w (RoomC (newRR n1 ns ps xs) w) :=
  (c_specNewRoom2 A1 A2 n1 c1 n2 c2 ns ps A n c xs w h1 h2 hs m1 m2 m3 hnm).mono fun _ _ ⟨B1, B2, B3, B4, B5, k1, d1, k2, d2, k3, d3, k4, d4, k5, d5, r', he, ha, hl, _, hx⟩ => ⟨B1, B2, B3, B4, B5, k1, d1, k2, d2, k3, d3, k4, d4, k5, d5, r', he, ha, hl, hx⟩
end Go.Proofs.YtjpmiokbgpggbaaGreat

namespace Go.Proofs.YtjpmiokbgpggbaaGreat
open Go.RowKit

/-- a slice of the call's own, and a code -/
def RetS {α : Type} (t : TypeId) (f : α → List Value) (r : List α × Int) (w : World) (e : Ending) (w' : World) : Prop :=
  ∃ A n c g, e = .returned (.tuple #[.slice A n c, .int .i64 r.2]) ∧ n ≤ c ∧ c ≤ 9223372036854775807 ∧ w.heap.size ≤ g ∧ OwnS w' g t f A n r.1 ∧ Ext w w'
theorem RetS.nil_ {α : Type} {t : TypeId} {f : α → List Value} {r : List α × Int} {k : Int} {w w' : World} (h : r = ([], k)) (hx : Ext w w') : RetS t f r w (.returned (.tuple #[.slice none 0 0, .int .i64 k])) w' := by
  subst h
  exact ⟨none, 0, 0, w.heap.size, rfl, Nat.le_refl _, by omega, Nat.le_refl _, OwnS.nil, hx⟩
theorem RetS.row {α : Type} {t : TypeId} {f : α → List Value} {r : List α × Int} {xs : List α} {k : Int} {w w' : World} {g n : Nat} (h : r = (xs, k)) (hn : n = xs.length) (hm : n ≤ 9223372036854775807) (hg : w.heap.size ≤ g) (hr : RowOf w' g t f xs) (hx : Ext w w') :
    RetS t f r w (.returned (.tuple #[.slice (some ⟨g, 0, none⟩) n n, .int .i64 k])) w' := by
  subst h
  subst hn
  exact ⟨_, _, _, g, rfl, Nat.le_refl _, hm, hg, OwnS.of_row hr, hx⟩




end Go.Proofs.YtjpmiokbgpggbaaGreat
