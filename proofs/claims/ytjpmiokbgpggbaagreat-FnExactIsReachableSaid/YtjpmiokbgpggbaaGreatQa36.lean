/-
  NewRoom of the program and of the reference. Events: validity, of the program and of the reference (over the helpers' record of an event).
-/
import Derived.Test.YtjpmiokbgpggbaaGreatQa30
import Derived.Test.YtjpmiokbgpggbaaGreatQa03
import Derived.Test.YtjpmiokbgpggbaaGreatQa16
namespace Go.Proofs.YtjpmiokbgpggbaaGreat
open Go.RowKit
theorem SliceOf.far {α : Type} {w : World} {size : Nat} {f : α → List Value} {A : Option Addr} {n c : Nat} {xs : List α} (h : SliceOf w size f A n c xs) {p : Addr} (hp : ∀ b, blkOf A n = some b → b ≠ p.block) (u : Value) : SliceOf (w.setCell p u) size f A n c xs := by
  refine h.turn (S := fun b => b = p.block) ⟨rfl, rfl, rfl, by simp, fun k _ hk => Below.heap_setCell w p u k hk⟩ hp
theorem SliceOf.set5 {α : Type} {w : World} {size : Nat} {f : α → List Value} {A : Option Addr} {n c : Nat} {xs : List α} (h : SliceOf w size f A n c xs) {g : Nat} (hg : ∀ b, blkOf A n = some b → b ≠ g) (u0 u1 u2 u3 u4 : Value) :
    SliceOf (((((w.setCell ⟨g, 0, none⟩ u0).setCell ⟨g, 1, none⟩ u1).setCell ⟨g, 2, none⟩ u2).setCell ⟨g, 3, none⟩ u3).setCell ⟨g, 4, none⟩ u4) size f A n c xs :=
  ((((h.far (p := ⟨g, 0, none⟩) hg u0).far (p := ⟨g, 1, none⟩) hg u1).far (p := ⟨g, 2, none⟩) hg u2).far (p := ⟨g, 3, none⟩) hg u3).far (p := ⟨g, 4, none⟩) hg u4
/-- the blocks of a room -/
def RBlk (A1 A2 A3 A4 A5 : Option Addr) (n1 n2 n3 n4 n5 : Nat) (r : Room) (b : Nat) : Prop := some b ∈ [blkOf A1 n1, blkOf A2 n2, blkOf A3 n3, blkOf A4 n4, blkOf A5 n5] ∨ rsBlk r.rs b
theorem RoomAt.turnB {S : Nat → Prop} {w w' : World} {A1 A2 A3 A4 A5 : Option Addr} {n1 c1 n2 c2 n3 c3 n4 c4 n5 c5 : Nat} {r : Room} (h : RoomAt w A1 A2 A3 A4 A5 n1 c1 n2 c2 n3 c3 n4 c4 n5 c5 r) (k : Turn S w w') (hs : ∀ b, RBlk A1 A2 A3 A4 A5 n1 n2 n3 n4 n5 r b → ¬ S b) : RoomAt w' A1 A2 A3 A4 A5 n1 c1 n2 c2 n3 c3 n4 c4 n5 c5 r :=
  ⟨h.s1.turn k (fun b hb => hs b (.inl (by simp [hb]))), h.s2.turn k (fun b hb => hs b (.inl (by simp [hb]))), h.s3.turn k (fun b hb => hs b (.inl (by simp [hb]))),
    h.s4.turn k (fun b hb => hs b (.inl (by simp [hb]))), h.s5.turn k (fun b hb => hs b (.inl (by simp [hb]))), fun q hq => (h.s6 q hq).turn k (fun b hb => hs b (.inr ⟨q, hq, hb⟩))⟩
theorem turn_set (w : World) (p : Addr) (u : Value) : Turn (fun b => b = p.block) w (w.setCell p u) := ⟨rfl, rfl, rfl, by simp, fun k _ hk => Below.heap_setCell w p u k hk⟩
theorem RoomAt.set5 {w : World} {A1 A2 A3 A4 A5 : Option Addr} {n1 c1 n2 c2 n3 c3 n4 c4 n5 c5 : Nat} {r : Room} (h : RoomAt w A1 A2 A3 A4 A5 n1 c1 n2 c2 n3 c3 n4 c4 n5 c5 r) {g : Nat} (hg : ∀ b, RBlk A1 A2 A3 A4 A5 n1 n2 n3 n4 n5 r b → b ≠ g) (u0 u1 u2 u3 u4 : Value) :
    RoomAt (((((w.setCell ⟨g, 0, none⟩ u0).setCell ⟨g, 1, none⟩ u1).setCell ⟨g, 2, none⟩ u2).setCell ⟨g, 3, none⟩ u3).setCell ⟨g, 4, none⟩ u4) A1 A2 A3 A4 A5 n1 c1 n2 c2 n3 c3 n4 c4 n5 c5 r :=
  ((((h.turnB (turn_set _ ⟨g, 0, none⟩ u0) hg).turnB (turn_set _ ⟨g, 1, none⟩ u1) hg).turnB (turn_set _ ⟨g, 2, none⟩ u2) hg).turnB (turn_set _ ⟨g, 3, none⟩ u3) hg).turnB (turn_set _ ⟨g, 4, none⟩ u4) hg
/-- a new room, as it is read -/
def RoomNw (R : Room) (w : World) (e : Ending) (w' : World) : Prop := ∃ (A1 A2 A3 A4 A5 : Option Addr) (n1 c1 n2 c2 n3 c3 n4 c4 n5 c5 : Nat) (r' : Room), e = .returned (.agg #[.slice A1 n1 c1, .slice A2 n2 c2, .slice A3 n3 c3, .slice A4 n4 c4, .slice A5 n5 c5]) ∧ RoomAt w' A1 A2 A3 A4 A5 n1 c1 n2 c2 n3 c3 n4 c4 n5 c5 r' ∧ r'.Like R ∧ (∀ b, RBlk A1 A2 A3 A4 A5 n1 n2 n3 n4 n5 r' b → w.heap.size ≤ b) ∧ Ext w w'
set_option maxHeartbeats 4000000 in
theorem c_l33New (A1 A2 : Option Addr) (n1 c1 n2 c2 : Nat) (ns : List Node) (ps : List Pipe) (A : Option Addr) (n c : Nat) (xs : List Contract) (w : World) (h1 : SliceOf w 3 Node.cells A1 n1 c1 ns) (h2 : SliceOf w 5 Pipe.cells A2 n2 c2 ps) (hs : SliceOf w 8 Contract.cells A n c xs) (m1 : n1 ≤ 1048576) (m2 : n2 ≤ 1048576) (m3 : n ≤ 1048576) :
    Calls Tryz.prog 44 #[.agg #[.slice A1 n1 c1, .slice A2 n2 c2], .slice A n c] w (RoomNw (newR ns ps xs) w) := by
  have x0 : Ext w ((w.alloc (.cells #[.slice A1 n1 c1, .slice A2 n2 c2] 27)).alloc (.cells #[.slice none 0 0, .slice none 0 0, .slice none 0 0, .slice none 0 0, .slice none 0 0] 32)) := (Ext.alloc _ _).and_alloc _
  go_enter Tryz.func44, Tryz.ntmps44
  go_wp2_with fail
  refine (c_l02Own A1 A2 n1 c1 n2 c2 ns ps _ (h1.ext x0) (h2.ext x0) m1 m2).mono ?_
  rintro e w1 ⟨B1, k1, d1, B2, k2, d2, rfl, o1, o2, b1, b2, hx1⟩
  have hz1 := hx1.size
  simp at hz1
  go_wp2_with (at_builtin; go_must (refine wpList_append_grow rfl _ _ 28 rfl (w1.heap.size) 68 _ 8 64 Tryz.underlying28 contract_info rfl (by decide) Contract.cells contract_len contract_one _ [] rfl (own_new w1 _ _ _ _ _ rfl (Nat.le_refl _)) A n c xs rfl (hs.ext ((x0.trans hx1).and_alloc _)) (by first | omega | (simp; omega)) (by omega) (by first | exact Nat.le_refl _ | omega | (simp; done) | (simp; omega)) ?_))
  intro v3 w3 o3 g3
  have hX3 := wp_ext_only (Ext.alloc w1 _) g3 (Nat.le_refl _)
  obtain ⟨B3, d3, rfl, p3, q3⟩ := o3.toA contract_len (by omega)
  have hx03 := hx1.trans hX3
  have hcl := hx03.cell
  have hfr := hx03.frozen
  have hz3 : w.heap.size + 1 < w3.heap.size := by have := hX3.size; omega
  have hz4 : w.heap.size < w3.heap.size := by omega
  go_wp2
  have f1 : ∀ b, blkOf B1 k1 = some b → b ≠ w.heap.size + 1 := fun b hb => by have := b1 b hb; simp at this; omega
  have f2 : ∀ b, blkOf B2 k2 = some b → b ≠ w.heap.size + 1 := fun b hb => by have := b2 b hb; simp at this; omega
  have f3 : ∀ b, blkOf B3 xs.length = some b → b ≠ w.heap.size + 1 := fun b hb => by have := q3 b hb; omega
  refine bodyPost_ret (v := .agg #[.slice B1 k1 d1, .slice B2 k2 d2, .slice B3 xs.length d3, .slice none 0 0, .slice (some ⟨w3.heap.size + 1, 0, none⟩) 1 1]) (by simp [results, Tryz.results44, go_sem, hcl, hz3, hz4]) rfl
    ⟨B1, B2, B3, none, some ⟨w3.heap.size + 1, 0, none⟩, k1, d1, k2, d2, _, d3, 0, 0, 1, 1, ⟨ns, ps, xs, [], [⟨some ⟨w3.heap.size, 0, none⟩, 0, 0, []⟩]⟩, rfl, ⟨?_, ?_, ?_, ?_, ?_, ?_⟩, ⟨rfl, rfl, rfl, rfl, rfl⟩, ?_, ?_⟩
  · exact ((o1.ext hX3).set5 f1 _ _ _ _ _).ext ((Ext.alloc _ _).and_alloc _)
  · exact ((o2.ext hX3).set5 f2 _ _ _ _ _).ext ((Ext.alloc _ _).and_alloc _)
  · exact ((p3.slice contract_len).set5 f3 _ _ _ _ _).ext ((Ext.alloc _ _).and_alloc _)
  · exact ⟨rfl, by omega, by simp [maxLen], fun h => absurd h (by omega)⟩
  · refine OwnA.slice (t := 72) ⟨rfl, by omega, by omega, fun _ => ⟨w3.heap.size + 1, rfl, [], Row.new' (by simp)⟩⟩ rs_len
  · intro q hq
    simp at hq
    subst hq
    exact ⟨rfl, Nat.le_refl _, by simp [maxLen], fun h => absurd h (Nat.lt_irrefl 0)⟩
  · rintro b (hb | ⟨q, hq, hb⟩)
    · simp only [List.mem_cons, List.not_mem_nil, or_false] at hb
      rcases hb with hb | hb | hb | hb | hb
      · have := b1 b hb.symm; simp at this; omega
      · have := b2 b hb.symm; simp at this; omega
      · have := q3 b hb.symm; omega
      · exact absurd hb.symm (blk_zero _ _)
      · simp [blkOf] at hb; omega
    · simp at hq
      subst hq
      exact absurd hb (blk_zero _ _)
  · refine Ext.and_alloc (Ext.and_alloc ?_ _) _
    repeat (refine Ext.setCell ?_ (by first | (simp; done) | (simp; omega) | omega) _)
    exact x0.trans hx03
def zeroR : Room := ⟨[], [], [], [], []⟩
def newRR (n1 : Int) (ns : List Node) (ps : List Pipe) (xs : List Contract) : Room × Int := if (netB ns ps && bookB n1 xs) = true then (newR ns ps xs, 0) else (zeroR, 1)
/-- a room in blocks of its own, and a code -/
def RetRC (R : Room × Int) (w : World) (e : Ending) (w' : World) : Prop :=
  ∃ (A1 A2 A3 A4 A5 : Option Addr) (n1 c1 n2 c2 n3 c3 n4 c4 n5 c5 : Nat) (r' : Room), e = .returned (.tuple #[.agg #[.slice A1 n1 c1, .slice A2 n2 c2, .slice A3 n3 c3, .slice A4 n4 c4, .slice A5 n5 c5], .int .i64 R.2]) ∧ ROwn w' w.heap.size w'.heap.size A1 A2 A3 A4 A5 n1 c1 n2 c2 n3 c3 n4 c4 n5 c5 r' ∧ r'.Like R.1 ∧ Ext w w'
/-- a room, and a code -/
def RoomC (R : Room × Int) (w : World) (e : Ending) (w' : World) : Prop :=
  ∃ (A1 A2 A3 A4 A5 : Option Addr) (n1 c1 n2 c2 n3 c3 n4 c4 n5 c5 : Nat) (r' : Room), e = .returned (.tuple #[.agg #[.slice A1 n1 c1, .slice A2 n2 c2, .slice A3 n3 c3, .slice A4 n4 c4, .slice A5 n5 c5], .int .i64 R.2]) ∧ RoomAt w' A1 A2 A3 A4 A5 n1 c1 n2 c2 n3 c3 n4 c4 n5 c5 r' ∧ r'.Like R.1 ∧ Ext w w'
theorem zero_own (w : World) (lo hi : Nat) : ROwn w lo hi none none none none none 0 0 0 0 0 0 0 0 0 0 zeroR := by
  have z : ∀ {α : Type} (t : TypeId) (f : α → List Value), OwnA w t f none 0 0 [] := fun t f => ⟨rfl, by omega, by omega, fun h => absurd h (by omega)⟩
  refine ⟨z _ _, z _ _, z _ _, z _ _, z _ _, fun q hq => by simp [zeroR] at hq, ?_, ?_, ?_, ?_, ?_⟩
  · exact sepP (fun b h _ => blk_zero _ _ h) (fun b h _ => blk_zero _ _ h) (fun b h _ => blk_zero _ _ h) (fun b h _ => blk_zero _ _ h) (fun b h _ => blk_zero _ _ h) (fun b h _ => blk_zero _ _ h) (fun b h _ => blk_zero _ _ h) (fun b h _ => blk_zero _ _ h) (fun b h _ => blk_zero _ _ h) (fun b h _ => blk_zero _ _ h)
  · intro i j b _ hi
    simp [zeroR] at hi
  · rintro b _ ⟨q, hq, _⟩
    simp [zeroR] at hq
  · intro b hb
    simp [blkOf] at hb
  · rintro b ⟨q, hq, _⟩
    simp [zeroR] at hq
theorem ROwn.set5 {w : World} {lo hi : Nat} {A1 A2 A3 A4 A5 : Option Addr} {n1 c1 n2 c2 n3 c3 n4 c4 n5 c5 : Nat} {r : Room} (h : ROwn w lo hi A1 A2 A3 A4 A5 n1 c1 n2 c2 n3 c3 n4 c4 n5 c5 r) {g : Nat} (hg : g < lo ∨ hi ≤ g) (u0 u1 u2 u3 u4 : Value) :
    ROwn (((((w.setCell ⟨g, 0, none⟩ u0).setCell ⟨g, 1, none⟩ u1).setCell ⟨g, 2, none⟩ u2).setCell ⟨g, 3, none⟩ u3).setCell ⟨g, 4, none⟩ u4) lo hi A1 A2 A3 A4 A5 n1 c1 n2 c2 n3 c3 n4 c4 n5 c5 r := by
  have one : ∀ {w : World} (p : Addr) (u : Value), p.block = g → ROwn w lo hi A1 A2 A3 A4 A5 n1 c1 n2 c2 n3 c3 n4 c4 n5 c5 r → ROwn (w.setCell p u) lo hi A1 A2 A3 A4 A5 n1 c1 n2 c2 n3 c3 n4 c4 n5 c5 r := fun {w} p u hp h => h.turn (S := fun b => b = p.block) ⟨rfl, rfl, rfl, by simp, fun k _ hk => Below.heap_setCell w p u k hk⟩ (fun b hb => by omega)
  exact one _ _ rfl (one _ _ rfl (one _ _ rfl (one _ _ rfl (one _ _ rfl h))))
theorem ROwn.wider {w : World} {lo hi lo' hi' : Nat} {A1 A2 A3 A4 A5 : Option Addr} {n1 c1 n2 c2 n3 c3 n4 c4 n5 c5 : Nat} {r : Room} (h : ROwn w lo hi A1 A2 A3 A4 A5 n1 c1 n2 c2 n3 c3 n4 c4 n5 c5 r) (h1 : lo' ≤ lo) (h2 : hi ≤ hi') : ROwn w lo' hi' A1 A2 A3 A4 A5 n1 c1 n2 c2 n3 c3 n4 c4 n5 c5 r :=
  ⟨h.o1, h.o2, h.o3, h.o4, h.o5, h.o6, h.ff, h.rr, h.fr, fun b hb => by have := h.rf b hb; omega, fun b hb => by have := h.rq b hb; omega⟩
end Go.Proofs.YtjpmiokbgpggbaaGreat

namespace Go.Proofs.YtjpmiokbgpggbaaGreat
open Go.RowKit
def flowB (z : Int) : Bool := inB z (-30000) 30000
def evB (p : Event) : Bool := inB p.kind 1 3 && flowB p.a && flowB p.b && flowB p.c && flowB p.d
theorem evB_facts {p : Event} (h : evB p = true) : (p.kind = 1 ∨ p.kind = 2 ∨ p.kind = 3) ∧ (-30000 ≤ p.a ∧ p.a ≤ 30000) ∧ (-30000 ≤ p.b ∧ p.b ≤ 30000) ∧ (-30000 ≤ p.c ∧ p.c ≤ 30000) ∧ (-30000 ≤ p.d ∧ p.d ≤ 30000) := by
  simp only [evB, flowB, Bool.and_eq_true, inB_true] at h
  omega
theorem Row.new1 (w : World) (o : Obj) (t : TypeId) (cs : List Value) : Row ((w.alloc o).alloc (.cells cs.toArray t)) (w.heap.size + 1) t cs := by
  have h := Row.new (w.alloc o) t cs
  rwa [show (w.alloc o).heap.size = w.heap.size + 1 by simp] at h
set_option maxHeartbeats 1000000 in
theorem c_IsEvent (p : Event) (w : World) :
    Calls Tryz.prog 25 #[.agg #[.int .i64 p.kind, .int .i64 p.a, .int .i64 p.b, .int .i64 p.c, .int .i64 p.d]] w (Ret (.bool (evB p)) w) := by
  obtain ⟨k, a, b, c, d⟩ := p
  go_enter Tryz.func25, Tryz.ntmps25
  cases hk : inB k 1 3
  · go_wp2_with (first | (go_at_call 32; refine (c_within _ _ _ _).mono ?_; rintro e w' ⟨rfl, rfl⟩))
    go_ret
    refine Ret.bool ?_ (Ext.alloc _ _)
    simp_all [evB]
  · go_wp2_with (first | (go_at_call 32; refine (c_within _ _ _ _).mono ?_; rintro e w' ⟨rfl, rfl⟩))
    have hS := Row.new1 w (.cells #[.int .i64 k, .int .i64 a, .int .i64 b, .int .i64 c, .int .i64 d] 34) 2 [.int .i64 a, .int .i64 b, .int .i64 c, .int .i64 d]
    refine (c_allWithin _ 4 4 [a, b, c, d] (-30000) 30000 _ (RowOf.slice (f := intC) (xs := [a, b, c, d]) hS intC_len rfl (by omega))).mono ?_
    rintro e w' ⟨rfl, rfl⟩
    go_wp2_with fail
    go_ret
    refine Ret.bool ?_ ((Ext.alloc _ _).and_alloc _)
    simp [evB, allB, flowB, hk, Bool.and_assoc]
set_option maxHeartbeats 1000000 in
theorem c_specIsEvent (p : Event) (w : World) :
    Calls Tryz.prog 27 #[.agg #[.int .i64 p.kind, .int .i64 p.a, .int .i64 p.b, .int .i64 p.c, .int .i64 p.d]] w (Ret (.bool (evB p)) w) := by
  obtain ⟨k, a, b, c, d⟩ := p
  go_enter Tryz.func27, Tryz.ntmps27
  go_wp2_with (first | (go_at_call 37; refine (c_l01In _ _ _ _).mono ?_; rintro e w' ⟨rfl, rfl⟩) | (go_at_call 75; refine (c_l05Flow _ _).mono ?_; rintro e w' ⟨rfl, rfl⟩))
  all_goals
    go_ret
    refine Ret.bool ?_ (Ext.alloc _ _)
    simp_all [evB, flowB]
end Go.Proofs.YtjpmiokbgpggbaaGreat
