



/-
  A copy of a room lies in blocks of its own.
-/
import Derived.Test.YtjpmiokbgpggbaaRoomO
import Derived.Test.YtjpmiokbgpggbaaEvH
namespace Go.Proofs.Ytjpmiokbgpggbaa
open Go.RowKit
theorem blk_some {g n b : Nat} (h : blkOf (some ⟨g, 0, none⟩) n = some b) : b = g := by
  unfold blkOf at h
  split at h
  · cases h
  · simp at h; exact h.symm
theorem sep5 {x1 x2 x3 x4 x5 : Option Nat} {g1 g2 g3 g4 g5 : Nat} (k1 : ∀ b, x1 = some b → b = g1) (k2 : ∀ b, x2 = some b → b = g2) (k3 : ∀ b, x3 = some b → b = g3) (k4 : ∀ b, x4 = some b → b = g4) (k5 : ∀ b, x5 = some b → b = g5)
    (h12 : g1 ≠ g2) (h13 : g1 ≠ g3) (h14 : g1 ≠ g4) (h15 : g1 ≠ g5) (h23 : g2 ≠ g3) (h24 : g2 ≠ g4) (h25 : g2 ≠ g5) (h34 : g3 ≠ g4) (h35 : g3 ≠ g5) (h45 : g4 ≠ g5) : SepL [x1, x2, x3, x4, x5] := by
  intro i j b hij hi hj
  have key : ∀ i, [x1, x2, x3, x4, x5][i]? = some (some b) → (i = 0 ∧ b = g1) ∨ (i = 1 ∧ b = g2) ∨ (i = 2 ∧ b = g3) ∨ (i = 3 ∧ b = g4) ∨ (i = 4 ∧ b = g5) := by
    intro i hi
    match i with
    | 0 => simp at hi; exact .inl ⟨rfl, k1 b hi⟩
    | 1 => simp at hi; exact .inr (.inl ⟨rfl, k2 b hi⟩)
    | 2 => simp at hi; exact .inr (.inr (.inl ⟨rfl, k3 b hi⟩))
    | 3 => simp at hi; exact .inr (.inr (.inr (.inl ⟨rfl, k4 b hi⟩)))
    | 4 => simp at hi; exact .inr (.inr (.inr (.inr ⟨rfl, k5 b hi⟩)))
    | i + 5 => simp at hi
  rcases key i hi with ⟨rfl, h⟩ | ⟨rfl, h⟩ | ⟨rfl, h⟩ | ⟨rfl, h⟩ | ⟨rfl, h⟩ <;> rcases key j hj with ⟨rfl, h'⟩ | ⟨rfl, h'⟩ | ⟨rfl, h'⟩ | ⟨rfl, h'⟩ | ⟨rfl, h'⟩ <;> omega
/-- a copy, in blocks of its own -/
def RoomNew (r : Room) (w : World) (e : Ending) (w' : World) : Prop :=
  ∃ (A1 A2 A3 A4 A5 : Option Addr) (n1 c1 n2 c2 n3 c3 n4 c4 n5 c5 : Nat) (r' : Room), e = .returned (.agg #[.slice A1 n1 c1, .slice A2 n2 c2, .slice A3 n3 c3, .slice A4 n4 c4, .slice A5 n5 c5]) ∧ ROwn w' w.heap.size w'.heap.size A1 A2 A3 A4 A5 n1 c1 n2 c2 n3 c3 n4 c4 n5 c5 r' ∧ r'.Like r ∧ RoomSm n1 n2 n3 n4 r'.rs ∧ Ext w w'
theorem CopiedRoom.new {r : Room} {w w' : World} {e : Ending} (hl : RoomLen r) (h : CopiedRoom r w e w') : RoomNew r w e w' := by
  obtain ⟨g1, g2, g3, g4, g5, rs', rfl, h0, h12, h23, h34, h45, r1, r2, r3, r4, r5, hm, ho, hap, hx⟩ := h
  obtain ⟨k1, _, k2, k3, k4, k5, _, k8⟩ := hl
  have hlen := congrArg List.length hm
  simp at hlen
  have l1 := r1.lt
  have l2 := r2.lt
  have l3 := r3.lt
  have l4 := r4.lt
  have l5 := r5.lt
  have hq : ∀ b, rsBlk rs' b → g5 < b ∧ b < w'.heap.size := by
    rintro b ⟨q, hq, hb⟩
    obtain ⟨g, hg, hA, hn, _, _, hr⟩ := ho q hq
    rw [hA] at hb
    have := blk_some hb
    subst this
    exact ⟨hg, hr.lt⟩
  have hf : ∀ b, some b ∈ [blkOf (some ⟨g1, 0, none⟩) r.ns.length, blkOf (some ⟨g2, 0, none⟩) r.ps.length, blkOf (some ⟨g3, 0, none⟩) r.xs.length, blkOf (some ⟨g4, 0, none⟩) r.L.length, blkOf (some ⟨g5, 0, none⟩) r.rs.length] → g1 ≤ b ∧ b ≤ g5 := by
    intro b hb
    simp only [List.mem_cons, List.not_mem_nil, or_false] at hb
    rcases hb with hb | hb | hb | hb | hb <;> (have := blk_some hb.symm; omega)
  refine ⟨_, _, _, _, _, _, _, _, _, _, _, _, _, _, _, ⟨r.ns, r.ps, r.xs, r.L, rs'⟩, rfl, ?_, ⟨rfl, rfl, rfl, rfl, hm⟩, ⟨by omega, by omega, by omega, by omega, ?_⟩, hx⟩
  · refine ⟨r1.toA rfl (Nat.le_refl _) (by omega), r2.toA rfl (Nat.le_refl _) (by omega), r3.toA rfl (Nat.le_refl _) (by omega), r4.toA rfl (Nat.le_refl _) (by omega), r5.toA hlen.symm (Nat.le_refl _) (by omega), ?_, ?_, ?_, ?_, ?_, ?_⟩
    · intro q hq
      obtain ⟨g, hg, hA, hn, hc, hl, hr⟩ := ho q hq
      rw [hA, hc, hn]
      exact hr.toA rfl (Nat.le_refl _) (by omega)
    · exact sep5 (fun b hb => blk_some hb) (fun b hb => blk_some hb) (fun b hb => blk_some hb) (fun b hb => blk_some hb) (fun b hb => blk_some hb) (by omega) (by omega) (by omega) (by omega) (by omega) (by omega) (by omega) (by omega) (by omega) (by omega)
    · intro i j b hij hi hj
      simp only [List.getElem?_map, Option.map_eq_some_iff] at hi hj
      obtain ⟨q, hq1, hq2⟩ := hi
      obtain ⟨q', hq1', hq2'⟩ := hj
      obtain ⟨g, hg, hA, _⟩ := ho q (List.mem_of_getElem? hq1)
      obtain ⟨g', hg', hA', _⟩ := ho q' (List.mem_of_getElem? hq1')
      rw [hA] at hq2
      rw [hA'] at hq2'
      have e1 := blk_some hq2
      have e2 := blk_some hq2'
      exact hap i j q q' hij hq1 hq1' (by rw [hA, hA', ← e1, ← e2])
    · intro b hb hb'
      have := hf b hb
      have := hq b hb'
      omega
    · intro b hb
      have := hf b hb
      omega
    · intro b hb
      have := hq b hb
      omega
  · have : rs'.map RS.n = (r.rs.map RS.xs).map List.length := by
      rw [← hm, List.map_map]
      exact List.map_congr_left (fun q hq => by obtain ⟨_, _, _, hn, _⟩ := ho q hq; exact hn)
    rw [this]; exact k8
theorem m_markEventS (A : Option Addr) (n c : Nat) (ts : List Event) (a : Int) (w : World) (h : OwnA w 101 Event.cells A n c ts) (hn : n ≤ 1000000000) (ha0 : 0 ≤ a) (ha1 : a ≤ 1000000000000) :
    Calls Try.prog 34 #[.slice A n c, .int .i64 a] w (MarkA 101 Event.cells A n c (a + 5 * n) (markEvent a n) w) := by
  obtain ⟨g, ho, hg⟩ := h.own
  refine (c_markEventS g A n c ts a w ho hn h.2.1 h.2.2.1 ha0 ha1).mono fun e w' ⟨h1, h2, h3⟩ => ?_
  exact ⟨h1, h2.toA h.2.1 h.2.2.1, Turn.of_only h3 hg⟩
end Go.Proofs.Ytjpmiokbgpggbaa
