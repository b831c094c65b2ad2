/-
  A copy of a room lies in blocks of its own. Marking a room: which blocks alone turn. Rooms that are alike: the same events are possible, with like results. No function of the program is named here.
-/
import Derived.Test.YtjpmiokbgpggbaaGreatRb33
import Derived.Test.YtjpmiokbgpggbaaGreatRb28
import Derived.Test.YtjpmiokbgpggbaaGreatRb34
import Derived.Test.YtjpmiokbgpggbaaGreatRb43
namespace Go.Proofs.YtjpmiokbgpggbaaGreat
open Go.RowKit
theorem blk_some {g n b : Nat} (h : blkOf (some ⟨g, 0, none⟩) n = some b) : b = g := by
  unfold blkOf at h
  split at h
  · cases h
  · simp at h; exact h.symm
theorem sep5 {x1 x2 x3 x4 x5 : Option Nat} {g1 g2 g3 g4 g5 : Nat} (k1 : ∀ b, x1 = some b → b = g1) (k2 : ∀ b, x2 = some b → b = g2) (k3 : ∀ b, x3 = some b → b = g3) (k4 : ∀ b, x4 = some b → b = g4) (k5 : ∀ b, x5 = some b → b = g5)
    (h12 : g1 ≠ g2) (h13 : g1 ≠ g3) (h14 : g1 ≠ g4) (h15 : g1 ≠ g5) (h23 : g2 ≠ g3) (h24 : g2 ≠ g4) (h25 : g2 ≠ g5) (h34 : g3 ≠ g4) (h35 : g3 ≠ g5) (h45 : g4 ≠ g5) : SepL [x1, x2, x3, x4, x5] := by
  intro i j b hij hi hj
  have key : ∀ i, [x1, x2, x3, x4, x5][i]? = some (some b) → (i = 0 ∧ b = g1) ∨ (i = 1 ∧ b = g2) ∨ (i = 2 ∧ b = g3) ∨ (i = 3 ∧ b = g4) ∨ (i = 4 ∧ b = g5) := by
    intro i hi
    match i with
    | 0 => simp at hi; exact .inl ⟨rfl, k1 b hi⟩
    | 1 => simp at hi; exact .inr (.inl ⟨rfl, k2 b hi⟩)
    | 2 => simp at hi; exact .inr (.inr (.inl ⟨rfl, k3 b hi⟩))
    | 3 => simp at hi; exact .inr (.inr (.inr (.inl ⟨rfl, k4 b hi⟩)))
    | 4 => simp at hi; exact .inr (.inr (.inr (.inr ⟨rfl, k5 b hi⟩)))
    | i + 5 => simp at hi
  rcases key i hi with ⟨rfl, h⟩ | ⟨rfl, h⟩ | ⟨rfl, h⟩ | ⟨rfl, h⟩ | ⟨rfl, h⟩ <;> rcases key j hj with ⟨rfl, h'⟩ | ⟨rfl, h'⟩ | ⟨rfl, h'⟩ | ⟨rfl, h'⟩ | ⟨rfl, h'⟩ <;> omega
/-- a copy, in blocks of its own -/
def RoomNew (r : Room) (w : World) (e : Ending) (w' : World) : Prop :=
  ∃ (A1 A2 A3 A4 A5 : Option Addr) (n1 c1 n2 c2 n3 c3 n4 c4 n5 c5 : Nat) (r' : Room), e = .returned (.agg #[.slice A1 n1 c1, .slice A2 n2 c2, .slice A3 n3 c3, .slice A4 n4 c4, .slice A5 n5 c5]) ∧ ROwn w' w.heap.size w'.heap.size A1 A2 A3 A4 A5 n1 c1 n2 c2 n3 c3 n4 c4 n5 c5 r' ∧ r'.Like r ∧ RoomSm n1 n2 n3 n4 r'.rs ∧ Ext w w'
theorem CopiedRoom.new {r : Room} {w w' : World} {e : Ending} (hl : RoomLen r) (h : CopiedRoom r w e w') : RoomNew r w e w' := by
  obtain ⟨g1, g2, g3, g4, g5, rs', rfl, h0, h12, h23, h34, h45, r1, r2, r3, r4, r5, hm, ho, hap, hx⟩ := h
  obtain ⟨k1, _, k2, k3, k4, k5, _, k8⟩ := hl
  have hlen := congrArg List.length hm
  simp at hlen
  have l1 := r1.lt
  have l2 := r2.lt
  have l3 := r3.lt
  have l4 := r4.lt
  have l5 := r5.lt
  have hq : ∀ b, rsBlk rs' b → g5 < b ∧ b < w'.heap.size := by
    rintro b ⟨q, hq, hb⟩
    obtain ⟨g, hg, hA, hn, _, _, hr⟩ := ho q hq
    rw [hA] at hb
    have := blk_some hb
    subst this
    exact ⟨hg, hr.lt⟩
  have hf : ∀ b, some b ∈ [blkOf (some ⟨g1, 0, none⟩) r.ns.length, blkOf (some ⟨g2, 0, none⟩) r.ps.length, blkOf (some ⟨g3, 0, none⟩) r.xs.length, blkOf (some ⟨g4, 0, none⟩) r.L.length, blkOf (some ⟨g5, 0, none⟩) r.rs.length] → g1 ≤ b ∧ b ≤ g5 := by
    intro b hb
    simp only [List.mem_cons, List.not_mem_nil, or_false] at hb
    rcases hb with hb | hb | hb | hb | hb <;> (have := blk_some hb.symm; omega)
  refine ⟨_, _, _, _, _, _, _, _, _, _, _, _, _, _, _, ⟨r.ns, r.ps, r.xs, r.L, rs'⟩, rfl, ?_, ⟨rfl, rfl, rfl, rfl, hm⟩, ⟨by omega, by omega, by omega, by omega, ?_⟩, hx⟩
  · refine ⟨r1.toA rfl (Nat.le_refl _) (by omega), r2.toA rfl (Nat.le_refl _) (by omega), r3.toA rfl (Nat.le_refl _) (by omega), r4.toA rfl (Nat.le_refl _) (by omega), r5.toA hlen.symm (Nat.le_refl _) (by omega), ?_, ?_, ?_, ?_, ?_, ?_⟩
    · intro q hq
      obtain ⟨g, hg, hA, hn, hc, hl, hr⟩ := ho q hq
      rw [hA, hc, hn]
      exact hr.toA rfl (Nat.le_refl _) (by omega)
    · exact sep5 (fun b hb => blk_some hb) (fun b hb => blk_some hb) (fun b hb => blk_some hb) (fun b hb => blk_some hb) (fun b hb => blk_some hb) (by omega) (by omega) (by omega) (by omega) (by omega) (by omega) (by omega) (by omega) (by omega) (by omega)
    · intro i j b hij hi hj
      simp only [List.getElem?_map, Option.map_eq_some_iff] at hi hj
      obtain ⟨q, hq1, hq2⟩ := hi
      obtain ⟨q', hq1', hq2'⟩ := hj
      obtain ⟨g, hg, hA, _⟩ := ho q (List.mem_of_getElem? hq1)
      obtain ⟨g', hg', hA', _⟩ := ho q' (List.mem_of_getElem? hq1')
      rw [hA] at hq2
      rw [hA'] at hq2'
      have e1 := blk_some hq2
      have e2 := blk_some hq2'
      exact hap i j q q' hij hq1 hq1' (by rw [hA, hA', ← e1, ← e2])
    · intro b hb hb'
      have := hf b hb
      have := hq b hb'
      omega
    · intro b hb
      have := hf b hb
      omega
    · intro b hb
      have := hq b hb
      omega
  · have : rs'.map RS.n = (r.rs.map RS.xs).map List.length := by
      rw [← hm, List.map_map]
      exact List.map_congr_left (fun q hq => by obtain ⟨_, _, _, hn, _⟩ := ho q hq; exact hn)
    rw [this]; exact k8
end Go.Proofs.YtjpmiokbgpggbaaGreat

namespace Go.Proofs.YtjpmiokbgpggbaaGreat
open Go.RowKit
structure MarkedRoomB (A1 A2 A3 A4 A5 : Option Addr) (n1 c1 n2 c2 n3 c3 n4 c4 n5 c5 : Nat) (rs : List RS) (a : Int) (w : World) (e : Ending) (w' : World) : Prop where
  e : e = .returned (.int .i64 (markN a n1 n2 n3 n4 rs))
  own : RoomAt w' A1 A2 A3 A4 A5 n1 c1 n2 c2 n3 c3 n4 c4 n5 c5 (markR a n1 n2 n3 n4 rs)
  turn : Turn (fun b => some b ∈ [blkOf A1 n1, blkOf A2 n2, blkOf A3 n3, blkOf A4 n4] ∨ rsBlk rs b) w w'
set_option maxHeartbeats 2000000 in
theorem b_markRoom (lo hi : Nat) (A1 A2 A3 A4 A5 : Option Addr) (n1 c1 n2 c2 n3 c3 n4 c4 n5 c5 : Nat) (r : Room) (a : Int) (w : World) (h : ROwn w lo hi A1 A2 A3 A4 A5 n1 c1 n2 c2 n3 c3 n4 c4 n5 c5 r) (hm : RoomSm n1 n2 n3 n4 r.rs) (ha0 : 0 ≤ a) (ha1 : a ≤ 1000000) :
    Calls Tryz.prog 20 #[.agg #[.slice A1 n1 c1, .slice A2 n2 c2, .slice A3 n3 c3, .slice A4 n4 c4, .slice A5 n5 c5], .int .i64 a] w (MarkedRoomB A1 A2 A3 A4 A5 n1 c1 n2 c2 n3 c3 n4 c4 n5 c5 r.rs a w) := by
  obtain ⟨m1, m2, m3, m4, m5⟩ := hm
  have h5 : ∀ b, blkOf A5 n5 = some b → ¬ rsBlk r.rs b := fun b hb => h.fr b (by simp [hb])
  have hlt : ∀ b, some b ∈ [blkOf A1 n1, blkOf A2 n2, blkOf A3 n3, blkOf A4 n4] → b < w.heap.size := by
    intro b hb
    simp only [List.mem_cons, List.not_mem_nil, or_false] at hb
    rcases hb with hb | hb | hb | hb
    · exact h.o1.lt hb.symm
    · exact h.o2.lt hb.symm
    · exact h.o3.lt hb.symm
    · exact h.o4.lt hb.symm
  have HM5 := hide m5
  have HLT := hide hlt
  clear m5 hlt
  have hin := RoomIn.new w A1 A2 A3 A4 A5 n1 c1 n2 c2 n3 c3 n4 c4 n5 c5 32
  go_enter Tryz.func20, Tryz.ntmps20
  go_wp2_with fail
  refine (c_markNetwork A1 A2 n1 c1 n2 c2 r.ns r.ps a _ (h.o1.ext (Ext.alloc _ _)) (h.o2.ext (Ext.alloc _ _)) (fun b hb hb' => h.ff 0 1 b (by decide) (by simp [hb]) (by simp [hb'])) m1 m2 (by omega) (by omega)).mono ?_
  rintro e w1 ⟨rfl, o1, o2, t1⟩
  have hz1 : w.heap.size < w1.heap.size := by have := t1.size; simp at this; omega
  have hb1 : ∀ j, w1.cell? ⟨w.heap.size, j, none⟩ = (w.alloc (.cells #[.slice A1 n1 c1, .slice A2 n2 c2, .slice A3 n3 c3, .slice A4 n4 c4, .slice A5 n5 c5] 32)).cell? ⟨w.heap.size, j, none⟩ := fun j => t1.cell (by simp) (fun h => by rcases h with h | h <;> (have := HLT.out w.heap.size (by rw [h]; simp); omega))
  have o3 := (h.o3.ext (Ext.alloc _ _)).turn t1 (fun b hb hb' => by
    rcases hb' with hb' | hb'
    · exact h.ff 0 2 b (by decide) (by simp [hb']) (by simp [hb])
    · exact h.ff 1 2 b (by decide) (by simp [hb']) (by simp [hb]))
  go_wp2_with fail
  refine (m_markContractS A3 n3 c3 r.xs _ _ o3 (by omega) (by omega) (by omega)).mono ?_
  rintro e w2 ⟨rfl, o3', t2⟩
  have hz2 : w.heap.size < w2.heap.size := by have := t2.size; omega
  have hb2 : ∀ j, w2.cell? ⟨w.heap.size, j, none⟩ = (w.alloc (.cells #[.slice A1 n1 c1, .slice A2 n2 c2, .slice A3 n3 c3, .slice A4 n4 c4, .slice A5 n5 c5] 32)).cell? ⟨w.heap.size, j, none⟩ := fun j => (t2.cell hz1 (fun h => by have := HLT.out w.heap.size (by rw [h]; simp); omega)).trans (hb1 j)
  clear hb1
  have o1a := o1.turn t2 (fun b hb hb' => h.ff 0 2 b (by decide) (by simp [hb]) (by simp [hb']))
  have o2a := o2.turn t2 (fun b hb hb' => h.ff 1 2 b (by decide) (by simp [hb]) (by simp [hb']))
  have o4 := ((h.o4.ext (Ext.alloc _ _)).turn t1 (fun b hb hb' => by
    rcases hb' with hb' | hb'
    · exact h.ff 0 3 b (by decide) (by simp [hb']) (by simp [hb])
    · exact h.ff 1 3 b (by decide) (by simp [hb']) (by simp [hb]))).turn t2 (fun b hb hb' => h.ff 2 3 b (by decide) (by simp [hb']) (by simp [hb]))
  go_wp2_with fail
  refine (m_markNominationS A4 n4 c4 r.L _ _ o4 (by omega) (by omega) (by omega)).mono ?_
  rintro e w3 ⟨rfl, o4', t3⟩
  have hz3 : w.heap.size < w3.heap.size := by have := t3.size; omega
  have hb3 : ∀ j, w3.cell? ⟨w.heap.size, j, none⟩ = (w.alloc (.cells #[.slice A1 n1 c1, .slice A2 n2 c2, .slice A3 n3 c3, .slice A4 n4 c4, .slice A5 n5 c5] 32)).cell? ⟨w.heap.size, j, none⟩ := fun j => (t3.cell hz2 (fun h => by have := HLT.out w.heap.size (by rw [h]; simp); omega)).trans (hb2 j)
  clear hb2
  have o1b := o1a.turn t3 (fun b hb hb' => h.ff 0 3 b (by decide) (by simp [hb]) (by simp [hb']))
  have o2b := o2a.turn t3 (fun b hb hb' => h.ff 1 3 b (by decide) (by simp [hb]) (by simp [hb']))
  have o3b := o3'.turn t3 (fun b hb hb' => h.ff 2 3 b (by decide) (by simp [hb]) (by simp [hb']))
  have t13 : Turn (fun b => some b ∈ [blkOf A1 n1, blkOf A2 n2, blkOf A3 n3, blkOf A4 n4]) (w.alloc (.cells #[.slice A1 n1 c1, .slice A2 n2 c2, .slice A3 n3 c3, .slice A4 n4 c4, .slice A5 n5 c5] 32)) w3 :=
    (t1.mono (fun b hb => by rcases hb with hb | hb <;> simp [hb])).trans ((t2.mono (fun b hb => by simp [hb])).trans (t3.mono (fun b hb => by simp [hb])))
  have s5 := ((h.o5.ext (Ext.alloc _ _)).turn t13 (fun b hb hb' => by
    simp only [List.mem_cons, List.not_mem_nil, or_false] at hb'
    rcases hb' with hb' | hb' | hb' | hb'
    · exact h.ff 0 4 b (by decide) (by simp [← hb']) (by simp [hb])
    · exact h.ff 1 4 b (by decide) (by simp [← hb']) (by simp [hb])
    · exact h.ff 2 4 b (by decide) (by simp [← hb']) (by simp [hb])
    · exact h.ff 3 4 b (by decide) (by simp [← hb']) (by simp [hb])))
  have o6 : ∀ q ∈ r.rs, OwnA w3 93 Reading.cells q.A q.n q.c q.xs := fun q hq => ((h.o6 q hq).ext (Ext.alloc _ _)).turn t13 (fun b hb hb' => h.fr b (by
    simp only [List.mem_cons, List.not_mem_nil, or_false] at hb' ⊢
    rcases hb' with hb' | hb' | hb' | hb' <;> simp [hb']) ⟨q, hq, hb⟩)
  clear t1 t2 t3 o1 o2 o3 o1a o2a o3' o4
  go_wp2_with fail
  refine (c_markReadingSS A5 n5 c5 r.rs _ _ (s5.slice rs_len) o6 h.rr h5 HM5.out (by omega) (by omega)).mono ?_
  rintro e w4 ⟨rfl, o6', t4⟩
  clear hb3
  go_wp2_with fail
  go_ret
  have fx : ∀ (A : Option Addr) (n : Nat), blkOf A n ∈ [blkOf A1 n1, blkOf A2 n2, blkOf A3 n3, blkOf A4 n4, blkOf A5 n5] → ∀ b, blkOf A n = some b → ¬ rsBlk r.rs b := fun A n hm b hb => h.fr b (by rw [← hb]; exact hm)
  refine ⟨rfl, ⟨(o1b.turn t4 (fx _ _ (by simp))).slice node_len, (o2b.turn t4 (fx _ _ (by simp))).slice pipe_len, (o3b.turn t4 (fx _ _ (by simp))).slice contract_len, (o4'.turn t4 (fx _ _ (by simp))).slice nomination_len, ((s5.turn t4 (fx _ _ (by simp))).same (markRS_cells _ r.rs)).slice rs_len, fun q hq => (o6' q hq).slice reading_len⟩, ?_⟩
  exact (Turn.of_ext (Ext.alloc _ _)).trans ((t13.mono fun b hb => .inl hb).trans (t4.mono fun b hb => .inr hb))
/-- what is turned by marking has no box of a room, and lies in the room's own blocks -/
theorem ROwn.mk_ne {w : World} {lo hi : Nat} {A1 A2 A3 A4 A5 : Option Addr} {n1 c1 n2 c2 n3 c3 n4 c4 n5 c5 : Nat} {r : Room} (h : ROwn w lo hi A1 A2 A3 A4 A5 n1 c1 n2 c2 n3 c3 n4 c4 n5 c5 r) {g : Nat} {cs : List Value} (hr : Row w g 32 cs) : ¬ (some g ∈ [blkOf A1 n1, blkOf A2 n2, blkOf A3 n3, blkOf A4 n4] ∨ rsBlk r.rs g) := by
  have tag : ∀ {α : Type} {t : TypeId} {f : α → List Value} {A : Option Addr} {n c : Nat} {xs : List α}, OwnA w t f A n c xs → t ≠ 32 → blkOf A n ≠ some g := fun ho ht hb => by
    obtain ⟨g', hs, _⟩ := ho.own
    obtain ⟨e, hn⟩ := hs.blk hb
    subst e
    obtain ⟨_, rr, hr'⟩ := hs.2 hn
    unfold Row at hr hr'
    rw [hr] at hr'
    simp at hr'
    exact ht hr'.2.symm
  rintro (hb | ⟨q, hq, hb⟩)
  · simp only [List.mem_cons, List.not_mem_nil, or_false] at hb
    rcases hb with hb | hb | hb | hb
    · exact tag h.o1 (by decide) hb.symm
    · exact tag h.o2 (by decide) hb.symm
    · exact tag h.o3 (by decide) hb.symm
    · exact tag h.o4 (by decide) hb.symm
  · exact tag (h.o6 q hq) (by decide) hb
theorem ROwn.mk_in {w : World} {lo hi : Nat} {A1 A2 A3 A4 A5 : Option Addr} {n1 c1 n2 c2 n3 c3 n4 c4 n5 c5 : Nat} {r : Room} (h : ROwn w lo hi A1 A2 A3 A4 A5 n1 c1 n2 c2 n3 c3 n4 c4 n5 c5 r) {b : Nat} (hb : some b ∈ [blkOf A1 n1, blkOf A2 n2, blkOf A3 n3, blkOf A4 n4] ∨ rsBlk r.rs b) : lo ≤ b ∧ b < hi := by
  rcases hb with hb | hb
  · refine h.rf b ?_
    simp only [List.mem_cons, List.not_mem_nil, or_false] at hb ⊢
    rcases hb with hb | hb | hb | hb <;> simp [hb]
  · exact h.rq b hb
/-- blocks of the kind of a room's box have turned alone -/
theorem ROwn.turnR {S : Nat → Prop} {w w' : World} {lo hi : Nat} {A1 A2 A3 A4 A5 : Option Addr} {n1 c1 n2 c2 n3 c3 n4 c4 n5 c5 : Nat} {r : Room} (h : ROwn w lo hi A1 A2 A3 A4 A5 n1 c1 n2 c2 n3 c3 n4 c4 n5 c5 r) (k : Turn S w w') (hs : ∀ b, S b → ∃ cs, Row w b 32 cs) : ROwn w' lo hi A1 A2 A3 A4 A5 n1 c1 n2 c2 n3 c3 n4 c4 n5 c5 r := by
  have tag : ∀ {α : Type} {t : TypeId} {f : α → List Value} {A : Option Addr} {n c : Nat} {xs : List α}, OwnA w t f A n c xs → t ≠ 32 → ∀ b, blkOf A n = some b → ¬ S b := fun ho ht b hb hS => by
    obtain ⟨g', hs', _⟩ := ho.own
    obtain ⟨e, hn⟩ := hs'.blk hb
    subst e
    obtain ⟨_, rr, hr'⟩ := hs'.2 hn
    obtain ⟨cs, hr⟩ := hs _ hS
    unfold Row at hr hr'
    rw [hr] at hr'
    simp at hr'
    exact ht hr'.2.symm
  exact ⟨h.o1.turn k (tag h.o1 (by decide)), h.o2.turn k (tag h.o2 (by decide)), h.o3.turn k (tag h.o3 (by decide)), h.o4.turn k (tag h.o4 (by decide)), h.o5.turn k (tag h.o5 (by decide)), fun q hq => (h.o6 q hq).turn k (tag (h.o6 q hq) (by decide)), h.ff, h.rr, h.fr, h.rf, h.rq⟩
end Go.Proofs.YtjpmiokbgpggbaaGreat

namespace Go.Proofs.YtjpmiokbgpggbaaGreat
open Go.RowKit
theorem like_len {r r' : Room} (hl : r'.Like r) : r'.rs.length = r.rs.length := by have h := congrArg List.length hl.2.2.2.2; simpa using h
theorem lastXs_like {r r' : Room} (hl : r'.Like r) : lastXs r' = lastXs r := by
  unfold lastXs
  rw [← List.getElem?_map, ← List.getElem?_map, hl.2.2.2.2, like_len hl]
theorem appB_like {r r' : Room} (hl : r'.Like r) (n : Int) (x : Event) : appB n r' x = appB n r x := by
  unfold appB hourOf
  rw [lastXs_like hl, like_len hl, hl.1, hl.2.1, hl.2.2.1, hl.2.2.2.1]
theorem appR_like {r r' : Room} (hl : r'.Like r) (x : Event) : (appR r' x).Like (appR r x) := by
  unfold appR
  split
  · exact ⟨hl.1, hl.2.1, hl.2.2.1, by show r'.L ++ _ = r.L ++ _; rw [hl.2.2.2.1], hl.2.2.2.2⟩
  · split
    · refine ⟨hl.1, hl.2.1, hl.2.2.1, hl.2.2.2.1, ?_⟩
      show (r'.rs.set _ _).map RS.xs = (r.rs.set _ _).map RS.xs
      rw [List.map_set, List.map_set, hl.2.2.2.2, like_len hl, lastXs_like hl]
    · refine ⟨hl.1, hl.2.1, hl.2.2.1, hl.2.2.2.1, ?_⟩
      show (r'.rs ++ _).map RS.xs = (r.rs ++ _).map RS.xs
      rw [List.map_append, List.map_append, hl.2.2.2.2]
theorem like_refl (r : Room) : r.Like r := ⟨rfl, rfl, rfl, rfl, rfl⟩
end Go.Proofs.YtjpmiokbgpggbaaGreat
