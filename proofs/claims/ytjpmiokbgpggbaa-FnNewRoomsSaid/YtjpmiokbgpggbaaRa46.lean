/-
  Marking a room: which blocks alone turn.
-/
import Derived.Test.YtjpmiokbgpggbaaRa45
import Derived.Test.YtjpmiokbgpggbaaRa36
namespace Go.Proofs.Ytjpmiokbgpggbaa
open Go.RowKit
structure MarkedRoomB (A1 A2 A3 A4 A5 : Option Addr) (n1 c1 n2 c2 n3 c3 n4 c4 n5 c5 : Nat) (rs : List RS) (a : Int) (w : World) (e : Ending) (w' : World) : Prop where
  e : e = .returned (.int .i64 (markN a n1 n2 n3 n4 rs))
  own : RoomAt w' A1 A2 A3 A4 A5 n1 c1 n2 c2 n3 c3 n4 c4 n5 c5 (markR a n1 n2 n3 n4 rs)
  turn : Turn (fun b => some b ∈ [blkOf A1 n1, blkOf A2 n2, blkOf A3 n3, blkOf A4 n4] ∨ rsBlk rs b) w w'
set_option maxHeartbeats 2000000 in
theorem b_markRoom (lo hi : Nat) (A1 A2 A3 A4 A5 : Option Addr) (n1 c1 n2 c2 n3 c3 n4 c4 n5 c5 : Nat) (r : Room) (a : Int) (w : World) (h : ROwn w lo hi A1 A2 A3 A4 A5 n1 c1 n2 c2 n3 c3 n4 c4 n5 c5 r) (hm : RoomSm n1 n2 n3 n4 r.rs) (ha0 : 0 ≤ a) (ha1 : a ≤ 1000000) :
    Calls Try.prog 25 #[.agg #[.slice A1 n1 c1, .slice A2 n2 c2, .slice A3 n3 c3, .slice A4 n4 c4, .slice A5 n5 c5], .int .i64 a] w (MarkedRoomB A1 A2 A3 A4 A5 n1 c1 n2 c2 n3 c3 n4 c4 n5 c5 r.rs a w) := by
  obtain ⟨m1, m2, m3, m4, m5⟩ := hm
  have h5 : ∀ b, blkOf A5 n5 = some b → ¬ rsBlk r.rs b := fun b hb => h.fr b (by simp [hb])
  have hlt : ∀ b, some b ∈ [blkOf A1 n1, blkOf A2 n2, blkOf A3 n3, blkOf A4 n4] → b < w.heap.size := by
    intro b hb
    simp only [List.mem_cons, List.not_mem_nil, or_false] at hb
    rcases hb with hb | hb | hb | hb
    · exact h.o1.lt hb.symm
    · exact h.o2.lt hb.symm
    · exact h.o3.lt hb.symm
    · exact h.o4.lt hb.symm
  have HM5 := hide m5
  have HLT := hide hlt
  clear m5 hlt
  have hin := RoomIn.new w A1 A2 A3 A4 A5 n1 c1 n2 c2 n3 c3 n4 c4 n5 c5 41
  go_enter Try.func25, Try.ntmps25
  go_wp2_with fail
  refine (c_markNetwork A1 A2 n1 c1 n2 c2 r.ns r.ps a _ (h.o1.ext (Ext.alloc _ _)) (h.o2.ext (Ext.alloc _ _)) (fun b hb hb' => h.ff 0 1 b (by decide) (by simp [hb]) (by simp [hb'])) m1 m2 (by omega) (by omega)).mono ?_
  rintro e w1 ⟨rfl, o1, o2, t1⟩
  have hz1 : w.heap.size < w1.heap.size := by have := t1.size; simp at this; omega
  have hb1 : ∀ j, w1.cell? ⟨w.heap.size, j, none⟩ = (w.alloc (.cells #[.slice A1 n1 c1, .slice A2 n2 c2, .slice A3 n3 c3, .slice A4 n4 c4, .slice A5 n5 c5] 41)).cell? ⟨w.heap.size, j, none⟩ := fun j => t1.cell (by simp) (fun h => by rcases h with h | h <;> (have := HLT.out w.heap.size (by rw [h]; simp); omega))
  have o3 := (h.o3.ext (Ext.alloc _ _)).turn t1 (fun b hb hb' => by
    rcases hb' with hb' | hb'
    · exact h.ff 0 2 b (by decide) (by simp [hb']) (by simp [hb])
    · exact h.ff 1 2 b (by decide) (by simp [hb']) (by simp [hb]))
  go_wp2_with fail
  refine (m_markContractS A3 n3 c3 r.xs _ _ o3 (by omega) (by omega) (by omega)).mono ?_
  rintro e w2 ⟨rfl, o3', t2⟩
  have hz2 : w.heap.size < w2.heap.size := by have := t2.size; omega
  have hb2 : ∀ j, w2.cell? ⟨w.heap.size, j, none⟩ = (w.alloc (.cells #[.slice A1 n1 c1, .slice A2 n2 c2, .slice A3 n3 c3, .slice A4 n4 c4, .slice A5 n5 c5] 41)).cell? ⟨w.heap.size, j, none⟩ := fun j => (t2.cell hz1 (fun h => by have := HLT.out w.heap.size (by rw [h]; simp); omega)).trans (hb1 j)
  clear hb1
  have o1a := o1.turn t2 (fun b hb hb' => h.ff 0 2 b (by decide) (by simp [hb]) (by simp [hb']))
  have o2a := o2.turn t2 (fun b hb hb' => h.ff 1 2 b (by decide) (by simp [hb]) (by simp [hb']))
  have o4 := ((h.o4.ext (Ext.alloc _ _)).turn t1 (fun b hb hb' => by
    rcases hb' with hb' | hb'
    · exact h.ff 0 3 b (by decide) (by simp [hb']) (by simp [hb])
    · exact h.ff 1 3 b (by decide) (by simp [hb']) (by simp [hb]))).turn t2 (fun b hb hb' => h.ff 2 3 b (by decide) (by simp [hb']) (by simp [hb]))
  go_wp2_with fail
  refine (m_markNominationS A4 n4 c4 r.L _ _ o4 (by omega) (by omega) (by omega)).mono ?_
  rintro e w3 ⟨rfl, o4', t3⟩
  have hz3 : w.heap.size < w3.heap.size := by have := t3.size; omega
  have hb3 : ∀ j, w3.cell? ⟨w.heap.size, j, none⟩ = (w.alloc (.cells #[.slice A1 n1 c1, .slice A2 n2 c2, .slice A3 n3 c3, .slice A4 n4 c4, .slice A5 n5 c5] 41)).cell? ⟨w.heap.size, j, none⟩ := fun j => (t3.cell hz2 (fun h => by have := HLT.out w.heap.size (by rw [h]; simp); omega)).trans (hb2 j)
  clear hb2
  have o1b := o1a.turn t3 (fun b hb hb' => h.ff 0 3 b (by decide) (by simp [hb]) (by simp [hb']))
  have o2b := o2a.turn t3 (fun b hb hb' => h.ff 1 3 b (by decide) (by simp [hb]) (by simp [hb']))
  have o3b := o3'.turn t3 (fun b hb hb' => h.ff 2 3 b (by decide) (by simp [hb]) (by simp [hb']))
  have t13 : Turn (fun b => some b ∈ [blkOf A1 n1, blkOf A2 n2, blkOf A3 n3, blkOf A4 n4]) (w.alloc (.cells #[.slice A1 n1 c1, .slice A2 n2 c2, .slice A3 n3 c3, .slice A4 n4 c4, .slice A5 n5 c5] 41)) w3 :=
    (t1.mono (fun b hb => by rcases hb with hb | hb <;> simp [hb])).trans ((t2.mono (fun b hb => by simp [hb])).trans (t3.mono (fun b hb => by simp [hb])))
  have s5 := ((h.o5.ext (Ext.alloc _ _)).turn t13 (fun b hb hb' => by
    simp only [List.mem_cons, List.not_mem_nil, or_false] at hb'
    rcases hb' with hb' | hb' | hb' | hb'
    · exact h.ff 0 4 b (by decide) (by simp [← hb']) (by simp [hb])
    · exact h.ff 1 4 b (by decide) (by simp [← hb']) (by simp [hb])
    · exact h.ff 2 4 b (by decide) (by simp [← hb']) (by simp [hb])
    · exact h.ff 3 4 b (by decide) (by simp [← hb']) (by simp [hb])))
  have o6 : ∀ q ∈ r.rs, OwnA w3 106 Reading.cells q.A q.n q.c q.xs := fun q hq => ((h.o6 q hq).ext (Ext.alloc _ _)).turn t13 (fun b hb hb' => h.fr b (by
    simp only [List.mem_cons, List.not_mem_nil, or_false] at hb' ⊢
    rcases hb' with hb' | hb' | hb' | hb' <;> simp [hb']) ⟨q, hq, hb⟩)
  clear t1 t2 t3 o1 o2 o3 o1a o2a o3' o4
  go_wp2_with fail
  refine (c_markReadingSS A5 n5 c5 r.rs _ _ (s5.slice rs_len) o6 h.rr h5 HM5.out (by omega) (by omega)).mono ?_
  rintro e w4 ⟨rfl, o6', t4⟩
  clear hb3
  go_wp2_with fail
  go_ret
  have fx : ∀ (A : Option Addr) (n : Nat), blkOf A n ∈ [blkOf A1 n1, blkOf A2 n2, blkOf A3 n3, blkOf A4 n4, blkOf A5 n5] → ∀ b, blkOf A n = some b → ¬ rsBlk r.rs b := fun A n hm b hb => h.fr b (by rw [← hb]; exact hm)
  refine ⟨rfl, ⟨(o1b.turn t4 (fx _ _ (by simp))).slice node_len, (o2b.turn t4 (fx _ _ (by simp))).slice pipe_len, (o3b.turn t4 (fx _ _ (by simp))).slice contract_len, (o4'.turn t4 (fx _ _ (by simp))).slice nomination_len, ((s5.turn t4 (fx _ _ (by simp))).same (markRS_cells _ r.rs)).slice rs_len, fun q hq => (o6' q hq).slice reading_len⟩, ?_⟩
  exact (Turn.of_ext (Ext.alloc _ _)).trans ((t13.mono fun b hb => .inl hb).trans (t4.mono fun b hb => .inr hb))
/-- what is turned by marking has no box of a room, and lies in the room's own blocks -/
theorem ROwn.mk_ne {w : World} {lo hi : Nat} {A1 A2 A3 A4 A5 : Option Addr} {n1 c1 n2 c2 n3 c3 n4 c4 n5 c5 : Nat} {r : Room} (h : ROwn w lo hi A1 A2 A3 A4 A5 n1 c1 n2 c2 n3 c3 n4 c4 n5 c5 r) {g : Nat} {cs : List Value} (hr : Row w g 41 cs) : ¬ (some g ∈ [blkOf A1 n1, blkOf A2 n2, blkOf A3 n3, blkOf A4 n4] ∨ rsBlk r.rs g) := by
  have tag : ∀ {α : Type} {t : TypeId} {f : α → List Value} {A : Option Addr} {n c : Nat} {xs : List α}, OwnA w t f A n c xs → t ≠ 41 → blkOf A n ≠ some g := fun ho ht hb => by
    obtain ⟨g', hs, _⟩ := ho.own
    obtain ⟨e, hn⟩ := hs.blk hb
    subst e
    obtain ⟨_, rr, hr'⟩ := hs.2 hn
    unfold Row at hr hr'
    rw [hr] at hr'
    simp at hr'
    exact ht hr'.2.symm
  rintro (hb | ⟨q, hq, hb⟩)
  · simp only [List.mem_cons, List.not_mem_nil, or_false] at hb
    rcases hb with hb | hb | hb | hb
    · exact tag h.o1 (by decide) hb.symm
    · exact tag h.o2 (by decide) hb.symm
    · exact tag h.o3 (by decide) hb.symm
    · exact tag h.o4 (by decide) hb.symm
  · exact tag (h.o6 q hq) (by decide) hb
theorem ROwn.mk_in {w : World} {lo hi : Nat} {A1 A2 A3 A4 A5 : Option Addr} {n1 c1 n2 c2 n3 c3 n4 c4 n5 c5 : Nat} {r : Room} (h : ROwn w lo hi A1 A2 A3 A4 A5 n1 c1 n2 c2 n3 c3 n4 c4 n5 c5 r) {b : Nat} (hb : some b ∈ [blkOf A1 n1, blkOf A2 n2, blkOf A3 n3, blkOf A4 n4] ∨ rsBlk r.rs b) : lo ≤ b ∧ b < hi := by
  rcases hb with hb | hb
  · refine h.rf b ?_
    simp only [List.mem_cons, List.not_mem_nil, or_false] at hb ⊢
    rcases hb with hb | hb | hb | hb <;> simp [hb]
  · exact h.rq b hb
/-- blocks of the kind of a room's box have turned alone -/
theorem ROwn.turnR {S : Nat → Prop} {w w' : World} {lo hi : Nat} {A1 A2 A3 A4 A5 : Option Addr} {n1 c1 n2 c2 n3 c3 n4 c4 n5 c5 : Nat} {r : Room} (h : ROwn w lo hi A1 A2 A3 A4 A5 n1 c1 n2 c2 n3 c3 n4 c4 n5 c5 r) (k : Turn S w w') (hs : ∀ b, S b → ∃ cs, Row w b 41 cs) : ROwn w' lo hi A1 A2 A3 A4 A5 n1 c1 n2 c2 n3 c3 n4 c4 n5 c5 r := by
  have tag : ∀ {α : Type} {t : TypeId} {f : α → List Value} {A : Option Addr} {n c : Nat} {xs : List α}, OwnA w t f A n c xs → t ≠ 41 → ∀ b, blkOf A n = some b → ¬ S b := fun ho ht b hb hS => by
    obtain ⟨g', hs', _⟩ := ho.own
    obtain ⟨e, hn⟩ := hs'.blk hb
    subst e
    obtain ⟨_, rr, hr'⟩ := hs'.2 hn
    obtain ⟨cs, hr⟩ := hs _ hS
    unfold Row at hr hr'
    rw [hr] at hr'
    simp at hr'
    exact ht hr'.2.symm
  exact ⟨h.o1.turn k (tag h.o1 (by decide)), h.o2.turn k (tag h.o2 (by decide)), h.o3.turn k (tag h.o3 (by decide)), h.o4.turn k (tag h.o4 (by decide)), h.o5.turn k (tag h.o5 (by decide)), fun q hq => (h.o6 q hq).turn k (tag (h.o6 q hq) (by decide)), h.ff, h.rr, h.fr, h.rf, h.rq⟩
end Go.Proofs.Ytjpmiokbgpggbaa
