

/-
  What the laws on rooms know of an argument and of its copies.
-/
import Derived.Test.YtjpmiokbgpggbaaRoomJ
namespace Go.Proofs.Ytjpmiokbgpggbaa
open Go.RowKit Go.ChangeShapes Go.WideShapes Go.ChangeAt Go.Deep Go.Joins
theorem own : ownKnob Try.prog.godebug = none := by kernel_rfl
theorem laidOut : laidOutB Try.prog = true := by kernel_rfl
def roomOk (r : Room) : Bool := roomB r.ns.length r
def RoomLen (r : Room) : Prop := r.ns.length ≤ 1048576 ∧ Named r.ns ∧ r.ps.length ≤ 1048576 ∧ r.xs.length ≤ 1048576 ∧ r.L.length ≤ 1048576 ∧ r.rs.length ≤ 1048576 ∧ (∀ q ∈ r.rs, q.xs.length ≤ 1048576) ∧ ((r.rs.map RS.xs).map List.length).sum ≤ 1048576
section
variable {w w' : World} {A1 A2 A3 A4 A5 : Option Addr} {n1 c1 n2 c2 n3 c3 n4 c4 n5 c5 : Nat} {r r' : Room}
theorem RoomAt.roomLen (h : RoomAt w A1 A2 A3 A4 A5 n1 c1 n2 c2 n3 c3 n4 c4 n5 c5 r) (hz : RoomSz r n1 n2 n3 n4 n5) : RoomLen r :=
  ⟨h.s1.len ▸ hz.n1, hz.nm, h.s2.len ▸ hz.n2, h.s3.len ▸ hz.n3, h.s4.len ▸ hz.n4, h.s5.len ▸ hz.n5, fun q hq => (h.s6 q hq).len ▸ hz.n6 q hq, by
    have : (r.rs.map RS.xs).map List.length = r.rs.map RS.n := by rw [List.map_map]; exact List.map_congr_left (fun q hq => (h.s6 q hq).len.symm)
    rw [this]; exact hz.n7⟩
theorem RoomLen.like (h : RoomLen r) (hl : r'.Like r) : RoomLen r' := by
  obtain ⟨h1, h2, h3, h4, h5⟩ := hl
  obtain ⟨k1, k2, k3, k4, k5, k6, k7, k8⟩ := h
  have hlen := congrArg List.length h5
  simp at hlen
  refine ⟨by rw [h1]; exact k1, by rw [h1]; exact k2, by rw [h2]; exact k3, by rw [h3]; exact k4, by rw [h4]; exact k5, by rw [hlen]; exact k6, fun q hq => ?_, by rw [h5]; exact k8⟩
  have : q.xs ∈ r.rs.map RS.xs := by rw [← h5]; exact List.mem_map_of_mem hq
  obtain ⟨q', hq', he⟩ := List.mem_map.1 this
  rw [← he]; exact k7 q' hq'
theorem RoomAt.ok (h : RoomAt w A1 A2 A3 A4 A5 n1 c1 n2 c2 n3 c3 n4 c4 n5 c5 r') (hl : r'.Like r) : roomB n1 r' = roomOk r := by
  unfold roomOk
  rw [h.s1.len, hl.1, roomB_like hl]
end
/-- a copy, as it is read -/
def RoomOf (r : Room) (w : World) (e : Ending) (w' : World) : Prop := ∃ (A1 A2 A3 A4 A5 : Option Addr) (n1 c1 n2 c2 n3 c3 n4 c4 n5 c5 : Nat) (r' : Room), e = .returned (.agg #[.slice A1 n1 c1, .slice A2 n2 c2, .slice A3 n3 c3, .slice A4 n4 c4, .slice A5 n5 c5]) ∧ RoomAt w' A1 A2 A3 A4 A5 n1 c1 n2 c2 n3 c3 n4 c4 n5 c5 r' ∧ r'.Like r ∧ Ext w w'
theorem CopiedRoom.of {r : Room} {w w' : World} {e : Ending} (hl : RoomLen r) (h : CopiedRoom r w e w') : RoomOf r w e w' := by
  obtain ⟨g1, g2, g3, g4, g5, rs', rfl, _, _, _, _, _, r1, r2, r3, r4, r5, hm, ho, _, hx⟩ := h
  obtain ⟨k1, _, k2, k3, k4, k5, _⟩ := hl
  have hlen := congrArg List.length hm
  simp at hlen
  exact ⟨_, _, _, _, _, _, _, _, _, _, _, _, _, _, _, ⟨r.ns, r.ps, r.xs, r.L, rs'⟩, rfl, ⟨r1.slice node_len rfl (by omega), r2.slice pipe_len rfl (by omega), r3.slice contract_len rfl (by omega), r4.slice nomination_len rfl (by omega), r5.slice rs_len hlen.symm (by omega), fun q hq => (ho q hq).slice⟩, ⟨rfl, rfl, rfl, rfl, hm⟩, hx⟩
theorem hourR_like {r r' : Room} {n1 : Int} (h : roomB n1 r' = roomOk r) (hl : r'.Like r) : hourR n1 r' = hourR r.ns.length r := by
  have hlen := congrArg List.length hl.2.2.2.2
  simp at hlen
  unfold hourR
  rw [h, hlen]; rfl
end Go.Proofs.Ytjpmiokbgpggbaa
