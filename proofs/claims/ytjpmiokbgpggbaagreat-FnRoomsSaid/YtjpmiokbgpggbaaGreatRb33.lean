/-
  The helpers of the laws on whole rooms: marking, and looking at the marks. New rooms, of the program and of the reference.
-/
import Derived.Test.YtjpmiokbgpggbaaGreatRb32
import Derived.Test.YtjpmiokbgpggbaaGreatRb18
namespace Go.Proofs.YtjpmiokbgpggbaaGreat
open Go.RowKit
structure MarkedNet (A1 A2 : Option Addr) (n1 c1 n2 c2 : Nat) (a : Int) (w : World) (e : Ending) (w' : World) : Prop where
  e : e = .returned (.int .i64 (a + 3 * n1 + 5 * n2))
  o1 : OwnA w' 115 Node.cells A1 n1 c1 (markNode a n1)
  o2 : OwnA w' 117 Pipe.cells A2 n2 c2 (markPipe (a + 3 * n1) n2)
  turn : Turn (fun b => blkOf A1 n1 = some b ∨ blkOf A2 n2 = some b) w w'
set_option maxHeartbeats 1000000 in
theorem c_markNetwork (A1 A2 : Option Addr) (n1 c1 n2 c2 : Nat) (ns : List Node) (ps : List Pipe) (a : Int) (w : World) (h1 : OwnA w 115 Node.cells A1 n1 c1 ns) (h2 : OwnA w 117 Pipe.cells A2 n2 c2 ps)
    (hap : ∀ b, blkOf A1 n1 = some b → blkOf A2 n2 ≠ some b) (m1 : n1 ≤ 1048576) (m2 : n2 ≤ 1048576) (ha0 : 0 ≤ a) (ha1 : a ≤ 1000000000) :
    Calls Tryz.prog 59 #[.agg #[.slice A1 n1 c1, .slice A2 n2 c2], .int .i64 a] w (MarkedNet A1 A2 n1 c1 n2 c2 a w) := by
  go_enter Tryz.func59, Tryz.ntmps59
  go_wp2_with fail
  refine (m_markNodeS A1 n1 c1 ns a _ (h1.ext (Ext.alloc _ _)) (by omega) (by omega) (by omega)).mono ?_
  rintro e w1 ⟨rfl, o1, t1⟩
  have hz1 : w.heap.size < w1.heap.size := by have := t1.size; simp at this; omega
  have hb1 : ∀ j, w1.cell? ⟨w.heap.size, j, none⟩ = (w.alloc (.cells #[.slice A1 n1 c1, .slice A2 n2 c2] 27)).cell? ⟨w.heap.size, j, none⟩ := fun j => t1.cell (by simp) (fun h => by have := h1.lt h; omega)
  have o2 := (h2.ext (Ext.alloc _ _)).turn t1 (fun b hb hb' => hap b hb' hb)
  go_wp2_with fail
  refine (m_markPipeS A2 n2 c2 ps _ _ o2 (by omega) (by omega) (by omega)).mono ?_
  rintro e w2 ⟨rfl, o2', t2⟩
  go_wp2_with fail
  go_ret
  exact ⟨rfl, o1.turn t2 (fun b hb hb' => hap b hb hb'), o2', (Turn.of_ext (Ext.alloc _ _)).trans ((t1.mono (fun b hb => .inl hb)).trans (t2.mono (fun b hb => .inr hb)))⟩
set_option maxHeartbeats 1000000 in
theorem c_heldNetwork (A1 A2 : Option Addr) (n1 c1 n2 c2 : Nat) (a : Int) (w : World) (h1 : SliceOf w 3 Node.cells A1 n1 c1 (markNode a n1)) (h2 : SliceOf w 5 Pipe.cells A2 n2 c2 (markPipe (a + 3 * n1) n2))
    (m1 : n1 ≤ 1048576) (m2 : n2 ≤ 1048576) (ha0 : 0 ≤ a) (ha1 : a ≤ 1000000000) :
    Calls Tryz.prog 63 #[.agg #[.slice A1 n1 c1, .slice A2 n2 c2], .int .i64 a] w (Ret (.int .i64 (a + 3 * n1 + 5 * n2)) w) := by
  go_enter Tryz.func63, Tryz.ntmps63
  go_wp2_with fail
  refine (c_heldNodeS A1 n1 c1 a _ (h1.ext (Ext.alloc _ _)) (by omega) (by omega) (by omega)).mono ?_
  rintro e w1 ⟨rfl, hx1⟩
  have hcl1 := hx1.cell
  have e1 : ¬ a + 3 * (n1 : Int) < 0 := by omega
  go_wp2_with fail
  refine (c_heldPipeS A2 n2 c2 _ _ (h2.ext hx1.box) (by omega) (by omega) (by omega)).mono ?_
  rintro e w2 ⟨rfl, rfl⟩
  have e2 : ¬ a + 3 * (n1 : Int) + 5 * (n2 : Int) < 0 := by omega
  go_wp2_with fail
  go_ret
  exact ⟨rfl, hx1.box⟩

/-- a room in blocks of its own, from lo to hi -/
structure ROwn (w : World) (lo hi : Nat) (A1 A2 A3 A4 A5 : Option Addr) (n1 c1 n2 c2 n3 c3 n4 c4 n5 c5 : Nat) (r : Room) : Prop where
  o1 : OwnA w 115 Node.cells A1 n1 c1 r.ns
  o2 : OwnA w 117 Pipe.cells A2 n2 c2 r.ps
  o3 : OwnA w 68 Contract.cells A3 n3 c3 r.xs
  o4 : OwnA w 70 Nomination.cells A4 n4 c4 r.L
  o5 : OwnA w 72 RS.cells A5 n5 c5 r.rs
  o6 : ∀ q ∈ r.rs, OwnA w 93 Reading.cells q.A q.n q.c q.xs
  ff : SepL [blkOf A1 n1, blkOf A2 n2, blkOf A3 n3, blkOf A4 n4, blkOf A5 n5]
  rr : SepL (r.rs.map fun q => blkOf q.A q.n)
  fr : ∀ b, some b ∈ [blkOf A1 n1, blkOf A2 n2, blkOf A3 n3, blkOf A4 n4, blkOf A5 n5] → ¬ rsBlk r.rs b
  rf : ∀ b, some b ∈ [blkOf A1 n1, blkOf A2 n2, blkOf A3 n3, blkOf A4 n4, blkOf A5 n5] → lo ≤ b ∧ b < hi
  rq : ∀ b, rsBlk r.rs b → lo ≤ b ∧ b < hi
section
variable {w w' : World} {lo hi : Nat} {A1 A2 A3 A4 A5 : Option Addr} {n1 c1 n2 c2 n3 c3 n4 c4 n5 c5 : Nat} {r : Room}
theorem ROwn.ext (h : ROwn w lo hi A1 A2 A3 A4 A5 n1 c1 n2 c2 n3 c3 n4 c4 n5 c5 r) (hx : Ext w w') : ROwn w' lo hi A1 A2 A3 A4 A5 n1 c1 n2 c2 n3 c3 n4 c4 n5 c5 r :=
  ⟨h.o1.ext hx, h.o2.ext hx, h.o3.ext hx, h.o4.ext hx, h.o5.ext hx, fun q hq => (h.o6 q hq).ext hx, h.ff, h.rr, h.fr, h.rf, h.rq⟩
theorem ROwn.turn {S : Nat → Prop} (h : ROwn w lo hi A1 A2 A3 A4 A5 n1 c1 n2 c2 n3 c3 n4 c4 n5 c5 r) (k : Turn S w w') (hs : ∀ b, S b → b < lo ∨ hi ≤ b) : ROwn w' lo hi A1 A2 A3 A4 A5 n1 c1 n2 c2 n3 c3 n4 c4 n5 c5 r := by
  have g : ∀ b, some b ∈ [blkOf A1 n1, blkOf A2 n2, blkOf A3 n3, blkOf A4 n4, blkOf A5 n5] → ¬ S b := fun b hb hS => by have := h.rf b hb; have := hs b hS; omega
  exact ⟨h.o1.turn k (fun b hb => g b (by simp [hb])), h.o2.turn k (fun b hb => g b (by simp [hb])), h.o3.turn k (fun b hb => g b (by simp [hb])), h.o4.turn k (fun b hb => g b (by simp [hb])), h.o5.turn k (fun b hb => g b (by simp [hb])),
    fun q hq => (h.o6 q hq).turn k (fun b hb hS => by have := h.rq b ⟨q, hq, hb⟩; have := hs b hS; omega), h.ff, h.rr, h.fr, h.rf, h.rq⟩
theorem ROwn.at_ (h : ROwn w lo hi A1 A2 A3 A4 A5 n1 c1 n2 c2 n3 c3 n4 c4 n5 c5 r) : RoomAt w A1 A2 A3 A4 A5 n1 c1 n2 c2 n3 c3 n4 c4 n5 c5 r :=
  ⟨h.o1.slice node_len, h.o2.slice pipe_len, h.o3.slice contract_len, h.o4.slice nomination_len, h.o5.slice rs_len, fun q hq => (h.o6 q hq).slice reading_len⟩
end
theorem ff_of {x1 x2 x3 x4 x5 : Option Nat} (h : SepL [x1, x2, x3, x4, x5]) (i j : Nat) (hij : i ≠ j) {b : Nat} (hi : [x1, x2, x3, x4, x5][i]? = some (some b)) : [x1, x2, x3, x4, x5][j]? ≠ some (some b) := h i j b hij hi
/-- the marks of a room -/
def markR (a : Int) (n1 n2 n3 n4 : Nat) (rs : List RS) : Room :=
  ⟨markNode a n1, markPipe (a + 3 * n1) n2, markContract (a + 3 * n1 + 5 * n2) n3, markNomination (a + 3 * n1 + 5 * n2 + 8 * n3) n4, markRS (a + 3 * n1 + 5 * n2 + 8 * n3 + 4 * n4) rs⟩
def markN (a : Int) (n1 n2 n3 n4 : Nat) (rs : List RS) : Int := a + 3 * n1 + 5 * n2 + 8 * n3 + 4 * n4 + 2 * ((rs.map RS.n).sum : Nat)
structure MarkedRoom (lo hi : Nat) (A1 A2 A3 A4 A5 : Option Addr) (n1 c1 n2 c2 n3 c3 n4 c4 n5 c5 : Nat) (rs : List RS) (a : Int) (w : World) (e : Ending) (w' : World) : Prop where
  e : e = .returned (.int .i64 (markN a n1 n2 n3 n4 rs))
  own : RoomAt w' A1 A2 A3 A4 A5 n1 c1 n2 c2 n3 c3 n4 c4 n5 c5 (markR a n1 n2 n3 n4 rs)
  turn : Turn (fun b => lo ≤ b ∧ b < hi) w w'
structure RoomSm (n1 n2 n3 n4 : Nat) (rs : List RS) : Prop where
  m1 : n1 ≤ 1048576
  m2 : n2 ≤ 1048576
  m3 : n3 ≤ 1048576
  m4 : n4 ≤ 1048576
  m5 : (rs.map RS.n).sum ≤ 1048576
set_option maxHeartbeats 2000000 in
theorem c_markRoom (lo hi : Nat) (A1 A2 A3 A4 A5 : Option Addr) (n1 c1 n2 c2 n3 c3 n4 c4 n5 c5 : Nat) (r : Room) (a : Int) (w : World) (h : ROwn w lo hi A1 A2 A3 A4 A5 n1 c1 n2 c2 n3 c3 n4 c4 n5 c5 r) (hm : RoomSm n1 n2 n3 n4 r.rs) (ha0 : 0 ≤ a) (ha1 : a ≤ 1000000) :
    Calls Tryz.prog 20 #[.agg #[.slice A1 n1 c1, .slice A2 n2 c2, .slice A3 n3 c3, .slice A4 n4 c4, .slice A5 n5 c5], .int .i64 a] w (MarkedRoom lo hi A1 A2 A3 A4 A5 n1 c1 n2 c2 n3 c3 n4 c4 n5 c5 r.rs a w) := by
  obtain ⟨m1, m2, m3, m4, m5⟩ := hm
  have h5 : ∀ b, blkOf A5 n5 = some b → ¬ rsBlk r.rs b := fun b hb => h.fr b (by simp [hb])
  have hlt : ∀ b, some b ∈ [blkOf A1 n1, blkOf A2 n2, blkOf A3 n3, blkOf A4 n4] → b < w.heap.size := by
    intro b hb
    simp only [List.mem_cons, List.not_mem_nil, or_false] at hb
    rcases hb with hb | hb | hb | hb
    · exact h.o1.lt hb.symm
    · exact h.o2.lt hb.symm
    · exact h.o3.lt hb.symm
    · exact h.o4.lt hb.symm
  have HM5 := hide m5
  have HLT := hide hlt
  clear m5 hlt
  have hin := RoomIn.new w A1 A2 A3 A4 A5 n1 c1 n2 c2 n3 c3 n4 c4 n5 c5 32
  go_enter Tryz.func20, Tryz.ntmps20
  go_wp2_with fail
  refine (c_markNetwork A1 A2 n1 c1 n2 c2 r.ns r.ps a _ (h.o1.ext (Ext.alloc _ _)) (h.o2.ext (Ext.alloc _ _)) (fun b hb hb' => h.ff 0 1 b (by decide) (by simp [hb]) (by simp [hb'])) m1 m2 (by omega) (by omega)).mono ?_
  rintro e w1 ⟨rfl, o1, o2, t1⟩
  have hz1 : w.heap.size < w1.heap.size := by have := t1.size; simp at this; omega
  have hb1 : ∀ j, w1.cell? ⟨w.heap.size, j, none⟩ = (w.alloc (.cells #[.slice A1 n1 c1, .slice A2 n2 c2, .slice A3 n3 c3, .slice A4 n4 c4, .slice A5 n5 c5] 32)).cell? ⟨w.heap.size, j, none⟩ := fun j => t1.cell (by simp) (fun h => by rcases h with h | h <;> (have := HLT.out w.heap.size (by rw [h]; simp); omega))
  have o3 := (h.o3.ext (Ext.alloc _ _)).turn t1 (fun b hb hb' => by
    rcases hb' with hb' | hb'
    · exact h.ff 0 2 b (by decide) (by simp [hb']) (by simp [hb])
    · exact h.ff 1 2 b (by decide) (by simp [hb']) (by simp [hb]))
  go_wp2_with fail
  refine (m_markContractS A3 n3 c3 r.xs _ _ o3 (by omega) (by omega) (by omega)).mono ?_
  rintro e w2 ⟨rfl, o3', t2⟩
  have hz2 : w.heap.size < w2.heap.size := by have := t2.size; omega
  have hb2 : ∀ j, w2.cell? ⟨w.heap.size, j, none⟩ = (w.alloc (.cells #[.slice A1 n1 c1, .slice A2 n2 c2, .slice A3 n3 c3, .slice A4 n4 c4, .slice A5 n5 c5] 32)).cell? ⟨w.heap.size, j, none⟩ := fun j => (t2.cell hz1 (fun h => by have := HLT.out w.heap.size (by rw [h]; simp); omega)).trans (hb1 j)
  clear hb1
  have o1a := o1.turn t2 (fun b hb hb' => h.ff 0 2 b (by decide) (by simp [hb]) (by simp [hb']))
  have o2a := o2.turn t2 (fun b hb hb' => h.ff 1 2 b (by decide) (by simp [hb]) (by simp [hb']))
  have o4 := ((h.o4.ext (Ext.alloc _ _)).turn t1 (fun b hb hb' => by
    rcases hb' with hb' | hb'
    · exact h.ff 0 3 b (by decide) (by simp [hb']) (by simp [hb])
    · exact h.ff 1 3 b (by decide) (by simp [hb']) (by simp [hb]))).turn t2 (fun b hb hb' => h.ff 2 3 b (by decide) (by simp [hb']) (by simp [hb]))
  go_wp2_with fail
  refine (m_markNominationS A4 n4 c4 r.L _ _ o4 (by omega) (by omega) (by omega)).mono ?_
  rintro e w3 ⟨rfl, o4', t3⟩
  have hz3 : w.heap.size < w3.heap.size := by have := t3.size; omega
  have hb3 : ∀ j, w3.cell? ⟨w.heap.size, j, none⟩ = (w.alloc (.cells #[.slice A1 n1 c1, .slice A2 n2 c2, .slice A3 n3 c3, .slice A4 n4 c4, .slice A5 n5 c5] 32)).cell? ⟨w.heap.size, j, none⟩ := fun j => (t3.cell hz2 (fun h => by have := HLT.out w.heap.size (by rw [h]; simp); omega)).trans (hb2 j)
  clear hb2
  have o1b := o1a.turn t3 (fun b hb hb' => h.ff 0 3 b (by decide) (by simp [hb]) (by simp [hb']))
  have o2b := o2a.turn t3 (fun b hb hb' => h.ff 1 3 b (by decide) (by simp [hb]) (by simp [hb']))
  have o3b := o3'.turn t3 (fun b hb hb' => h.ff 2 3 b (by decide) (by simp [hb]) (by simp [hb']))
  have t13 : Turn (fun b => some b ∈ [blkOf A1 n1, blkOf A2 n2, blkOf A3 n3, blkOf A4 n4]) (w.alloc (.cells #[.slice A1 n1 c1, .slice A2 n2 c2, .slice A3 n3 c3, .slice A4 n4 c4, .slice A5 n5 c5] 32)) w3 :=
    (t1.mono (fun b hb => by rcases hb with hb | hb <;> simp [hb])).trans ((t2.mono (fun b hb => by simp [hb])).trans (t3.mono (fun b hb => by simp [hb])))
  have s5 := ((h.o5.ext (Ext.alloc _ _)).turn t13 (fun b hb hb' => by
    simp only [List.mem_cons, List.not_mem_nil, or_false] at hb'
    rcases hb' with hb' | hb' | hb' | hb'
    · exact h.ff 0 4 b (by decide) (by simp [← hb']) (by simp [hb])
    · exact h.ff 1 4 b (by decide) (by simp [← hb']) (by simp [hb])
    · exact h.ff 2 4 b (by decide) (by simp [← hb']) (by simp [hb])
    · exact h.ff 3 4 b (by decide) (by simp [← hb']) (by simp [hb])))
  have o6 : ∀ q ∈ r.rs, OwnA w3 93 Reading.cells q.A q.n q.c q.xs := fun q hq => ((h.o6 q hq).ext (Ext.alloc _ _)).turn t13 (fun b hb hb' => h.fr b (by
    simp only [List.mem_cons, List.not_mem_nil, or_false] at hb' ⊢
    rcases hb' with hb' | hb' | hb' | hb' <;> simp [hb']) ⟨q, hq, hb⟩)
  clear t1 t2 t3 o1 o2 o3 o1a o2a o3' o4
  go_wp2_with fail
  refine (c_markReadingSS A5 n5 c5 r.rs _ _ (s5.slice rs_len) o6 h.rr h5 HM5.out (by omega) (by omega)).mono ?_
  rintro e w4 ⟨rfl, o6', t4⟩
  clear hb3
  go_wp2_with fail
  go_ret
  have fx : ∀ (A : Option Addr) (n : Nat), blkOf A n ∈ [blkOf A1 n1, blkOf A2 n2, blkOf A3 n3, blkOf A4 n4, blkOf A5 n5] → ∀ b, blkOf A n = some b → ¬ rsBlk r.rs b := fun A n hm b hb => h.fr b (by rw [← hb]; exact hm)
  refine ⟨rfl, ⟨(o1b.turn t4 (fx _ _ (by simp))).slice node_len, (o2b.turn t4 (fx _ _ (by simp))).slice pipe_len, (o3b.turn t4 (fx _ _ (by simp))).slice contract_len, (o4'.turn t4 (fx _ _ (by simp))).slice nomination_len, ((s5.turn t4 (fx _ _ (by simp))).same (markRS_cells _ r.rs)).slice rs_len, fun q hq => (o6' q hq).slice reading_len⟩, ?_⟩
  refine (Turn.of_ext (Ext.alloc _ _)).trans ((t13.mono fun b hb => h.rf b ?_).trans (t4.mono fun b hb => h.rq b hb))
  simp only [List.mem_cons, List.not_mem_nil, or_false] at hb ⊢
  rcases hb with hb | hb | hb | hb <;> simp [hb]
set_option maxHeartbeats 2000000 in
theorem c_heldRoom (A1 A2 A3 A4 A5 : Option Addr) (n1 c1 n2 c2 n3 c3 n4 c4 n5 c5 : Nat) (rs : List RS) (a : Int) (w : World) (h : RoomAt w A1 A2 A3 A4 A5 n1 c1 n2 c2 n3 c3 n4 c4 n5 c5 (markR a n1 n2 n3 n4 rs)) (hm : RoomSm n1 n2 n3 n4 rs) (ha0 : 0 ≤ a) (ha1 : a ≤ 1000000) :
    Calls Tryz.prog 21 #[.agg #[.slice A1 n1 c1, .slice A2 n2 c2, .slice A3 n3 c3, .slice A4 n4 c4, .slice A5 n5 c5], .int .i64 a] w (Ret (.int .i64 (markN a n1 n2 n3 n4 rs)) w) := by
  obtain ⟨m1, m2, m3, m4, m5⟩ := hm
  have HM5 := hide m5
  have hin := RoomIn.new w A1 A2 A3 A4 A5 n1 c1 n2 c2 n3 c3 n4 c4 n5 c5 32
  go_enter Tryz.func21, Tryz.ntmps21
  go_wp2_with fail
  refine (c_heldNetwork A1 A2 n1 c1 n2 c2 a _ (h.s1.ext (Ext.alloc _ _)) (h.s2.ext (Ext.alloc _ _)) m1 m2 (by omega) (by omega)).mono ?_
  rintro e w1 ⟨rfl, hx1⟩
  obtain ⟨hlt, x0, x1, x2, x3, x4⟩ := hin.ext hx1
  have e1 : ¬ a + 3 * (n1 : Int) + 5 * (n2 : Int) < 0 := by omega
  go_wp2_with fail
  refine (c_heldContractS A3 n3 c3 _ _ (h.s3.ext hx1.box) (by omega) (by omega) (by omega)).mono ?_
  rintro e w2 ⟨rfl, rfl⟩
  have e2 : ¬ a + 3 * (n1 : Int) + 5 * (n2 : Int) + 8 * (n3 : Int) < 0 := by omega
  go_wp2_with fail
  refine (c_heldNominationS A4 n4 c4 _ _ (h.s4.ext hx1.box) (by omega) (by omega) (by omega)).mono ?_
  rintro e w2 ⟨rfl, rfl⟩
  have e3 : ¬ a + 3 * (n1 : Int) + 5 * (n2 : Int) + 8 * (n3 : Int) + 4 * (n4 : Int) < 0 := by omega
  go_wp2_with fail
  refine (c_heldReadingSS A5 n5 c5 rs _ _ (h.s5.ext hx1.box) (fun q hq => (h.s6 q hq).ext hx1.box) HM5.out (by omega) (by omega)).mono ?_
  rintro e w2 ⟨rfl, hx2⟩
  have e4 : ¬ a + 3 * (n1 : Int) + 5 * (n2 : Int) + 8 * (n3 : Int) + 4 * (n4 : Int) + 2 * ((rs.map RS.n).sum : Nat) < 0 := by omega
  go_wp2_with fail
  go_ret
  exact ⟨rfl, hx1.box.trans hx2⟩
end Go.Proofs.YtjpmiokbgpggbaaGreat

namespace Go.Proofs.YtjpmiokbgpggbaaGreat
open Go.RowKit
theorem sepP {x1 x2 x3 x4 x5 : Option Nat} (h12 : ∀ b, x1 = some b → x2 ≠ some b) (h13 : ∀ b, x1 = some b → x3 ≠ some b) (h14 : ∀ b, x1 = some b → x4 ≠ some b) (h15 : ∀ b, x1 = some b → x5 ≠ some b)
    (h23 : ∀ b, x2 = some b → x3 ≠ some b) (h24 : ∀ b, x2 = some b → x4 ≠ some b) (h25 : ∀ b, x2 = some b → x5 ≠ some b) (h34 : ∀ b, x3 = some b → x4 ≠ some b) (h35 : ∀ b, x3 = some b → x5 ≠ some b) (h45 : ∀ b, x4 = some b → x5 ≠ some b) : SepL [x1, x2, x3, x4, x5] := by
  intro i j b hij hi hj
  have key : ∀ i, [x1, x2, x3, x4, x5][i]? = some (some b) → (i = 0 ∧ x1 = some b) ∨ (i = 1 ∧ x2 = some b) ∨ (i = 2 ∧ x3 = some b) ∨ (i = 3 ∧ x4 = some b) ∨ (i = 4 ∧ x5 = some b) := by
    intro i hi
    match i with
    | 0 => simp at hi; exact .inl ⟨rfl, hi⟩
    | 1 => simp at hi; exact .inr (.inl ⟨rfl, hi⟩)
    | 2 => simp at hi; exact .inr (.inr (.inl ⟨rfl, hi⟩))
    | 3 => simp at hi; exact .inr (.inr (.inr (.inl ⟨rfl, hi⟩)))
    | 4 => simp at hi; exact .inr (.inr (.inr (.inr ⟨rfl, hi⟩)))
    | i + 5 => simp at hi
  rcases key i hi with ⟨rfl, h⟩ | ⟨rfl, h⟩ | ⟨rfl, h⟩ | ⟨rfl, h⟩ | ⟨rfl, h⟩ <;> rcases key j hj with ⟨rfl, h'⟩ | ⟨rfl, h'⟩ | ⟨rfl, h'⟩ | ⟨rfl, h'⟩ | ⟨rfl, h'⟩ <;>
    first
    | exact hij rfl
    | exact h12 b h h'
    | exact h13 b h h'
    | exact h14 b h h'
    | exact h15 b h h'
    | exact h23 b h h'
    | exact h24 b h h'
    | exact h25 b h h'
    | exact h34 b h h'
    | exact h35 b h h'
    | exact h45 b h h'
    | exact h12 b h' h
    | exact h13 b h' h
    | exact h14 b h' h
    | exact h15 b h' h
    | exact h23 b h' h
    | exact h24 b h' h
    | exact h25 b h' h
    | exact h34 b h' h
    | exact h35 b h' h
    | exact h45 b h' h
theorem Row.new' {W : World} {g : Nat} {t : TypeId} {cs : List Value} (hg : g = W.heap.size) : Row (W.alloc (.cells cs.toArray t)) g t cs := by subst hg; exact Row.new W t cs
theorem blk_zero (A : Option Addr) (b : Nat) : blkOf A 0 ≠ some b := by simp [blkOf]
def newR (ns : List Node) (ps : List Pipe) (xs : List Contract) : Room := ⟨ns, ps, xs, [], [⟨none, 0, 0, []⟩]⟩
def RetRoom (R : Room) (w : World) (e : Ending) (w' : World) : Prop :=
  ∃ (A1 A2 A3 A4 A5 : Option Addr) (n1 c1 n2 c2 n3 c3 n4 c4 n5 c5 : Nat) (r' : Room), e = .returned (.agg #[.slice A1 n1 c1, .slice A2 n2 c2, .slice A3 n3 c3, .slice A4 n4 c4, .slice A5 n5 c5]) ∧ ROwn w' w.heap.size w'.heap.size A1 A2 A3 A4 A5 n1 c1 n2 c2 n3 c3 n4 c4 n5 c5 r' ∧ r'.Like R ∧ Ext w w'
def BXR : Array Value := #[.slice none 0 0, .slice none 0 0, .slice none 0 0, .slice none 0 0, .slice none 0 0]
theorem OwnA.set5 {α : Type} {w : World} {t : TypeId} {f : α → List Value} {A : Option Addr} {n c : Nat} {xs : List α} (h : OwnA w t f A n c xs) {g : Nat} (hg : ∀ b, blkOf A n = some b → b ≠ g) (u0 u1 u2 u3 u4 : Value) :
    OwnA (((((w.setCell ⟨g, 0, none⟩ u0).setCell ⟨g, 1, none⟩ u1).setCell ⟨g, 2, none⟩ u2).setCell ⟨g, 3, none⟩ u3).setCell ⟨g, 4, none⟩ u4) t f A n c xs :=
  ((((h.far (p := ⟨g, 0, none⟩) hg u0).far (p := ⟨g, 1, none⟩) hg u1).far (p := ⟨g, 2, none⟩) hg u2).far (p := ⟨g, 3, none⟩) hg u3).far (p := ⟨g, 4, none⟩) hg u4
set_option maxHeartbeats 2000000 in
theorem c_newRoom (A1 A2 : Option Addr) (n1 c1 n2 c2 : Nat) (ns : List Node) (ps : List Pipe) (A : Option Addr) (n c : Nat) (xs : List Contract) (w : World) (h1 : SliceOf w 3 Node.cells A1 n1 c1 ns) (h2 : SliceOf w 5 Pipe.cells A2 n2 c2 ps) (hs : SliceOf w 8 Contract.cells A n c xs)
    (m1 : n1 ≤ 1048576) (m2 : n2 ≤ 1048576) (m3 : n ≤ 1048576) :
    Calls Tryz.prog 50 #[.agg #[.slice A1 n1 c1, .slice A2 n2 c2], .slice A n c] w (RetRoom (newR ns ps xs) w) := by
  have x0 : Ext w ((w.alloc (.cells #[.slice A1 n1 c1, .slice A2 n2 c2] 27)).alloc (.cells #[.slice none 0 0, .slice none 0 0, .slice none 0 0, .slice none 0 0, .slice none 0 0] 32)) := (Ext.alloc _ _).and_alloc _
  go_enter Tryz.func50, Tryz.ntmps50
  go_wp2_with fail
  refine (c_cloneNetwork A1 A2 n1 c1 n2 c2 ns ps _ (h1.ext x0) (h2.ext x0) m1 m2).mono ?_
  rintro e w1 ⟨B1, k1, d1, B2, k2, d2, rfl, o1, o2, b1, b2, b12, hx1⟩
  have hz1 := hx1.size
  simp at hz1
  go_wp2_with fail
  refine (c_cloneContract A n c xs _ (hs.ext (x0.trans hx1)) m3).mono ?_
  rintro e w2 ⟨B3, k3, d3, rfl, o3, b3, hx2⟩
  have hz2 := hx2.size
  have hx02 := hx1.trans hx2
  have hcl := hx02.cell
  have hfr := hx02.frozen
  have hz3 : w.heap.size + 1 < w2.heap.size := by omega
  go_wp2
  have f1 : ∀ b, blkOf B1 k1 = some b → b ≠ w.heap.size + 1 := fun b hb => by have := b1 b hb; simp at this; omega
  have f2 : ∀ b, blkOf B2 k2 = some b → b ≠ w.heap.size + 1 := fun b hb => by have := b2 b hb; simp at this; omega
  have f3 : ∀ b, blkOf B3 k3 = some b → b ≠ w.heap.size + 1 := fun b hb => by have := b3 b hb; omega
  have g5 : ∀ b, blkOf (some ⟨w2.heap.size, 0, none⟩) 1 = some b → b = w2.heap.size := fun b hb => by simp [blkOf] at hb; exact hb.symm
  refine bodyPost_ret (v := .agg #[.slice B1 k1 d1, .slice B2 k2 d2, .slice B3 k3 d3, .slice none 0 0, .slice (some ⟨w2.heap.size, 0, none⟩) 1 1]) (by simp [results, Tryz.results50, go_sem, hcl, hz3]) rfl
    ⟨B1, B2, B3, none, some ⟨w2.heap.size, 0, none⟩, k1, d1, k2, d2, k3, d3, 0, 0, 1, 1, newR ns ps xs, rfl, ⟨?_, ?_, ?_, ?_, ?_, ?_, ?_, ?_, ?_, ?_, ?_⟩, ⟨rfl, rfl, rfl, rfl, rfl⟩, ?_⟩
  · exact ((o1.ext hx2).set5 f1 _ _ _ _ _).ext (Ext.alloc _ _)
  · exact ((o2.ext hx2).set5 f2 _ _ _ _ _).ext (Ext.alloc _ _)
  · exact (o3.set5 f3 _ _ _ _ _).ext (Ext.alloc _ _)
  · exact ⟨rfl, by omega, by omega, fun h => absurd h (by omega)⟩
  · exact ⟨rfl, by omega, by omega, fun _ => ⟨w2.heap.size, rfl, [], Row.new' (by simp)⟩⟩
  · intro q hq
    simp [newR] at hq
    subst hq
    exact ⟨rfl, by simp, by simp, fun h => absurd h (by simp)⟩
  · refine sepP b12 (fun b h h' => ?_) (fun b _ h' => blk_zero _ _ h') (fun b h h' => ?_) (fun b h h' => ?_) (fun b _ h' => blk_zero _ _ h') (fun b h h' => ?_) (fun b _ h' => blk_zero _ _ h') (fun b h h' => ?_) (fun b h _ => blk_zero _ _ h)
    · have := o1.lt h; have := b3 b h'; omega
    · have := o1.lt h; have := g5 b h'; omega
    · have := o2.lt h; have := b3 b h'; omega
    · have := o2.lt h; have := g5 b h'; omega
    · have := o3.lt h; have := g5 b h'; omega
  · intro i j b hij hi hj
    simp [newR, blkOf, List.getElem?_singleton] at hi
  · rintro b _ ⟨q, hq, hb⟩
    simp [newR] at hq
    subst hq
    exact blk_zero _ _ hb
  · intro b hb
    simp only [List.mem_cons, List.not_mem_nil, or_false] at hb
    simp
    rcases hb with hb | hb | hb | hb | hb
    · have := o1.lt hb.symm; have := b1 b hb.symm; simp at this; omega
    · have := o2.lt hb.symm; have := b2 b hb.symm; simp at this; omega
    · have := o3.lt hb.symm; have := b3 b hb.symm; omega
    · exact absurd hb.symm (blk_zero _ _)
    · have := g5 b hb.symm; omega
  · rintro b ⟨q, hq, hb⟩
    simp [newR] at hq
    subst hq
    exact absurd hb (blk_zero _ _)
  · refine Ext.and_alloc ?_ _
    repeat (refine Ext.setCell ?_ (by first | (simp; done) | (simp; omega) | omega) _)
    exact x0.trans hx02
end Go.Proofs.YtjpmiokbgpggbaaGreat
