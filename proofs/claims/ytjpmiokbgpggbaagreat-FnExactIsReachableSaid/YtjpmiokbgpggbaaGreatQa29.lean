/-
  The helpers of the laws on whole rooms: marking, and looking at the marks.
-/
import Derived.Test.YtjpmiokbgpggbaaGreatQa28
namespace Go.Proofs.YtjpmiokbgpggbaaGreat
open Go.RowKit
structure MarkedNet (A1 A2 : Option Addr) (n1 c1 n2 c2 : Nat) (a : Int) (w : World) (e : Ending) (w' : World) : Prop where
  e : e = .returned (.int .i64 (a + 3 * n1 + 5 * n2))
  o1 : OwnA w' 115 Node.cells A1 n1 c1 (markNode a n1)
  o2 : OwnA w' 117 Pipe.cells A2 n2 c2 (markPipe (a + 3 * n1) n2)
  turn : Turn (fun b => blkOf A1 n1 = some b ∨ blkOf A2 n2 = some b) w w'
set_option maxHeartbeats 1000000 in
theorem c_markNetwork (A1 A2 : Option Addr) (n1 c1 n2 c2 : Nat) (ns : List Node) (ps : List Pipe) (a : Int) (w : World) (h1 : OwnA w 115 Node.cells A1 n1 c1 ns) (h2 : OwnA w 117 Pipe.cells A2 n2 c2 ps)
    (hap : ∀ b, blkOf A1 n1 = some b → blkOf A2 n2 ≠ some b) (m1 : n1 ≤ 1048576) (m2 : n2 ≤ 1048576) (ha0 : 0 ≤ a) (ha1 : a ≤ 1000000000) :
    Calls Tryz.prog 59 #[.agg #[.slice A1 n1 c1, .slice A2 n2 c2], .int .i64 a] w (MarkedNet A1 A2 n1 c1 n2 c2 a w) := by
  go_enter Tryz.func59, Tryz.ntmps59
  go_wp2_with fail
  refine (m_markNodeS A1 n1 c1 ns a _ (h1.ext (Ext.alloc _ _)) (by omega) (by omega) (by omega)).mono ?_
  rintro e w1 ⟨rfl, o1, t1⟩
  have hz1 : w.heap.size < w1.heap.size := by have := t1.size; simp at this; omega
  have hb1 : ∀ j, w1.cell? ⟨w.heap.size, j, none⟩ = (w.alloc (.cells #[.slice A1 n1 c1, .slice A2 n2 c2] 27)).cell? ⟨w.heap.size, j, none⟩ := fun j => t1.cell (by simp) (fun h => by have := h1.lt h; omega)
  have o2 := (h2.ext (Ext.alloc _ _)).turn t1 (fun b hb hb' => hap b hb' hb)
  go_wp2_with fail
  refine (m_markPipeS A2 n2 c2 ps _ _ o2 (by omega) (by omega) (by omega)).mono ?_
  rintro e w2 ⟨rfl, o2', t2⟩
  go_wp2_with fail
  go_ret
  exact ⟨rfl, o1.turn t2 (fun b hb hb' => hap b hb hb'), o2', (Turn.of_ext (Ext.alloc _ _)).trans ((t1.mono (fun b hb => .inl hb)).trans (t2.mono (fun b hb => .inr hb)))⟩
set_option maxHeartbeats 1000000 in
theorem c_heldNetwork (A1 A2 : Option Addr) (n1 c1 n2 c2 : Nat) (a : Int) (w : World) (h1 : SliceOf w 3 Node.cells A1 n1 c1 (markNode a n1)) (h2 : SliceOf w 5 Pipe.cells A2 n2 c2 (markPipe (a + 3 * n1) n2))
    (m1 : n1 ≤ 1048576) (m2 : n2 ≤ 1048576) (ha0 : 0 ≤ a) (ha1 : a ≤ 1000000000) :
    Calls Tryz.prog 63 #[.agg #[.slice A1 n1 c1, .slice A2 n2 c2], .int .i64 a] w (Ret (.int .i64 (a + 3 * n1 + 5 * n2)) w) := by
  go_enter Tryz.func63, Tryz.ntmps63
  go_wp2_with fail
  refine (c_heldNodeS A1 n1 c1 a _ (h1.ext (Ext.alloc _ _)) (by omega) (by omega) (by omega)).mono ?_
  rintro e w1 ⟨rfl, hx1⟩
  have hcl1 := hx1.cell
  have e1 : ¬ a + 3 * (n1 : Int) < 0 := by omega
  go_wp2_with fail
  refine (c_heldPipeS A2 n2 c2 _ _ (h2.ext hx1.box) (by omega) (by omega) (by omega)).mono ?_
  rintro e w2 ⟨rfl, rfl⟩
  have e2 : ¬ a + 3 * (n1 : Int) + 5 * (n2 : Int) < 0 := by omega
  go_wp2_with fail
  go_ret
  exact ⟨rfl, hx1.box⟩

/-- a room in blocks of its own, from lo to hi -/
structure ROwn (w : World) (lo hi : Nat) (A1 A2 A3 A4 A5 : Option Addr) (n1 c1 n2 c2 n3 c3 n4 c4 n5 c5 : Nat) (r : Room) : Prop where
  o1 : OwnA w 115 Node.cells A1 n1 c1 r.ns
  o2 : OwnA w 117 Pipe.cells A2 n2 c2 r.ps
  o3 : OwnA w 68 Contract.cells A3 n3 c3 r.xs
  o4 : OwnA w 70 Nomination.cells A4 n4 c4 r.L
  o5 : OwnA w 72 RS.cells A5 n5 c5 r.rs
  o6 : ∀ q ∈ r.rs, OwnA w 93 Reading.cells q.A q.n q.c q.xs
  ff : SepL [blkOf A1 n1, blkOf A2 n2, blkOf A3 n3, blkOf A4 n4, blkOf A5 n5]
  rr : SepL (r.rs.map fun q => blkOf q.A q.n)
  fr : ∀ b, some b ∈ [blkOf A1 n1, blkOf A2 n2, blkOf A3 n3, blkOf A4 n4, blkOf A5 n5] → ¬ rsBlk r.rs b
  rf : ∀ b, some b ∈ [blkOf A1 n1, blkOf A2 n2, blkOf A3 n3, blkOf A4 n4, blkOf A5 n5] → lo ≤ b ∧ b < hi
  rq : ∀ b, rsBlk r.rs b → lo ≤ b ∧ b < hi
section
variable {w w' : World} {lo hi : Nat} {A1 A2 A3 A4 A5 : Option Addr} {n1 c1 n2 c2 n3 c3 n4 c4 n5 c5 : Nat} {r : Room}
theorem ROwn.ext (h : ROwn w lo hi A1 A2 A3 A4 A5 n1 c1 n2 c2 n3 c3 n4 c4 n5 c5 r) (hx : Ext w w') : ROwn w' lo hi A1 A2 A3 A4 A5 n1 c1 n2 c2 n3 c3 n4 c4 n5 c5 r :=
  ⟨h.o1.ext hx, h.o2.ext hx, h.o3.ext hx, h.o4.ext hx, h.o5.ext hx, fun q hq => (h.o6 q hq).ext hx, h.ff, h.rr, h.fr, h.rf, h.rq⟩
theorem ROwn.turn {S : Nat → Prop} (h : ROwn w lo hi A1 A2 A3 A4 A5 n1 c1 n2 c2 n3 c3 n4 c4 n5 c5 r) (k : Turn S w w') (hs : ∀ b, S b → b < lo ∨ hi ≤ b) : ROwn w' lo hi A1 A2 A3 A4 A5 n1 c1 n2 c2 n3 c3 n4 c4 n5 c5 r := by
  have g : ∀ b, some b ∈ [blkOf A1 n1, blkOf A2 n2, blkOf A3 n3, blkOf A4 n4, blkOf A5 n5] → ¬ S b := fun b hb hS => by have := h.rf b hb; have := hs b hS; omega
  exact ⟨h.o1.turn k (fun b hb => g b (by simp [hb])), h.o2.turn k (fun b hb => g b (by simp [hb])), h.o3.turn k (fun b hb => g b (by simp [hb])), h.o4.turn k (fun b hb => g b (by simp [hb])), h.o5.turn k (fun b hb => g b (by simp [hb])),
    fun q hq => (h.o6 q hq).turn k (fun b hb hS => by have := h.rq b ⟨q, hq, hb⟩; have := hs b hS; omega), h.ff, h.rr, h.fr, h.rf, h.rq⟩
theorem ROwn.at_ (h : ROwn w lo hi A1 A2 A3 A4 A5 n1 c1 n2 c2 n3 c3 n4 c4 n5 c5 r) : RoomAt w A1 A2 A3 A4 A5 n1 c1 n2 c2 n3 c3 n4 c4 n5 c5 r :=
  ⟨h.o1.slice node_len, h.o2.slice pipe_len, h.o3.slice contract_len, h.o4.slice nomination_len, h.o5.slice rs_len, fun q hq => (h.o6 q hq).slice reading_len⟩
end
theorem ff_of {x1 x2 x3 x4 x5 : Option Nat} (h : SepL [x1, x2, x3, x4, x5]) (i j : Nat) (hij : i ≠ j) {b : Nat} (hi : [x1, x2, x3, x4, x5][i]? = some (some b)) : [x1, x2, x3, x4, x5][j]? ≠ some (some b) := h i j b hij hi
/-- the marks of a room -/
def markR (a : Int) (n1 n2 n3 n4 : Nat) (rs : List RS) : Room :=
  ⟨markNode a n1, markPipe (a + 3 * n1) n2, markContract (a + 3 * n1 + 5 * n2) n3, markNomination (a + 3 * n1 + 5 * n2 + 8 * n3) n4, markRS (a + 3 * n1 + 5 * n2 + 8 * n3 + 4 * n4) rs⟩
def markN (a : Int) (n1 n2 n3 n4 : Nat) (rs : List RS) : Int := a + 3 * n1 + 5 * n2 + 8 * n3 + 4 * n4 + 2 * ((rs.map RS.n).sum : Nat)
structure MarkedRoom (lo hi : Nat) (A1 A2 A3 A4 A5 : Option Addr) (n1 c1 n2 c2 n3 c3 n4 c4 n5 c5 : Nat) (rs : List RS) (a : Int) (w : World) (e : Ending) (w' : World) : Prop where
  e : e = .returned (.int .i64 (markN a n1 n2 n3 n4 rs))
  own : RoomAt w' A1 A2 A3 A4 A5 n1 c1 n2 c2 n3 c3 n4 c4 n5 c5 (markR a n1 n2 n3 n4 rs)
  turn : Turn (fun b => lo ≤ b ∧ b < hi) w w'
structure RoomSm (n1 n2 n3 n4 : Nat) (rs : List RS) : Prop where
  m1 : n1 ≤ 1048576
  m2 : n2 ≤ 1048576
  m3 : n3 ≤ 1048576
  m4 : n4 ≤ 1048576
  m5 : (rs.map RS.n).sum ≤ 1048576
set_option maxHeartbeats 2000000 in
theorem c_markRoom (lo hi : Nat) (A1 A2 A3 A4 A5 : Option Addr) (n1 c1 n2 c2 n3 c3 n4 c4 n5 c5 : Nat) (r : Room) (a : Int) (w : World) (h : ROwn w lo hi A1 A2 A3 A4 A5 n1 c1 n2 c2 n3 c3 n4 c4 n5 c5 r) (hm : RoomSm n1 n2 n3 n4 r.rs) (ha0 : 0 ≤ a) (ha1 : a ≤ 1000000) :
    Calls Tryz.prog 20 #[.agg #[.slice A1 n1 c1, .slice A2 n2 c2, .slice A3 n3 c3, .slice A4 n4 c4, .slice A5 n5 c5], .int .i64 a] w (MarkedRoom lo hi A1 A2 A3 A4 A5 n1 c1 n2 c2 n3 c3 n4 c4 n5 c5 r.rs a w) := by
  obtain ⟨m1, m2, m3, m4, m5⟩ := hm
  have h5 : ∀ b, blkOf A5 n5 = some b → ¬ rsBlk r.rs b := fun b hb => h.fr b (by simp [hb])
  have hlt : ∀ b, some b ∈ [blkOf A1 n1, blkOf A2 n2, blkOf A3 n3, blkOf A4 n4] → b < w.heap.size := by
    intro b hb
    simp only [List.mem_cons, List.not_mem_nil, or_false] at hb
    rcases hb with hb | hb | hb | hb
    · exact h.o1.lt hb.symm
    · exact h.o2.lt hb.symm
    · exact h.o3.lt hb.symm
    · exact h.o4.lt hb.symm
  have HM5 := hide m5
  have HLT := hide hlt
  clear m5 hlt
  have hin := RoomIn.new w A1 A2 A3 A4 A5 n1 c1 n2 c2 n3 c3 n4 c4 n5 c5 32
  go_enter Tryz.func20, Tryz.ntmps20
  go_wp2_with fail
  refine (c_markNetwork A1 A2 n1 c1 n2 c2 r.ns r.ps a _ (h.o1.ext (Ext.alloc _ _)) (h.o2.ext (Ext.alloc _ _)) (fun b hb hb' => h.ff 0 1 b (by decide) (by simp [hb]) (by simp [hb'])) m1 m2 (by omega) (by omega)).mono ?_
  rintro e w1 ⟨rfl, o1, o2, t1⟩
  have hz1 : w.heap.size < w1.heap.size := by have := t1.size; simp at this; omega
  have hb1 : ∀ j, w1.cell? ⟨w.heap.size, j, none⟩ = (w.alloc (.cells #[.slice A1 n1 c1, .slice A2 n2 c2, .slice A3 n3 c3, .slice A4 n4 c4, .slice A5 n5 c5] 32)).cell? ⟨w.heap.size, j, none⟩ := fun j => t1.cell (by simp) (fun h => by rcases h with h | h <;> (have := HLT.out w.heap.size (by rw [h]; simp); omega))
  have o3 := (h.o3.ext (Ext.alloc _ _)).turn t1 (fun b hb hb' => by
    rcases hb' with hb' | hb'
    · exact h.ff 0 2 b (by decide) (by simp [hb']) (by simp [hb])
    · exact h.ff 1 2 b (by decide) (by simp [hb']) (by simp [hb]))
  go_wp2_with fail
  refine (m_markContractS A3 n3 c3 r.xs _ _ o3 (by omega) (by omega) (by omega)).mono ?_
  rintro e w2 ⟨rfl, o3', t2⟩
  have hz2 : w.heap.size < w2.heap.size := by have := t2.size; omega
  have hb2 : ∀ j, w2.cell? ⟨w.heap.size, j, none⟩ = (w.alloc (.cells #[.slice A1 n1 c1, .slice A2 n2 c2, .slice A3 n3 c3, .slice A4 n4 c4, .slice A5 n5 c5] 32)).cell? ⟨w.heap.size, j, none⟩ := fun j => (t2.cell hz1 (fun h => by have := HLT.out w.heap.size (by rw [h]; simp); omega)).trans (hb1 j)
  clear hb1
  have o1a := o1.turn t2 (fun b hb hb' => h.ff 0 2 b (by decide) (by simp [hb]) (by simp [hb']))
  have o2a := o2.turn t2 (fun b hb hb' => h.ff 1 2 b (by decide) (by simp [hb]) (by simp [hb']))
  have o4 := ((h.o4.ext (Ext.alloc _ _)).turn t1 (fun b hb hb' => by
    rcases hb' with hb' | hb'
    · exact h.ff 0 3 b (by decide) (by simp [hb']) (by simp [hb])
    · exact h.ff 1 3 b (by decide) (by simp [hb']) (by simp [hb]))).turn t2 (fun b hb hb' => h.ff 2 3 b (by decide) (by simp [hb']) (by simp [hb]))
  go_wp2_with fail
  refine (m_markNominationS A4 n4 c4 r.L _ _ o4 (by omega) (by omega) (by omega)).mono ?_
  rintro e w3 ⟨rfl, o4', t3⟩
  have hz3 : w.heap.size < w3.heap.size := by have := t3.size; omega
  have hb3 : ∀ j, w3.cell? ⟨w.heap.size, j, none⟩ = (w.alloc (.cells #[.slice A1 n1 c1, .slice A2 n2 c2, .slice A3 n3 c3, .slice A4 n4 c4, .slice A5 n5 c5] 32)).cell? ⟨w.heap.size, j, none⟩ := fun j => (t3.cell hz2 (fun h => by have := HLT.out w.heap.size (by rw [h]; simp); omega)).trans (hb2 j)
  clear hb2
  have o1b := o1a.turn t3 (fun b hb hb' => h.ff 0 3 b (by decide) (by simp [hb]) (by simp [hb']))
  have o2b := o2a.turn t3 (fun b hb hb' => h.ff 1 3 b (by decide) (by simp [hb]) (by simp [hb']))
  have o3b := o3'.turn t3 (fun b hb hb' => h.ff 2 3 b (by decide) (by simp [hb]) (by simp [hb']))
  have t13 : Turn (fun b => some b ∈ [blkOf A1 n1, blkOf A2 n2, blkOf A3 n3, blkOf A4 n4]) (w.alloc (.cells #[.slice A1 n1 c1, .slice A2 n2 c2, .slice A3 n3 c3, .slice A4 n4 c4, .slice A5 n5 c5] 32)) w3 :=
    (t1.mono (fun b hb => by rcases hb with hb | hb <;> simp [hb])).trans ((t2.mono (fun b hb => by simp [hb])).trans (t3.mono (fun b hb => by simp [hb])))
  have s5 := ((h.o5.ext (Ext.alloc _ _)).turn t13 (fun b hb hb' => by
    simp only [List.mem_cons, List.not_mem_nil, or_false] at hb'
    rcases hb' with hb' | hb' | hb' | hb'
    · exact h.ff 0 4 b (by decide) (by simp [← hb']) (by simp [hb])
    · exact h.ff 1 4 b (by decide) (by simp [← hb']) (by simp [hb])
    · exact h.ff 2 4 b (by decide) (by simp [← hb']) (by simp [hb])
    · exact h.ff 3 4 b (by decide) (by simp [← hb']) (by simp [hb])))
  have o6 : ∀ q ∈ r.rs, OwnA w3 93 Reading.cells q.A q.n q.c q.xs := fun q hq => ((h.o6 q hq).ext (Ext.alloc _ _)).turn t13 (fun b hb hb' => h.fr b (by
    simp only [List.mem_cons, List.not_mem_nil, or_false] at hb' ⊢
    rcases hb' with hb' | hb' | hb' | hb' <;> simp [hb']) ⟨q, hq, hb⟩)
  clear t1 t2 t3 o1 o2 o3 o1a o2a o3' o4
  go_wp2_with fail
  refine (c_markReadingSS A5 n5 c5 r.rs _ _ (s5.slice rs_len) o6 h.rr h5 HM5.out (by omega) (by omega)).mono ?_
  rintro e w4 ⟨rfl, o6', t4⟩
  clear hb3
  go_wp2_with fail
  go_ret
  have fx : ∀ (A : Option Addr) (n : Nat), blkOf A n ∈ [blkOf A1 n1, blkOf A2 n2, blkOf A3 n3, blkOf A4 n4, blkOf A5 n5] → ∀ b, blkOf A n = some b → ¬ rsBlk r.rs b := fun A n hm b hb => h.fr b (by rw [← hb]; exact hm)
  refine ⟨rfl, ⟨(o1b.turn t4 (fx _ _ (by simp))).slice node_len, (o2b.turn t4 (fx _ _ (by simp))).slice pipe_len, (o3b.turn t4 (fx _ _ (by simp))).slice contract_len, (o4'.turn t4 (fx _ _ (by simp))).slice nomination_len, ((s5.turn t4 (fx _ _ (by simp))).same (markRS_cells _ r.rs)).slice rs_len, fun q hq => (o6' q hq).slice reading_len⟩, ?_⟩
  refine (Turn.of_ext (Ext.alloc _ _)).trans ((t13.mono fun b hb => h.rf b ?_).trans (t4.mono fun b hb => h.rq b hb))
  simp only [List.mem_cons, List.not_mem_nil, or_false] at hb ⊢
  rcases hb with hb | hb | hb | hb <;> simp [hb]
set_option maxHeartbeats 2000000 in
theorem c_heldRoom (A1 A2 A3 A4 A5 : Option Addr) (n1 c1 n2 c2 n3 c3 n4 c4 n5 c5 : Nat) (rs : List RS) (a : Int) (w : World) (h : RoomAt w A1 A2 A3 A4 A5 n1 c1 n2 c2 n3 c3 n4 c4 n5 c5 (markR a n1 n2 n3 n4 rs)) (hm : RoomSm n1 n2 n3 n4 rs) (ha0 : 0 ≤ a) (ha1 : a ≤ 1000000) :
    Calls Tryz.prog 21 #[.agg #[.slice A1 n1 c1, .slice A2 n2 c2, .slice A3 n3 c3, .slice A4 n4 c4, .slice A5 n5 c5], .int .i64 a] w (Ret (.int .i64 (markN a n1 n2 n3 n4 rs)) w) := by
  obtain ⟨m1, m2, m3, m4, m5⟩ := hm
  have HM5 := hide m5
  have hin := RoomIn.new w A1 A2 A3 A4 A5 n1 c1 n2 c2 n3 c3 n4 c4 n5 c5 32
  go_enter Tryz.func21, Tryz.ntmps21
  go_wp2_with fail
  refine (c_heldNetwork A1 A2 n1 c1 n2 c2 a _ (h.s1.ext (Ext.alloc _ _)) (h.s2.ext (Ext.alloc _ _)) m1 m2 (by omega) (by omega)).mono ?_
  rintro e w1 ⟨rfl, hx1⟩
  obtain ⟨hlt, x0, x1, x2, x3, x4⟩ := hin.ext hx1
  have e1 : ¬ a + 3 * (n1 : Int) + 5 * (n2 : Int) < 0 := by omega
  go_wp2_with fail
  refine (c_heldContractS A3 n3 c3 _ _ (h.s3.ext hx1.box) (by omega) (by omega) (by omega)).mono ?_
  rintro e w2 ⟨rfl, rfl⟩
  have e2 : ¬ a + 3 * (n1 : Int) + 5 * (n2 : Int) + 8 * (n3 : Int) < 0 := by omega
  go_wp2_with fail
  refine (c_heldNominationS A4 n4 c4 _ _ (h.s4.ext hx1.box) (by omega) (by omega) (by omega)).mono ?_
  rintro e w2 ⟨rfl, rfl⟩
  have e3 : ¬ a + 3 * (n1 : Int) + 5 * (n2 : Int) + 8 * (n3 : Int) + 4 * (n4 : Int) < 0 := by omega
  go_wp2_with fail
  refine (c_heldReadingSS A5 n5 c5 rs _ _ (h.s5.ext hx1.box) (fun q hq => (h.s6 q hq).ext hx1.box) HM5.out (by omega) (by omega)).mono ?_
  rintro e w2 ⟨rfl, hx2⟩
  have e4 : ¬ a + 3 * (n1 : Int) + 5 * (n2 : Int) + 8 * (n3 : Int) + 4 * (n4 : Int) + 2 * ((rs.map RS.n).sum : Nat) < 0 := by omega
  go_wp2_with fail
  go_ret
  exact ⟨rfl, hx1.box.trans hx2⟩
end Go.Proofs.YtjpmiokbgpggbaaGreat
