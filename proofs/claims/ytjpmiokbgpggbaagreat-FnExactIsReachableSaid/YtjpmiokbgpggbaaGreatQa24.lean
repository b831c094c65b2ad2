/-
  The helpers of the laws on rooms: comparing, measuring, copying.
-/
import Derived.Test.YtjpmiokbgpggbaaGreatQa23
namespace Go.Proofs.YtjpmiokbgpggbaaGreat
open Go.RowKit
set_option maxHeartbeats 1000000 in
theorem c_eqReadingSS (A A' : Option Addr) (n c n' c' : Nat) (rs rs' : List RS) (w : World) (hs : SliceOf w 1 RS.cells A n c rs) (h6 : ∀ q ∈ rs, SliceOf w 2 Reading.cells q.A q.n q.c q.xs) (hs' : SliceOf w 1 RS.cells A' n' c' rs') (h6' : ∀ q ∈ rs', SliceOf w 2 Reading.cells q.A q.n q.c q.xs) (he : rs.map RS.xs = rs'.map RS.xs) :
    Calls Tryz.prog 58 #[.slice A n c, .slice A' n' c'] w (Ret (.bool true) w) := by
  obtain rfl : n = n' := by have := congrArg List.length he; simp at this; rw [hs.len, hs'.len, this]
  have HE := hide he
  have hm := hs.max
  have hcp := hs.cap
  clear he
  go_enter Tryz.func58, Tryz.ntmps58
  go_wp2_with fail
  go_loopw [5] (fun i wr => ∃ (k : Nat), k ≤ n ∧ i = .int .i64 k ∧ Ext w wr) (fun i _ => n - (intOf i).toNat)
  case atStart => exact ⟨0, Nat.zero_le _, rfl, Ext.refl _⟩
  case round =>
    obtain ⟨k, hk, rfl, hx⟩ := hrel
    by_cases hlt : k < n
    · obtain ⟨b, off, x, rfl, hb, hxk, hc⟩ := (hs.ext hx).get hlt
      obtain ⟨b', off', x', rfl, hb', hxk', hc'⟩ := (hs'.ext hx).get hlt
      have hxx : x.xs = x'.xs := by
        have h1 := congrArg (fun l => l[k]?) HE.out
        simp only [List.getElem?_map, hxk, hxk', Option.map_some, Option.some.injEq] at h1
        exact h1
      have s1 := (h6 x (List.mem_of_getElem? hxk)).ext hx
      have s2 := (h6' x' (List.mem_of_getElem? hxk')).ext hx
      rw [← hxx] at s2
      have hc0 := hc 0 _ rfl
      have hd0 := hc' 0 _ rfl
      clear hc hc' hxk hxk' hxx
      simp only [Nat.add_zero, Nat.mul_one] at hc0 hd0
      go_wp2_with fail
      refine wp_region_later (by kernel_rfl) (by kernel_rfl) ?_
      repeat (go_big_quiet_step ((go_at_call 100; exact quiet_later (c_eqReadingS x.A x'.A x.n x.c x'.n x'.c x.xs _ (s1.ext (ext_later _ _)) (s2.ext (ext_later _ _))))))
      refine wpQuiet_nil ?_
      intro w1 hx1
      go_wp2
      go_roundw
      case rel => exact ⟨k + 1, by omega, by go_num, hx.trans hx1⟩
      case measure => simp [intOf]; omega
    · go_wp2
      go_ret
      exact Ret.bool rfl hx

/-- what a law knows of a room that is not too great -/
structure RoomSz (r : Room) (n1 n2 n3 n4 n5 : Nat) : Prop where
  n1 : n1 ≤ 1048576
  nm : Named r.ns
  n2 : n2 ≤ 1048576
  n3 : n3 ≤ 1048576
  n4 : n4 ≤ 1048576
  n5 : n5 ≤ 1048576
  n6 : ∀ q ∈ r.rs, q.n ≤ 1048576
  n7 : (r.rs.map RS.n).sum ≤ 1048576
set_option maxHeartbeats 1000000 in
theorem c_szRoom (A1 A2 A3 A4 A5 : Option Addr) (n1 c1 n2 c2 n3 c3 n4 c4 n5 c5 : Nat) (r : Room) (w : World) (hat : RoomAt w A1 A2 A3 A4 A5 n1 c1 n2 c2 n3 c3 n4 c4 n5 c5 r) (hnm : Named0 r.ns) (left : Int) (h0 : 0 ≤ left) (h1 : left ≤ 1048576) :
    Calls Tryz.prog 14 #[.agg #[.slice A1 n1 c1, .slice A2 n2 c2, .slice A3 n3 c3, .slice A4 n4 c4, .slice A5 n5 c5], .int .i64 left] w (Sized (RoomSz r n1 n2 n3 n4 n5) left w) := by
  have HNM := hide hnm
  clear hnm
  have hin := RoomIn.new w A1 A2 A3 A4 A5 n1 c1 n2 c2 n3 c3 n4 c4 n5 c5 51
  go_enter Tryz.func14, Tryz.ntmps14
  go_wp2_with fail
  refine (c_szNetwork A1 A2 n1 c1 n2 c2 r.ns left _ (hat.s1.ext (Ext.alloc _ _)) hat.s2.cap hat.s2.max HNM.out h0 h1).mono ?_
  rintro e w1 ⟨z, rfl, hx1, rfl | ⟨hz0, hz1, hz2⟩⟩
  · go_wp2_with fail
    go_ret
    exact ⟨-1, rfl, hx1.box, .inl rfl⟩
  have hz' : ¬ z < 0 := by omega
  obtain ⟨hlt, x0, x1, x2, x3, x4⟩ := hin.ext hx1
  go_wp2_with fail
  refine (c_szContractS A3 n3 c3 z _ hat.s3.cap hat.s3.max (by omega) (by omega)).mono ?_
  rintro e w' ⟨rfl, rfl⟩
  by_cases k3 : z < (n3 : Int)
  · rw [if_pos k3]
    go_wp2_with fail
    go_ret
    exact ⟨-1, rfl, hx1.box, .inl rfl⟩
  rw [if_neg k3]
  have k3' : ¬ z - (n3 : Int) < 0 := by omega
  go_wp2_with fail
  refine (c_szNominationS A4 n4 c4 (z - (n3 : Int)) _ hat.s4.cap hat.s4.max (by omega) (by omega)).mono ?_
  rintro e w' ⟨rfl, rfl⟩
  by_cases k4 : (z - (n3 : Int)) < (n4 : Int)
  · rw [if_pos k4]
    go_wp2_with fail
    go_ret
    exact ⟨-1, rfl, hx1.box, .inl rfl⟩
  rw [if_neg k4]
  have k4' : ¬ (z - (n3 : Int)) - (n4 : Int) < 0 := by omega
  go_wp2_with fail
  refine (c_szReadingSS A5 n5 c5 r.rs _ _ (hat.s5.ext hx1.box) (fun q hq => (hat.s6 q hq).ext hx1.box) (by omega) (by omega)).mono ?_
  rintro e w2 ⟨y, rfl, hx2, rfl | ⟨hy0, hy1, hy2⟩⟩
  · go_wp2_with fail
    go_ret
    exact ⟨-1, rfl, hx1.box.trans hx2, .inl rfl⟩
  have hy' : ¬ y < 0 := by omega
  go_wp2_with fail
  go_ret
  exact ⟨y, rfl, hx1.box.trans hx2, .inr ⟨by omega, by omega, ⟨hz2.1.1, hz2.1.2, hz2.2, by omega, by omega, hy2.1, hy2.2.1, hy2.2.2⟩⟩⟩

/-- a new copy of a network -/
def NewNet (ns : List Node) (ps : List Pipe) (w : World) (e : Ending) (w' : World) : Prop :=
  ∃ g1 g2, e = .returned (.agg #[.slice (some ⟨g1, 0, none⟩) ns.length ns.length, .slice (some ⟨g2, 0, none⟩) ps.length ps.length]) ∧ w.heap.size ≤ g1 ∧ g1 < g2 ∧ RowOf w' g1 115 Node.cells ns ∧ RowOf w' g2 117 Pipe.cells ps ∧ Ext w w'
set_option maxHeartbeats 2000000 in
theorem c_toNetwork (A1 A2 : Option Addr) (n1 c1 n2 c2 : Nat) (ns : List Node) (ps : List Pipe) (w : World) (h1 : SliceOf w 3 Node.cells A1 n1 c1 ns) (h2 : SliceOf w 5 Pipe.cells A2 n2 c2 ps) (m1 : n1 ≤ 1048576) (m2 : n2 ≤ 1048576) :
    Calls Tryz.prog 45 #[.agg #[.slice A1 n1 c1, .slice A2 n2 c2]] w (NewNet ns ps w) := by
  go_enter Tryz.func45, Tryz.ntmps45
  go_wp2_with fail
  refine (c_toNodeS A1 n1 c1 ns _ (h1.ext (((Ext.alloc _ _).and_alloc _).and_alloc _)) m1).mono ?_
  rintro e w1 ⟨g1, rfl, hg1, r1, hx1⟩
  have x1 : Ext w w1 := (((Ext.alloc _ _).and_alloc _).and_alloc _).trans hx1
  have z1a : w.heap.size < w1.heap.size := by have := hx1.size; simp at this; omega
  have z1b : w.heap.size + 1 < w1.heap.size := by have := hx1.size; simp at this; omega
  have z1c : w.heap.size + 1 + 1 < w1.heap.size := by have := hx1.size; simp at this; omega
  have hcl1 := hx1.cell
  have hfr1 := hx1.frozen
  simp at hg1
  have l1 := r1.lt
  go_wp2_with fail
  refine (c_toPipeS A2 n2 c2 ps _ (h2.ext (x1.setCell (by first | (simp; done) | (simp; omega) | omega) _)) m2).mono ?_
  rintro e w2 ⟨g2, rfl, hg2, r2, hx2⟩
  have x2 : Ext w w2 := (x1.setCell (by first | (simp; done) | (simp; omega) | omega) _).trans hx2
  have r1a := RowOf.ext (RowOf.far r1 (by first | (simp; done) | (simp; omega) | omega) _) hx2
  have z2a : w.heap.size < w2.heap.size := by have := hx2.size; simp at this; omega
  have z2b : w.heap.size + 1 < w2.heap.size := by have := hx2.size; simp at this; omega
  have z2c : w.heap.size + 1 + 1 < w2.heap.size := by have := hx2.size; simp at this; omega
  have hcl2 := hx2.cell
  have hfr2 := hx2.frozen
  simp at hg2
  go_wp2
  refine bodyPost_ret (v := .agg #[.slice (some ⟨g1, 0, none⟩) ns.length ns.length, .slice (some ⟨g2, 0, none⟩) ps.length ps.length]) (by simp [results, Tryz.results45, go_sem, hcl2, hcl1, z1b]) rfl ⟨g1, g2, rfl, ?_, ?_, ?_, ?_, ?_⟩
  · omega
  · omega
  · repeat (refine RowOf.far ?_ (by first | (simp; done) | (simp; omega) | omega) _)
    exact r1a
  · repeat (refine RowOf.far ?_ (by first | (simp; done) | (simp; omega) | omega) _)
    exact r2
  · repeat (refine Ext.setCell ?_ (by first | (simp; done) | (simp; omega) | omega) _)
    exact x2

set_option maxHeartbeats 1000000 in
theorem c_eqNetwork (A1 A2 B1 B2 : Option Addr) (n1 c1 n2 c2 m1 d1 m2 d2 : Nat) (ns : List Node) (ps : List Pipe) (w : World) (h1 : SliceOf w 3 Node.cells A1 n1 c1 ns) (h2 : SliceOf w 5 Pipe.cells A2 n2 c2 ps) (i1 : SliceOf w 3 Node.cells B1 m1 d1 ns) (i2 : SliceOf w 5 Pipe.cells B2 m2 d2 ps) :
    Calls Tryz.prog 55 #[.agg #[.slice A1 n1 c1, .slice A2 n2 c2], .agg #[.slice B1 m1 d1, .slice B2 m2 d2]] w (Ret (.bool true) w) := by
  go_enter Tryz.func55, Tryz.ntmps55
  go_wp2_with fail
  have x0 : Ext w ((w.alloc (.cells #[.slice A1 n1 c1, .slice A2 n2 c2] 27)).alloc (.cells #[.slice B1 m1 d1, .slice B2 m2 d2] 27)) := (Ext.alloc _ _).and_alloc _
  refine (c_eqNodeS _ _ _ _ _ _ ns _ (h1.ext x0) (i1.ext x0)).mono ?_
  rintro e w1 ⟨rfl, hx1⟩
  have hcl1 := hx1.cell
  go_wp2_with fail
  refine (c_eqPipeS _ _ _ _ _ _ ps _ (h2.ext (x0.trans hx1)) (i2.ext (x0.trans hx1))).mono ?_
  rintro e w2 ⟨rfl, hx2⟩
  go_wp2_with fail
  go_ret
  exact Ret.bool rfl ((x0.trans hx1).trans hx2)

/-- the same room elsewhere -/
def Room.Like (r r' : Room) : Prop := r.ns = r'.ns ∧ r.ps = r'.ps ∧ r.xs = r'.xs ∧ r.L = r'.L ∧ r.rs.map RS.xs = r'.rs.map RS.xs
theorem Room.Like.symm {r r' : Room} (h : r.Like r') : r'.Like r := ⟨h.1.symm, h.2.1.symm, h.2.2.1.symm, h.2.2.2.1.symm, h.2.2.2.2.symm⟩
theorem Room.Like.trans {r r' r'' : Room} (h : r.Like r') (k : r'.Like r'') : r.Like r'' := ⟨h.1.trans k.1, h.2.1.trans k.2.1, h.2.2.1.trans k.2.2.1, h.2.2.2.1.trans k.2.2.2.1, h.2.2.2.2.trans k.2.2.2.2⟩
theorem roomB_like {n1 : Int} {r r' : Room} (h : r.Like r') : roomB n1 r = roomB n1 r' := by
  obtain ⟨h1, h2, h3, h4, h5⟩ := h
  have hl := congrArg List.length h5
  simp at hl
  have ha : ∀ rs : List RS, rs.all (fun q => readsB n1 q.xs) = (rs.map RS.xs).all (readsB n1) := fun rs => by rw [List.all_map]; rfl
  unfold roomB
  rw [h1, h2, h3, h4, hl, ha, ha, h5]
set_option maxHeartbeats 2000000 in
theorem c_eqRoom (A1 A2 A3 A4 A5 : Option Addr) (n1 c1 n2 c2 n3 c3 n4 c4 n5 c5 : Nat) (B1 B2 B3 B4 B5 : Option Addr) (m1 d1 m2 d2 m3 d3 m4 d4 m5 d5 : Nat) (r r' : Room) (w : World) (h : RoomAt w A1 A2 A3 A4 A5 n1 c1 n2 c2 n3 c3 n4 c4 n5 c5 r) (i : RoomAt w B1 B2 B3 B4 B5 m1 d1 m2 d2 m3 d3 m4 d4 m5 d5 r') (hl : r.Like r') :
    Calls Tryz.prog 18 #[.agg #[.slice A1 n1 c1, .slice A2 n2 c2, .slice A3 n3 c3, .slice A4 n4 c4, .slice A5 n5 c5], .agg #[.slice B1 m1 d1, .slice B2 m2 d2, .slice B3 m3 d3, .slice B4 m4 d4, .slice B5 m5 d5]] w (Ret (.bool true) w) := by
  obtain ⟨i1, i2, i3, i4, i5, i6⟩ := i
  obtain ⟨e1, e2, e3, e4, HE5⟩ := hl
  have HE := hide HE5
  rw [← e1] at i1
  rw [← e2] at i2
  rw [← e3] at i3
  rw [← e4] at i4
  clear e1 e2 e3 e4 HE5
  have hinA := (RoomIn.new w A1 A2 A3 A4 A5 n1 c1 n2 c2 n3 c3 n4 c4 n5 c5 32).ext (Ext.alloc _ (.cells #[.slice B1 m1 d1, .slice B2 m2 d2, .slice B3 m3 d3, .slice B4 m4 d4, .slice B5 m5 d5] 32))
  have hinB := RoomIn.new (w.alloc (.cells #[.slice A1 n1 c1, .slice A2 n2 c2, .slice A3 n3 c3, .slice A4 n4 c4, .slice A5 n5 c5] 32)) B1 B2 B3 B4 B5 m1 d1 m2 d2 m3 d3 m4 d4 m5 d5 32
  go_enter Tryz.func18, Tryz.ntmps18
  go_wp2_with fail
  have x0 : Ext w ((w.alloc (.cells #[.slice A1 n1 c1, .slice A2 n2 c2, .slice A3 n3 c3, .slice A4 n4 c4, .slice A5 n5 c5] 32)).alloc (.cells #[.slice B1 m1 d1, .slice B2 m2 d2, .slice B3 m3 d3, .slice B4 m4 d4, .slice B5 m5 d5] 32)) := (Ext.alloc _ _).and_alloc _
  refine (c_eqNetwork _ _ _ _ _ _ _ _ _ _ _ _ r.ns r.ps _ (h.s1.ext x0) (h.s2.ext x0) (i1.ext x0) (i2.ext x0)).mono ?_
  rintro e w1 ⟨rfl, hx1⟩
  obtain ⟨ha, a0, a1, a2, a3, a4⟩ := hinA.ext hx1
  obtain ⟨hb, b0, b1, b2, b3, b4⟩ := hinB.ext hx1
  simp only [World.size_alloc] at b0 b1 b2 b3 b4
  have x1 := x0.trans hx1
  go_wp2_with fail
  refine (c_eqContractS _ _ _ _ _ _ r.xs _ (h.s3.ext x1) (i3.ext x1)).mono ?_
  rintro e w2 ⟨rfl, hx2⟩
  clear ha a0 a1 a2 a3 a4 hb b0 b1 b2 b3 b4
  have hx12 := hx1.trans hx2
  obtain ⟨ha, a0, a1, a2, a3, a4⟩ := hinA.ext hx12
  obtain ⟨hb, b0, b1, b2, b3, b4⟩ := hinB.ext hx12
  simp only [World.size_alloc] at b0 b1 b2 b3 b4
  have x2 := x0.trans hx12
  go_wp2_with fail
  refine (c_eqNominationS _ _ _ _ _ _ r.L _ (h.s4.ext x2) (i4.ext x2)).mono ?_
  rintro e w3 ⟨rfl, hx3⟩
  clear ha a0 a1 a2 a3 a4 hb b0 b1 b2 b3 b4
  have hx13 := hx12.trans hx3
  obtain ⟨ha, a0, a1, a2, a3, a4⟩ := hinA.ext hx13
  obtain ⟨hb, b0, b1, b2, b3, b4⟩ := hinB.ext hx13
  simp only [World.size_alloc] at b0 b1 b2 b3 b4
  have x3 := x0.trans hx13
  go_wp2_with fail
  refine (c_eqReadingSS _ _ _ _ _ _ r.rs r'.rs _ (h.s5.ext x3) (fun q hq => (h.s6 q hq).ext x3) (i5.ext x3) (fun q hq => (i6 q hq).ext x3) HE.out).mono ?_
  rintro e w4 ⟨rfl, hx4⟩
  go_wp2_with fail
  go_ret
  exact Ret.bool rfl (x3.trans hx4)
end Go.Proofs.YtjpmiokbgpggbaaGreat
