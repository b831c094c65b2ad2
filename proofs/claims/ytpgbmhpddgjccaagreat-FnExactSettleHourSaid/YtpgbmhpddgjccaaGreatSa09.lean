/-
  The helpers of the laws on rooms: comparing, measuring, copying. From an argument as it is read (data) to the cells that hold it: slices of structures of integers. No function of the program is named here. From an argument as it is read (data) to the cells that hold it: slices whose elements are any data of a known number of cells. No function of the program is named here.
-/
import Derived.Test.YtpgbmhpddgjccaaGreatSa08
import Derived.Test.YtpgbmhpddgjccaaGreatSa00
import Derived.Deep.Slices
import Derived.Deep.Fields
import Derived.ChangeSame
import Derived.ProofKit
import Derived.OpenShut
import Derived.ShutString
import Derived.ChangeOld
import Derived.Lib.SmallJoins
namespace Go.Proofs.YtpgbmhpddgjccaaGreat
open Go.RowKit
set_option maxHeartbeats 1000000 in
theorem c_eqReadingSS (A A' : Option Addr) (n c n' c' : Nat) (rs rs' : List RS) (w : World) (hs : SliceOf w 1 RS.cells A n c rs) (h6 : ∀ q ∈ rs, SliceOf w 2 Reading.cells q.A q.n q.c q.xs) (hs' : SliceOf w 1 RS.cells A' n' c' rs') (h6' : ∀ q ∈ rs', SliceOf w 2 Reading.cells q.A q.n q.c q.xs) (he : rs.map RS.xs = rs'.map RS.xs) :
    Calls Tryz.prog 57 #[.slice A n c, .slice A' n' c'] w (Ret (.bool true) w) := by
  obtain rfl : n = n' := by have := congrArg List.length he; simp at this; rw [hs.len, hs'.len, this]
  have HE := hide he
  have hm := hs.max
  have hcp := hs.cap
  clear he
  go_enter Tryz.func57, Tryz.ntmps57
  go_wp2_with fail
  go_loopw [5] (fun i wr => ∃ (k : Nat), k ≤ n ∧ i = .int .i64 k ∧ Ext w wr) (fun i _ => n - (intOf i).toNat)
  case atStart => exact ⟨0, Nat.zero_le _, rfl, Ext.refl _⟩
  case round =>
    obtain ⟨k, hk, rfl, hx⟩ := hrel
    by_cases hlt : k < n
    · obtain ⟨b, off, x, rfl, hb, hxk, hc⟩ := (hs.ext hx).get hlt
      obtain ⟨b', off', x', rfl, hb', hxk', hc'⟩ := (hs'.ext hx).get hlt
      have hxx : x.xs = x'.xs := by
        have h1 := congrArg (fun l => l[k]?) HE.out
        simp only [List.getElem?_map, hxk, hxk', Option.map_some, Option.some.injEq] at h1
        exact h1
      have s1 := (h6 x (List.mem_of_getElem? hxk)).ext hx
      have s2 := (h6' x' (List.mem_of_getElem? hxk')).ext hx
      rw [← hxx] at s2
      have hc0 := hc 0 _ rfl
      have hd0 := hc' 0 _ rfl
      clear hc hc' hxk hxk' hxx
      simp only [Nat.add_zero, Nat.mul_one] at hc0 hd0
      go_wp2_with fail
      refine wp_region_later (by kernel_rfl) (by kernel_rfl) ?_
      repeat (go_big_quiet_step ((go_at_call 36; exact quiet_later (c_eqReadingS x.A x'.A x.n x.c x'.n x'.c x.xs _ (s1.ext (ext_later _ _)) (s2.ext (ext_later _ _))))))
      refine wpQuiet_nil ?_
      intro w1 hx1
      go_wp2
      go_roundw
      case rel => exact ⟨k + 1, by omega, by go_num, hx.trans hx1⟩
      case measure => simp [intOf]; omega
    · go_wp2
      go_ret
      exact Ret.bool rfl hx

/-- what a law knows of a room that is not too great -/
structure RoomSz (r : Room) (n1 n2 n3 n4 n5 : Nat) : Prop where
  n1 : n1 ≤ 1048576
  nm : Named r.ns
  n2 : n2 ≤ 1048576
  n3 : n3 ≤ 1048576
  n4 : n4 ≤ 1048576
  n5 : n5 ≤ 1048576
  n6 : ∀ q ∈ r.rs, q.n ≤ 1048576
  n7 : (r.rs.map RS.n).sum ≤ 1048576
set_option maxHeartbeats 1000000 in
theorem c_szRoom (A1 A2 A3 A4 A5 : Option Addr) (n1 c1 n2 c2 n3 c3 n4 c4 n5 c5 : Nat) (r : Room) (w : World) (hat : RoomAt w A1 A2 A3 A4 A5 n1 c1 n2 c2 n3 c3 n4 c4 n5 c5 r) (hnm : Named0 r.ns) (left : Int) (h0 : 0 ≤ left) (h1 : left ≤ 1048576) :
    Calls Tryz.prog 69 #[.agg #[.slice A1 n1 c1, .slice A2 n2 c2, .slice A3 n3 c3, .slice A4 n4 c4, .slice A5 n5 c5], .int .i64 left] w (Sized (RoomSz r n1 n2 n3 n4 n5) left w) := by
  have HNM := hide hnm
  clear hnm
  have hin := RoomIn.new w A1 A2 A3 A4 A5 n1 c1 n2 c2 n3 c3 n4 c4 n5 c5 109
  go_enter Tryz.func69, Tryz.ntmps69
  go_wp2_with fail
  refine (c_szNetwork A1 A2 n1 c1 n2 c2 r.ns left _ (hat.s1.ext (Ext.alloc _ _)) hat.s2.cap hat.s2.max HNM.out h0 h1).mono ?_
  rintro e w1 ⟨z, rfl, hx1, rfl | ⟨hz0, hz1, hz2⟩⟩
  · go_wp2_with fail
    go_ret
    exact ⟨-1, rfl, hx1.box, .inl rfl⟩
  have hz' : ¬ z < 0 := by omega
  obtain ⟨hlt, x0, x1, x2, x3, x4⟩ := hin.ext hx1
  go_wp2_with fail
  refine (c_szContractS A3 n3 c3 z _ hat.s3.cap hat.s3.max (by omega) (by omega)).mono ?_
  rintro e w' ⟨rfl, rfl⟩
  by_cases k3 : z < (n3 : Int)
  · rw [if_pos k3]
    go_wp2_with fail
    go_ret
    exact ⟨-1, rfl, hx1.box, .inl rfl⟩
  rw [if_neg k3]
  have k3' : ¬ z - (n3 : Int) < 0 := by omega
  go_wp2_with fail
  refine (c_szNominationS A4 n4 c4 (z - (n3 : Int)) _ hat.s4.cap hat.s4.max (by omega) (by omega)).mono ?_
  rintro e w' ⟨rfl, rfl⟩
  by_cases k4 : (z - (n3 : Int)) < (n4 : Int)
  · rw [if_pos k4]
    go_wp2_with fail
    go_ret
    exact ⟨-1, rfl, hx1.box, .inl rfl⟩
  rw [if_neg k4]
  have k4' : ¬ (z - (n3 : Int)) - (n4 : Int) < 0 := by omega
  go_wp2_with fail
  refine (c_szReadingSS A5 n5 c5 r.rs _ _ (hat.s5.ext hx1.box) (fun q hq => (hat.s6 q hq).ext hx1.box) (by omega) (by omega)).mono ?_
  rintro e w2 ⟨y, rfl, hx2, rfl | ⟨hy0, hy1, hy2⟩⟩
  · go_wp2_with fail
    go_ret
    exact ⟨-1, rfl, hx1.box.trans hx2, .inl rfl⟩
  have hy' : ¬ y < 0 := by omega
  go_wp2_with fail
  go_ret
  exact ⟨y, rfl, hx1.box.trans hx2, .inr ⟨by omega, by omega, ⟨hz2.1.1, hz2.1.2, hz2.2, by omega, by omega, hy2.1, hy2.2.1, hy2.2.2⟩⟩⟩

/-- a new copy of a network -/
def NewNet (ns : List Node) (ps : List Pipe) (w : World) (e : Ending) (w' : World) : Prop :=
  ∃ g1 g2, e = .returned (.agg #[.slice (some ⟨g1, 0, none⟩) ns.length ns.length, .slice (some ⟨g2, 0, none⟩) ps.length ps.length]) ∧ w.heap.size ≤ g1 ∧ g1 < g2 ∧ RowOf w' g1 210 Node.cells ns ∧ RowOf w' g2 174 Pipe.cells ps ∧ Ext w w'
set_option maxHeartbeats 2000000 in
theorem c_toNetwork (A1 A2 : Option Addr) (n1 c1 n2 c2 : Nat) (ns : List Node) (ps : List Pipe) (w : World) (h1 : SliceOf w 3 Node.cells A1 n1 c1 ns) (h2 : SliceOf w 5 Pipe.cells A2 n2 c2 ps) (m1 : n1 ≤ 1048576) (m2 : n2 ≤ 1048576) :
    Calls Tryz.prog 21 #[.agg #[.slice A1 n1 c1, .slice A2 n2 c2]] w (NewNet ns ps w) := by
  go_enter Tryz.func21, Tryz.ntmps21
  go_wp2_with fail
  refine (c_toNodeS A1 n1 c1 ns _ (h1.ext (((Ext.alloc _ _).and_alloc _).and_alloc _)) m1).mono ?_
  rintro e w1 ⟨g1, rfl, hg1, r1, hx1⟩
  have x1 : Ext w w1 := (((Ext.alloc _ _).and_alloc _).and_alloc _).trans hx1
  have z1a : w.heap.size < w1.heap.size := by have := hx1.size; simp at this; omega
  have z1b : w.heap.size + 1 < w1.heap.size := by have := hx1.size; simp at this; omega
  have z1c : w.heap.size + 1 + 1 < w1.heap.size := by have := hx1.size; simp at this; omega
  have hcl1 := hx1.cell
  have hfr1 := hx1.frozen
  simp at hg1
  have l1 := r1.lt
  go_wp2_with fail
  refine (c_toPipeS A2 n2 c2 ps _ (h2.ext (x1.setCell (by first | (simp; done) | (simp; omega) | omega) _)) m2).mono ?_
  rintro e w2 ⟨g2, rfl, hg2, r2, hx2⟩
  have x2 : Ext w w2 := (x1.setCell (by first | (simp; done) | (simp; omega) | omega) _).trans hx2
  have r1a := RowOf.ext (RowOf.far r1 (by first | (simp; done) | (simp; omega) | omega) _) hx2
  have z2a : w.heap.size < w2.heap.size := by have := hx2.size; simp at this; omega
  have z2b : w.heap.size + 1 < w2.heap.size := by have := hx2.size; simp at this; omega
  have z2c : w.heap.size + 1 + 1 < w2.heap.size := by have := hx2.size; simp at this; omega
  have hcl2 := hx2.cell
  have hfr2 := hx2.frozen
  simp at hg2
  go_wp2
  refine bodyPost_ret (v := .agg #[.slice (some ⟨g1, 0, none⟩) ns.length ns.length, .slice (some ⟨g2, 0, none⟩) ps.length ps.length]) (by simp [results, Tryz.results21, go_sem, hcl2, hcl1, z1b]) rfl ⟨g1, g2, rfl, ?_, ?_, ?_, ?_, ?_⟩
  · omega
  · omega
  · repeat (refine RowOf.far ?_ (by first | (simp; done) | (simp; omega) | omega) _)
    exact r1a
  · repeat (refine RowOf.far ?_ (by first | (simp; done) | (simp; omega) | omega) _)
    exact r2
  · repeat (refine Ext.setCell ?_ (by first | (simp; done) | (simp; omega) | omega) _)
    exact x2

set_option maxHeartbeats 1000000 in
theorem c_eqNetwork (A1 A2 B1 B2 : Option Addr) (n1 c1 n2 c2 m1 d1 m2 d2 : Nat) (ns : List Node) (ps : List Pipe) (w : World) (h1 : SliceOf w 3 Node.cells A1 n1 c1 ns) (h2 : SliceOf w 5 Pipe.cells A2 n2 c2 ps) (i1 : SliceOf w 3 Node.cells B1 m1 d1 ns) (i2 : SliceOf w 5 Pipe.cells B2 m2 d2 ps) :
    Calls Tryz.prog 26 #[.agg #[.slice A1 n1 c1, .slice A2 n2 c2], .agg #[.slice B1 m1 d1, .slice B2 m2 d2]] w (Ret (.bool true) w) := by
  go_enter Tryz.func26, Tryz.ntmps26
  go_wp2_with fail
  have x0 : Ext w ((w.alloc (.cells #[.slice A1 n1 c1, .slice A2 n2 c2] 45)).alloc (.cells #[.slice B1 m1 d1, .slice B2 m2 d2] 45)) := (Ext.alloc _ _).and_alloc _
  refine (c_eqNodeS _ _ _ _ _ _ ns _ (h1.ext x0) (i1.ext x0)).mono ?_
  rintro e w1 ⟨rfl, hx1⟩
  have hcl1 := hx1.cell
  go_wp2_with fail
  refine (c_eqPipeS _ _ _ _ _ _ ps _ (h2.ext (x0.trans hx1)) (i2.ext (x0.trans hx1))).mono ?_
  rintro e w2 ⟨rfl, hx2⟩
  go_wp2_with fail
  go_ret
  exact Ret.bool rfl ((x0.trans hx1).trans hx2)

/-- the same room elsewhere -/
def Room.Like (r r' : Room) : Prop := r.ns = r'.ns ∧ r.ps = r'.ps ∧ r.xs = r'.xs ∧ r.L = r'.L ∧ r.rs.map RS.xs = r'.rs.map RS.xs
theorem Room.Like.symm {r r' : Room} (h : r.Like r') : r'.Like r := ⟨h.1.symm, h.2.1.symm, h.2.2.1.symm, h.2.2.2.1.symm, h.2.2.2.2.symm⟩
theorem Room.Like.trans {r r' r'' : Room} (h : r.Like r') (k : r'.Like r'') : r.Like r'' := ⟨h.1.trans k.1, h.2.1.trans k.2.1, h.2.2.1.trans k.2.2.1, h.2.2.2.1.trans k.2.2.2.1, h.2.2.2.2.trans k.2.2.2.2⟩
theorem roomB_like {n1 : Int} {r r' : Room} (h : r.Like r') : roomB n1 r = roomB n1 r' := by
  obtain ⟨h1, h2, h3, h4, h5⟩ := h
  have hl := congrArg List.length h5
  simp at hl
  have ha : ∀ rs : List RS, rs.all (fun q => readsB n1 q.xs) = (rs.map RS.xs).all (readsB n1) := fun rs => by rw [List.all_map]; rfl
  unfold roomB
  rw [h1, h2, h3, h4, hl, ha, ha, h5]
set_option maxHeartbeats 2000000 in
theorem c_eqRoom (A1 A2 A3 A4 A5 : Option Addr) (n1 c1 n2 c2 n3 c3 n4 c4 n5 c5 : Nat) (B1 B2 B3 B4 B5 : Option Addr) (m1 d1 m2 d2 m3 d3 m4 d4 m5 d5 : Nat) (r r' : Room) (w : World) (h : RoomAt w A1 A2 A3 A4 A5 n1 c1 n2 c2 n3 c3 n4 c4 n5 c5 r) (i : RoomAt w B1 B2 B3 B4 B5 m1 d1 m2 d2 m3 d3 m4 d4 m5 d5 r') (hl : r.Like r') :
    Calls Tryz.prog 71 #[.agg #[.slice A1 n1 c1, .slice A2 n2 c2, .slice A3 n3 c3, .slice A4 n4 c4, .slice A5 n5 c5], .agg #[.slice B1 m1 d1, .slice B2 m2 d2, .slice B3 m3 d3, .slice B4 m4 d4, .slice B5 m5 d5]] w (Ret (.bool true) w) := by
  obtain ⟨i1, i2, i3, i4, i5, i6⟩ := i
  obtain ⟨e1, e2, e3, e4, HE5⟩ := hl
  have HE := hide HE5
  rw [← e1] at i1
  rw [← e2] at i2
  rw [← e3] at i3
  rw [← e4] at i4
  clear e1 e2 e3 e4 HE5
  have hinA := (RoomIn.new w A1 A2 A3 A4 A5 n1 c1 n2 c2 n3 c3 n4 c4 n5 c5 82).ext (Ext.alloc _ (.cells #[.slice B1 m1 d1, .slice B2 m2 d2, .slice B3 m3 d3, .slice B4 m4 d4, .slice B5 m5 d5] 82))
  have hinB := RoomIn.new (w.alloc (.cells #[.slice A1 n1 c1, .slice A2 n2 c2, .slice A3 n3 c3, .slice A4 n4 c4, .slice A5 n5 c5] 82)) B1 B2 B3 B4 B5 m1 d1 m2 d2 m3 d3 m4 d4 m5 d5 82
  go_enter Tryz.func71, Tryz.ntmps71
  go_wp2_with fail
  have x0 : Ext w ((w.alloc (.cells #[.slice A1 n1 c1, .slice A2 n2 c2, .slice A3 n3 c3, .slice A4 n4 c4, .slice A5 n5 c5] 82)).alloc (.cells #[.slice B1 m1 d1, .slice B2 m2 d2, .slice B3 m3 d3, .slice B4 m4 d4, .slice B5 m5 d5] 82)) := (Ext.alloc _ _).and_alloc _
  refine (c_eqNetwork _ _ _ _ _ _ _ _ _ _ _ _ r.ns r.ps _ (h.s1.ext x0) (h.s2.ext x0) (i1.ext x0) (i2.ext x0)).mono ?_
  rintro e w1 ⟨rfl, hx1⟩
  obtain ⟨ha, a0, a1, a2, a3, a4⟩ := hinA.ext hx1
  obtain ⟨hb, b0, b1, b2, b3, b4⟩ := hinB.ext hx1
  simp only [World.size_alloc] at b0 b1 b2 b3 b4
  have x1 := x0.trans hx1
  go_wp2_with fail
  refine (c_eqContractS _ _ _ _ _ _ r.xs _ (h.s3.ext x1) (i3.ext x1)).mono ?_
  rintro e w2 ⟨rfl, hx2⟩
  clear ha a0 a1 a2 a3 a4 hb b0 b1 b2 b3 b4
  have hx12 := hx1.trans hx2
  obtain ⟨ha, a0, a1, a2, a3, a4⟩ := hinA.ext hx12
  obtain ⟨hb, b0, b1, b2, b3, b4⟩ := hinB.ext hx12
  simp only [World.size_alloc] at b0 b1 b2 b3 b4
  have x2 := x0.trans hx12
  go_wp2_with fail
  refine (c_eqNominationS _ _ _ _ _ _ r.L _ (h.s4.ext x2) (i4.ext x2)).mono ?_
  rintro e w3 ⟨rfl, hx3⟩
  clear ha a0 a1 a2 a3 a4 hb b0 b1 b2 b3 b4
  have hx13 := hx12.trans hx3
  obtain ⟨ha, a0, a1, a2, a3, a4⟩ := hinA.ext hx13
  obtain ⟨hb, b0, b1, b2, b3, b4⟩ := hinB.ext hx13
  simp only [World.size_alloc] at b0 b1 b2 b3 b4
  have x3 := x0.trans hx13
  go_wp2_with fail
  refine (c_eqReadingSS _ _ _ _ _ _ r.rs r'.rs _ (h.s5.ext x3) (fun q hq => (h.s6 q hq).ext x3) (i5.ext x3) (fun q hq => (i6 q hq).ext x3) HE.out).mono ?_
  rintro e w4 ⟨rfl, hx4⟩
  go_wp2_with fail
  go_ret
  exact Ret.bool rfl (x3.trans hx4)
end Go.Proofs.YtpgbmhpddgjccaaGreat

namespace Go.Proofs.YtpgbmhpddgjccaaGreat
open Go.Joins Go.RowKit Go.ChangeShapes Go.WideShapes Go.Deep

section
variable {H : Type} {enc : TypeId × Value → H} {P : Program} {w : World} {base : Nat} {spare : Nat → Bool} {held : Bool}
/-- every field of a structure is an int64 -/
def allInt (P : Program) (fs : Array Field) : Bool := fs.toList.all fun f => match P.underlying f.type with | some (.int .i64) => true | _ => false
theorem allInt_of {fs : Array Field} (h : allInt P fs = true) {j : Nat} {f : Field} (hj : fs[j]? = some f) : P.underlying f.type = some (.int .i64) := by
  have := List.all_eq_true.1 h f (by rw [Array.mem_toList_iff]; exact Array.mem_of_getElem? hj)
  split at this
  · assumption
  · cases this
theorem mk_list {α : Type} {p : Nat → α → Prop} (n : Nat) (h : ∀ i, i < n → ∃ x, p i x) : ∃ xs : List α, xs.length = n ∧ ∀ i x, xs[i]? = some x → p i x := by
  induction n with
  | zero => exact ⟨[], rfl, fun i x hx => by simp at hx⟩
  | succ n ih =>
    obtain ⟨xs, hl, hp⟩ := ih (fun i hi => h i (by omega))
    obtain ⟨x, hx⟩ := h n (by omega)
    refine ⟨xs ++ [x], by simp [hl], fun i y hy => ?_⟩
    by_cases hi : i < n
    · rw [List.getElem?_append_left (by omega)] at hy; exact hp i y hy
    · have hlt : i < (xs ++ [x]).length := (List.getElem?_eq_some_iff.1 hy).1
      have : i = n := by simp [hl] at hlt; omega
      subst this
      rw [List.getElem?_append_right (by omega)] at hy
      simp [hl] at hy
      subst hy
      exact hx
/-- a slice of structures of integers that came in -/
theorem open_flat {t e : TypeId} {fs : Array Field} {fuel : Nat} {v : Value} {x : DataW H × List MemPlace} (ht : P.underlying t = some (.slice e)) (he : P.underlying e = some (.struct fs))
    (hone : oneCellFields P fs = true) (hint : allInt P fs = true) (hC : P.cellsOf e = fs.size) (h0 : 0 < fs.size) (h : DataW.trod enc P w base spare held fuel t [v] = some x) :
    ∃ (A : Option Addr) (n c : Nat) (xss : List (List Int)), v = .slice A n c ∧ (∀ zs ∈ xss, zs.length = fs.size) ∧ SliceOf w fs.size (fun zs => zs.map (Value.int .i64)) A n c xss := by
  rcases open_slice ht h with ⟨h0, _⟩ | ⟨a, len, cap, m, n, D, Pl, hcs, hb, hl, hm, hmm, hx, hi⟩
  · simp at h0
    exact ⟨none, 0, 0, [], h0, by simp, by simp [SliceOf]⟩
  · simp at hcs
    have hlm : len ≤ m := by rw [hmm]; split <;> omega
    have hel : ∀ i, i < len → ∃ zs : List Int, zs.length = fs.size ∧ ∀ j u, (zs.map (Value.int .i64))[j]? = some u → w.cell? (a.add (i * fs.size + j)) = some u := by
      intro i hil
      obtain ⟨cs', hc, ht'⟩ := hi i (by omega)
      rw [hC] at hc
      obtain ⟨ys, n', hn', hy, hlen, hyl, hf⟩ := DataW.trod_struct he ht'
      obtain ⟨_, hcl, hat⟩ := World.cells?_some hc
      have hz : ∀ j, j < fs.size → ∃ z : Int, w.cell? (a.add (i * fs.size + j)) = some (.int .i64 z) := by
        intro j hj
        have hfj : fs[j]? = some fs[j] := Array.getElem?_eq_getElem hj
        obtain ⟨ho, hk⟩ := hone_of hone j _ hfj
        have h1 := hf j _ hfj
        rw [ho, hk] at h1
        have hone' : (cs'.drop j).take 1 = [cs'[j]'(by omega)] := by
          rw [List.drop_eq_getElem_cons (by omega)]
          rfl
        rw [hone'] at h1
        have hys : ys[j]? = some (ys[j]'(by omega)) := List.getElem?_eq_getElem (by omega)
        obtain ⟨z, hz, _, _⟩ := DataW.trod_int (allInt_of hint hfj) (h1.trans hys)
        have hv : cs'[j]? = some (cs'[j]'(by omega)) := List.getElem?_eq_getElem (by omega)
        refine ⟨z, ?_⟩
        rw [← Go.Deep.add_add, hat j hj, hv]
        simp at hz
        rw [hz]
      obtain ⟨zs, hzl, hzp⟩ := mk_list (p := fun j z => w.cell? (a.add (i * fs.size + j)) = some (.int .i64 z)) fs.size hz
      refine ⟨zs, hzl, fun j u hu => ?_⟩
      rw [List.getElem?_map] at hu
      cases hzj : zs[j]? with
      | none => rw [hzj] at hu; simp at hu
      | some z => rw [hzj] at hu; simp at hu; subst hu; exact hzp j z hzj
    obtain ⟨xss, hxl, hxp⟩ := mk_list len hel
    refine ⟨some a, len, cap, xss, hcs, ?_, hxl.symm, hl, hm, fun hn => ?_⟩
    · intro zs hzs
      obtain ⟨i, hi', hii⟩ := List.mem_iff_getElem.1 hzs
      exact (hxp i zs (by rw [List.getElem?_eq_getElem hi', hii])).1
    · obtain ⟨zs0, hz0⟩ : ∃ zs, xss[0]? = some zs := ⟨_, List.getElem?_eq_getElem (by omega)⟩
      obtain ⟨hl0, hc0⟩ := hxp 0 zs0 hz0
      obtain ⟨u, hu⟩ : ∃ u, (zs0.map (Value.int .i64))[0]? = some u := ⟨_, List.getElem?_eq_getElem (by simp; omega)⟩
      have hcell := hc0 0 u hu
      obtain ⟨b, off, spot⟩ := a
      have hspot : spot = none := by simpa [Addr.add] using World.cell?_spot hcell
      subst hspot
      have hadd : ∀ k, (Addr.add ⟨b, off, none⟩ k) = ⟨b, off + k, none⟩ := fun k => by unfold Addr.add; split <;> simp_all
      refine ⟨b, off, rfl, ?_, fun i zs hz j u hu => ?_⟩
      · have := World.block_lt_of_cell? w _ hcell
        rw [hadd] at this
        exact this
      · have := (hxp i zs hz).2 j u hu
        rw [hadd] at this
        rw [Nat.add_assoc]
        exact this
/-- a slice of integers that came in -/
theorem open_nums {t e : TypeId} {k : IntKind} {fuel : Nat} {v : Value} {x : DataW H × List MemPlace} (ht : P.underlying t = some (.slice e)) (he : P.underlying e = some (.int k))
    (hC : P.cellsOf e = 1) (h : DataW.trod enc P w base spare held fuel t [v] = some x) :
    ∃ (A : Option Addr) (n c : Nat) (zs : List Int), v = .slice A n c ∧ (∀ z ∈ zs, (Lit.int k z).wf = true) ∧ SliceOf w 1 (fun z => [Value.int k z]) A n c zs := by
  rcases open_slice ht h with ⟨h0, _⟩ | ⟨a, len, cap, m, n, D, Pl, hcs, hb, hl, hm, hmm, hx, hi⟩
  · simp at h0
    exact ⟨none, 0, 0, [], h0, by simp, by simp [SliceOf]⟩
  · simp at hcs
    have hlm : len ≤ m := by rw [hmm]; split <;> omega
    have hel : ∀ i, i < len → ∃ z : Int, (Lit.int k z).wf = true ∧ w.cell? (a.add i) = some (.int k z) := by
      intro i hil
      obtain ⟨cs', hc, ht'⟩ := hi i (by omega)
      rw [hC, Nat.mul_one] at hc
      obtain ⟨_, hcl, hat⟩ := World.cells?_some hc
      obtain ⟨z, hz, _, hwf⟩ := DataW.trod_int he ht'
      refine ⟨z, hwf, ?_⟩
      have := hat 0 (by omega)
      rw [hz] at this
      simpa [Go.Deep.add_add] using this
    obtain ⟨zs, hzl, hzp⟩ := mk_list len hel
    refine ⟨some a, len, cap, zs, hcs, ?_, hzl.symm, hl, hm, fun hn => ?_⟩
    · intro z hz
      obtain ⟨i, hi', hii⟩ := List.mem_iff_getElem.1 hz
      exact (hzp i z (by rw [List.getElem?_eq_getElem hi', hii])).1
    · obtain ⟨z0, hz0⟩ : ∃ z, zs[0]? = some z := ⟨_, List.getElem?_eq_getElem (by omega)⟩
      have hcell := (hzp 0 z0 hz0).2
      obtain ⟨b, off, spot⟩ := a
      have hspot : spot = none := by simpa [Addr.add] using World.cell?_spot hcell
      subst hspot
      have hadd : ∀ k, (Addr.add ⟨b, off, none⟩ k) = ⟨b, off + k, none⟩ := fun k => by unfold Addr.add; split <;> simp_all
      refine ⟨b, off, rfl, ?_, fun i z hz j u hu => ?_⟩
      · have := World.block_lt_of_cell? w _ hcell
        rw [hadd] at this
        exact this
      · have := (hzp i z hz).2
        rw [hadd] at this
        cases j with
        | zero => simp at hu; subst hu; simpa using this
        | succ j => simp at hu
/-- the same cells as a slice of another type's elements -/
theorem SliceOf.map {α β : Type} {size : Nat} {f : α → List Value} {f' : β → List Value} {A : Option Addr} {n c : Nat} {xs : List α} (h : SliceOf w size f A n c xs) (g : α → β) (hg : ∀ x ∈ xs, f' (g x) = f x) :
    SliceOf w size f' A n c (xs.map g) := by
  obtain ⟨h1, h2, h3, h4⟩ := h
  refine ⟨by simpa using h1, h2, h3, fun hn => ?_⟩
  obtain ⟨b, off, hA, hb, hc⟩ := h4 hn
  refine ⟨b, off, hA, hb, fun i y hy j u hu => ?_⟩
  rw [List.getElem?_map] at hy
  cases hx : xs[i]? with
  | none => rw [hx] at hy; simp at hy
  | some x =>
    rw [hx] at hy
    simp at hy
    subst hy
    exact hc i x hx j u (by rw [← hg x (List.mem_of_getElem? hx)]; exact hu)
theorem open_agg5 {r : Reach} {b0 : Nat} {t : TypeId} {f0 f1 f2 f3 f4 : Field} {v : Value} {d : DataW H} {p : List MemPlace} (hs : P.underlying t = some (.struct #[f0, f1, f2, f3, f4])) (hone : oneCellFields P #[f0, f1, f2, f3, f4] = true) (hC : P.cellsOf t = 5)
    (hv : Value.okWide P w r b0 t v) (h : DataW.Trod enc P w base spare held t v d p) :
    ∃ (v0 v1 v2 v3 v4 : Value) (y0 y1 y2 y3 y4 : DataW H × List MemPlace) (n : Nat), v = .agg #[v0, v1, v2, v3, v4] ∧ d = .agg [y0.1, y1.1, y2.1, y3.1, y4.1] ∧ p = y0.2 ++ (y1.2 ++ (y2.2 ++ (y3.2 ++ y4.2))) ∧
      DataW.trod enc P w base spare held n f0.type [v0] = some y0 ∧ DataW.trod enc P w base spare held n f1.type [v1] = some y1 ∧ DataW.trod enc P w base spare held n f2.type [v2] = some y2 ∧ DataW.trod enc P w base spare held n f3.type [v3] = some y3 ∧ DataW.trod enc P w base spare held n f4.type [v4] = some y4 := by
  obtain ⟨cs, rfl, hsz⟩ := okWide_struct hs hv
  obtain ⟨l⟩ := cs
  match l, hsz.trans hC with
  | [c0, c1, c2, c3, c4], _ =>
    obtain ⟨fuel, hf⟩ := h
    obtain ⟨xs, n, _, hx, _, hlen, hg⟩ := DataW.trod_struct hs hf
    obtain ⟨o0, k0⟩ := hone_of hone 0 f0 rfl
    obtain ⟨o1, k1⟩ := hone_of hone 1 f1 rfl
    obtain ⟨o2, k2⟩ := hone_of hone 2 f2 rfl
    obtain ⟨o3, k3⟩ := hone_of hone 3 f3 rfl
    obtain ⟨o4, k4⟩ := hone_of hone 4 f4 rfl
    match xs, hlen with
    | [y0, y1, y2, y3, y4], _ =>
      simp only [Prod.mk.injEq] at hx
      exact ⟨c0, c1, c2, c3, c4, y0, y1, y2, y3, y4, n, rfl, by simpa using hx.1, by simpa using hx.2, by simpa [Value.cells, o0, k0] using hg 0 f0 rfl, by simpa [Value.cells, o1, k1] using hg 1 f1 rfl, by simpa [Value.cells, o2, k2] using hg 2 f2 rfl, by simpa [Value.cells, o3, k3] using hg 3 f3 rfl, by simpa [Value.cells, o4, k4] using hg 4 f4 rfl⟩
end
end Go.Proofs.YtpgbmhpddgjccaaGreat

namespace Go.Proofs.YtpgbmhpddgjccaaGreat
open Go.Joins Go.RowKit Go.ChangeShapes Go.WideShapes Go.Deep

section
variable {H : Type} {enc : TypeId × Value → H} {P : Program} {w : World} {base : Nat} {spare : Nat → Bool} {held : Bool}
/-- a slice that came in, element by element -/
theorem open_elems {t e : TypeId} {C : Nat} {fuel : Nat} {v : Value} {x : DataW H × List MemPlace} (ht : P.underlying t = some (.slice e)) (hC : P.cellsOf e = C) (h0 : 0 < C)
    (h : DataW.trod enc P w base spare held fuel t [v] = some x) :
    ∃ (A : Option Addr) (n c : Nat) (xss : List (List Value)), v = .slice A n c ∧ (∀ vs ∈ xss, vs.length = C ∧ ∃ fuel' y, DataW.trod enc P w base spare held fuel' e vs = some y) ∧ SliceOf w C id A n c xss := by
  rcases open_slice ht h with ⟨h0, _⟩ | ⟨a, len, cap, m, n, D, Pl, hcs, hb, hl, hm, hmm, hx, hi⟩
  · simp at h0
    exact ⟨none, 0, 0, [], h0, by simp, by simp [SliceOf]⟩
  · simp at hcs
    have hlm : len ≤ m := by rw [hmm]; split <;> omega
    have hel : ∀ i, i < len → ∃ vs : List Value, (vs.length = C ∧ ∃ fuel' y, DataW.trod enc P w base spare held fuel' e vs = some y) ∧ ∀ j u, vs[j]? = some u → w.cell? (a.add (i * C + j)) = some u := by
      intro i hil
      obtain ⟨cs', hc, ht'⟩ := hi i (by omega)
      rw [hC] at hc
      obtain ⟨_, hcl, hat⟩ := World.cells?_some hc
      refine ⟨cs', ⟨hcl, _, _, ht'⟩, fun j u hu => ?_⟩
      have hj : j < C := by rw [← hcl]; exact (List.getElem?_eq_some_iff.1 hu).1
      rw [← Go.Deep.add_add, hat j hj, hu]
    obtain ⟨xss, hxl, hxp⟩ := mk_list len hel
    refine ⟨some a, len, cap, xss, hcs, ?_, hxl.symm, hl, hm, fun hn => ?_⟩
    · intro zs hzs
      obtain ⟨i, hi', hii⟩ := List.mem_iff_getElem.1 hzs
      exact (hxp i zs (by rw [List.getElem?_eq_getElem hi', hii])).1
    · obtain ⟨zs0, hz0⟩ : ∃ zs, xss[0]? = some zs := ⟨_, List.getElem?_eq_getElem (by omega)⟩
      obtain ⟨⟨hl0, _⟩, hc0⟩ := hxp 0 zs0 hz0
      obtain ⟨u, hu⟩ : ∃ u, zs0[0]? = some u := ⟨_, List.getElem?_eq_getElem (by omega)⟩
      have hcell := hc0 0 u hu
      obtain ⟨b, off, spot⟩ := a
      have hspot : spot = none := by simpa [Addr.add] using World.cell?_spot hcell
      subst hspot
      have hadd : ∀ k, (Addr.add ⟨b, off, none⟩ k) = ⟨b, off + k, none⟩ := fun k => by unfold Addr.add; split <;> simp_all
      refine ⟨b, off, rfl, ?_, fun i zs hz j u hu => ?_⟩
      · have := World.block_lt_of_cell? w _ hcell
        rw [hadd] at this
        exact this
      · have := (hxp i zs hz).2 j u hu
        rw [hadd] at this
        rw [Nat.add_assoc]
        exact this
theorem pick_list {β : Type} {f' : β → List Value} {p : β → Prop} (xss : List (List Value)) (hp : ∀ vs ∈ xss, ∃ y : β, f' y = vs ∧ p y) : ∃ ys : List β, ys.map f' = xss ∧ ∀ y ∈ ys, p y := by
  induction xss with
  | nil => exact ⟨[], rfl, by simp⟩
  | cons vs rest ih =>
    obtain ⟨ys, h1, h2⟩ := ih (fun v hv => hp v (List.mem_cons_of_mem _ hv))
    obtain ⟨y, h3, h4⟩ := hp vs (List.mem_cons_self ..)
    refine ⟨y :: ys, by rw [List.map_cons, h1, h3], fun z hz => ?_⟩
    rcases List.mem_cons.1 hz with rfl | hz
    · exact h4
    · exact h2 z hz
/-- the same cells as a slice of elements that they spell -/
theorem SliceOf.pick {β : Type} {size : Nat} {f' : β → List Value} {p : β → Prop} {A : Option Addr} {n c : Nat} {xss : List (List Value)} (h : SliceOf w size id A n c xss) (hp : ∀ vs ∈ xss, ∃ y : β, f' y = vs ∧ p y) :
    ∃ ys : List β, SliceOf w size f' A n c ys ∧ ∀ y ∈ ys, p y := by
  obtain ⟨ys, hy, hq⟩ := pick_list xss hp
  subst hy
  obtain ⟨h1, h2, h3, h4⟩ := h
  refine ⟨ys, ⟨by simpa using h1, h2, h3, fun hn => ?_⟩, hq⟩
  obtain ⟨b, off, hA, hb, hc⟩ := h4 hn
  refine ⟨b, off, hA, hb, fun i y hy j u hu => hc i (f' y) ?_ j u hu⟩
  rw [List.getElem?_map, hy]; rfl
/-- a structure of fields, by the cells of each -/
theorem open_fields {t : TypeId} {fs : Array Field} {fuel : Nat} {cs : List Value} {x : DataW H × List MemPlace} (hs : P.underlying t = some (.struct fs)) (h : DataW.trod enc P w base spare held fuel t cs = some x)
    {j : Nat} {f : Field} (hj : fs[j]? = some f) {o k : Nat} (ho : f.offset = o) (hk : P.cellsOf f.type = k) : ∃ n y, DataW.trod enc P w base spare held n f.type ((cs.drop o).take k) = some y := by
  obtain ⟨ys, n', _, _, hlen, hyl, hf⟩ := DataW.trod_struct hs h
  have h1 := hf j f hj
  rw [ho, hk] at h1
  have hl : j < ys.length := by
    rw [hyl]
    exact (Array.getElem?_eq_some_iff.1 hj).1
  exact ⟨n', ys[j], h1.trans (List.getElem?_eq_getElem hl)⟩
end
end Go.Proofs.YtpgbmhpddgjccaaGreat
