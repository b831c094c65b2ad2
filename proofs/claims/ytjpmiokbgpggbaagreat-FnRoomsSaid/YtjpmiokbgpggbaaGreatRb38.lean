/-
  NewRoom of the reference: a room in blocks of its own whose lists may be appended to. Events: validity, of the program and of the reference (over the helpers' record of an event).
-/
import Derived.Test.YtjpmiokbgpggbaaGreatRb34
import Derived.Test.YtjpmiokbgpggbaaGreatRb37
import Derived.Test.YtjpmiokbgpggbaaGreatRb20
import Derived.Test.YtjpmiokbgpggbaaGreatRb06
import Derived.Test.YtjpmiokbgpggbaaGreatRb15
import Derived.Test.YtjpmiokbgpggbaaGreatRb28
namespace Go.Proofs.YtjpmiokbgpggbaaGreat
open Go.RowKit
theorem sep_one (x : Option Nat) : SepL [x] := by
  intro i j b hij hi hj
  rw [List.getElem?_singleton] at hi hj
  split at hi
  · split at hj
    · omega
    · cases hj
  · cases hi
set_option maxHeartbeats 4000000 in
theorem c_l33NewL (A1 A2 : Option Addr) (n1 c1 n2 c2 : Nat) (ns : List Node) (ps : List Pipe) (A : Option Addr) (n c : Nat) (xs : List Contract) (w : World) (h1 : SliceOf w 3 Node.cells A1 n1 c1 ns) (h2 : SliceOf w 5 Pipe.cells A2 n2 c2 ps) (hs : SliceOf w 8 Contract.cells A n c xs) (m1 : n1 ≤ 1048576) (m2 : n2 ≤ 1048576) (m3 : n ≤ 1048576) :
    Calls Tryz.prog 44 #[.agg #[.slice A1 n1 c1, .slice A2 n2 c2], .slice A n c] w (RetLR (newR ns ps xs) w) := by
  have x0 : Ext w ((w.alloc (.cells #[.slice A1 n1 c1, .slice A2 n2 c2] 27)).alloc (.cells #[.slice none 0 0, .slice none 0 0, .slice none 0 0, .slice none 0 0, .slice none 0 0] 32)) := (Ext.alloc _ _).and_alloc _
  go_enter Tryz.func44, Tryz.ntmps44
  go_wp2_with fail
  refine (o_l02Own A1 A2 n1 c1 n2 c2 ns ps _ (h1.ext x0) (h2.ext x0) m1 m2).mono ?_
  rintro e w1 ⟨_, rfl, ⟨B1, k1, d1, B2, k2, d2, rfl, o1, o2, b1, b2⟩, hx1⟩
  have hz1 := hx1.size
  simp at hz1
  go_wp2_with (at_builtin; go_must (refine wpList_append_grow rfl _ _ 28 rfl (w1.heap.size) 68 _ 8 64 Tryz.underlying28 contract_info rfl (by decide) Contract.cells contract_len contract_one _ [] rfl (own_new w1 _ _ _ _ _ rfl (Nat.le_refl _)) A n c xs rfl (hs.ext ((x0.trans hx1).and_alloc _)) (by first | omega | (simp; omega)) (by omega) (by first | exact Nat.le_refl _ | omega | (simp; done) | (simp; omega)) ?_))
  intro v3 w3 o3 g3
  have hX3 := wp_ext_only (Ext.alloc w1 _) g3 (Nat.le_refl _)
  obtain ⟨B3, d3, rfl, p3, q3⟩ := o3.toA contract_len (by omega)
  have hx03 := hx1.trans hX3
  have hcl := hx03.cell
  have hfr := hx03.frozen
  have hz3 : w.heap.size + 1 < w3.heap.size := by have := hX3.size; omega
  have hz4 : w.heap.size < w3.heap.size := by omega
  go_wp2
  have f1 : ∀ b, blkOf B1 k1 = some b → b ≠ w.heap.size + 1 := fun b hb => by have := b1 b hb; simp at this; omega
  have f2 : ∀ b, blkOf B2 k2 = some b → b ≠ w.heap.size + 1 := fun b hb => by have := b2 b hb; simp at this; omega
  have f3 : ∀ b, blkOf B3 xs.length = some b → b ≠ w.heap.size + 1 := fun b hb => by have := q3 b hb; omega
  have o1f := ((o1.ext hX3).set5 f1 (.slice B1 k1 d1) (.slice B2 k2 d2) (.slice B3 xs.length d3) (.slice none 0 0) (.slice (some ⟨w3.heap.size + 1, 0, none⟩) 1 1))
  have o2f := ((o2.ext hX3).set5 f2 (.slice B1 k1 d1) (.slice B2 k2 d2) (.slice B3 xs.length d3) (.slice none 0 0) (.slice (some ⟨w3.heap.size + 1, 0, none⟩) 1 1))
  have o3f := (p3.set5 f3 (.slice B1 k1 d1) (.slice B2 k2 d2) (.slice B3 xs.length d3) (.slice none 0 0) (.slice (some ⟨w3.heap.size + 1, 0, none⟩) 1 1))
  have hXF : Ext w (((((w3.setCell ⟨w.heap.size + 1, 0, none⟩ (.slice B1 k1 d1)).setCell ⟨w.heap.size + 1, 1, none⟩ (.slice B2 k2 d2)).setCell ⟨w.heap.size + 1, 2, none⟩ (.slice B3 xs.length d3)).setCell ⟨w.heap.size + 1, 3, none⟩ (.slice none 0 0)).setCell ⟨w.heap.size + 1, 4, none⟩ (.slice (some ⟨w3.heap.size + 1, 0, none⟩) 1 1)) := by
    repeat (refine Ext.setCell ?_ (by first | (simp; done) | (simp; omega) | omega) _)
    exact x0.trans hx03
  have hSZ : (((((w3.setCell ⟨w.heap.size + 1, 0, none⟩ (.slice B1 k1 d1)).setCell ⟨w.heap.size + 1, 1, none⟩ (.slice B2 k2 d2)).setCell ⟨w.heap.size + 1, 2, none⟩ (.slice B3 xs.length d3)).setCell ⟨w.heap.size + 1, 3, none⟩ (.slice none 0 0)).setCell ⟨w.heap.size + 1, 4, none⟩ (.slice (some ⟨w3.heap.size + 1, 0, none⟩) 1 1)).heap.size = w3.heap.size := by simp
  have qb1 := fun b hb => by have := b1 b hb; simp at this; exact (show w.heap.size ≤ b by omega)
  have qb2 := fun b hb => by have := b2 b hb; simp at this; exact (show w.heap.size ≤ b by omega)
  have qb3 := fun b hb => by have := q3 b hb; exact (show w.heap.size ≤ b by omega)
  refine bodyPost_ret (v := .agg #[.slice B1 k1 d1, .slice B2 k2 d2, .slice B3 xs.length d3, .slice none 0 0, .slice (some ⟨w3.heap.size + 1, 0, none⟩) 1 1]) (by simp [results, Tryz.results44, go_sem, hcl, hz3, hz4]) rfl
    ⟨B1, B2, B3, none, some ⟨w3.heap.size + 1, 0, none⟩, k1, d1, k2, d2, _, d3, 0, 0, 1, 1, ⟨ns, ps, xs, [], [⟨some ⟨w3.heap.size, 0, none⟩, 0, 0, []⟩]⟩, rfl, ?_, ⟨rfl, rfl, rfl, rfl, rfl⟩, ?_⟩
  · generalize (((((w3.setCell ⟨w.heap.size + 1, 0, none⟩ (.slice B1 k1 d1)).setCell ⟨w.heap.size + 1, 1, none⟩ (.slice B2 k2 d2)).setCell ⟨w.heap.size + 1, 2, none⟩ (.slice B3 xs.length d3)).setCell ⟨w.heap.size + 1, 3, none⟩ (.slice none 0 0)).setCell ⟨w.heap.size + 1, 4, none⟩ (.slice (some ⟨w3.heap.size + 1, 0, none⟩) 1 1)) = WF at *
    refine LRoom.of (o1f.ext ((Ext.alloc _ _).and_alloc _)) (o2f.ext ((Ext.alloc _ _).and_alloc _)) (o3f.ext ((Ext.alloc _ _).and_alloc _)) ⟨rfl, by omega, by omega, fun h => absurd h (by omega)⟩ qb1 qb2 qb3 (fun b hb => absurd hb (blk_zero _ _)) ?_ ?_ (sep_one _) (sep_one _)
    · exact OwnL.of_row (xs := [(⟨some ⟨w3.heap.size, 0, none⟩, 0, 0, []⟩ : RS)]) (Row.newG _ _ (by simp [hSZ])) rs_len (by omega) (by simp)
    · intro q hq
      simp at hq
      subst hq
      exact (own_new WF w.heap.size 93 2 Reading.cells w3.heap.size hSZ.symm (by omega)).ext (Ext.alloc _ _)
  · exact (hXF.and_alloc _).and_alloc _
/-- a new room, where the book is one -/
def RetRL (R : Room × Int) (w : World) (e : Ending) (w' : World) : Prop :=
  ∃ (A1 A2 A3 A4 A5 : Option Addr) (n1 c1 n2 c2 n3 c3 n4 c4 n5 c5 : Nat) (r' : Room), e = .returned (.tuple #[.agg #[.slice A1 n1 c1, .slice A2 n2 c2, .slice A3 n3 c3, .slice A4 n4 c4, .slice A5 n5 c5], .int .i64 R.2]) ∧ (R.2 = 0 → LRoom w' w.heap.size w'.heap.size A1 A2 A3 A4 A5 n1 c1 n2 c2 n3 c3 n4 c4 n5 c5 r' ∧ r'.Like R.1) ∧ Ext w w'
set_option maxHeartbeats 2000000 in
theorem c_specNewRoomL (A1 A2 : Option Addr) (n1 c1 n2 c2 : Nat) (ns : List Node) (ps : List Pipe) (A : Option Addr) (n c : Nat) (xs : List Contract) (w : World) (h1 : SliceOf w 3 Node.cells A1 n1 c1 ns) (h2 : SliceOf w 5 Pipe.cells A2 n2 c2 ps) (hs : SliceOf w 8 Contract.cells A n c xs) (m1 : n1 ≤ 1048576) (m2 : n2 ≤ 1048576) (m3 : n ≤ 1048576) (hnm : ∀ x ∈ ns, x.name.size ≤ 1048576) :
    Calls Tryz.prog 68 #[.agg #[.slice A1 n1 c1, .slice A2 n2 c2], .slice A n c] w (RetRL (newRR n1 ns ps xs) w) := by
  have x0 : Ext w ((w.alloc (.cells #[.slice A1 n1 c1, .slice A2 n2 c2] 27)).alloc (.cells #[.slice none 0 0, .slice none 0 0, .slice none 0 0, .slice none 0 0, .slice none 0 0] 32)) := (Ext.alloc _ _).and_alloc _
  have HNM := hide hnm
  clear hnm
  cases hb : (netB ns ps && bookB n1 xs)
  · have HR := hide (newRR_no hb)
    go_enter Tryz.func68, Tryz.ntmps68
    go_wp2_with fail
    refine (c_specIsBook A1 A2 n1 c1 n2 c2 ns ps A n c xs _ (h1.ext x0) (h2.ext x0) (hs.ext x0) HNM.out).mono ?_
    rw [hb]
    rintro e w1 ⟨rfl, hx1⟩
    have hcl := hx1.cell
    have hfr := hx1.frozen
    have hz1 := hx1.size
    simp at hz1
    have hz2 : w.heap.size + 1 < w1.heap.size := by omega
    go_wp2
    rw [HR.out]
    refine bodyPost_ret (v := .tuple #[.agg #[.slice none 0 0, .slice none 0 0, .slice none 0 0, .slice none 0 0, .slice none 0 0], .int .i64 1]) (by simp [results, Tryz.results68, go_sem, hcl]) rfl
      ⟨_, _, _, _, _, _, _, _, _, _, _, _, _, _, _, zeroR, rfl, fun h => absurd h (by decide), ?_⟩
    repeat (refine Ext.setCell ?_ (by first | (simp; done) | (simp; omega) | omega) _)
    exact x0.trans hx1
  · have HR := hide (newRR_yes hb)
    go_enter Tryz.func68, Tryz.ntmps68
    go_wp2_with fail
    refine (c_specIsBook A1 A2 n1 c1 n2 c2 ns ps A n c xs _ (h1.ext x0) (h2.ext x0) (hs.ext x0) HNM.out).mono ?_
    rw [hb]
    rintro e w1 ⟨rfl, hx1⟩
    have hcl := hx1.cell
    have hz1 := hx1.size
    simp at hz1
    have hz2 : w.heap.size < w1.heap.size := by omega
    go_wp2_with fail
    refine (c_l33NewL A1 A2 n1 c1 n2 c2 ns ps A n c xs _ (h1.ext (x0.trans hx1)) (h2.ext (x0.trans hx1)) (hs.ext (x0.trans hx1)) m1 m2 m3).mono ?_
    rintro e w2 ⟨B1, B2, B3, B4, B5, k1, d1, k2, d2, k3, d3, k4, d4, k5, d5, r', rfl, ho, hl, hx2⟩
    clear hcl hz2
    have hx02 := hx1.trans hx2
    have hcl := hx02.cell
    have hfr := hx02.frozen
    have hz3 := hx2.size
    have hz2 : w.heap.size + 1 < w2.heap.size := by omega
    go_wp2
    rw [HR.out]
    refine bodyPost_ret (v := .tuple #[.agg #[.slice B1 k1 d1, .slice B2 k2 d2, .slice B3 k3 d3, .slice B4 k4 d4, .slice B5 k5 d5], .int .i64 0]) (by simp [results, Tryz.results68, go_sem, hcl]) rfl
      ⟨_, _, _, _, _, _, _, _, _, _, _, _, _, _, _, r', rfl, fun _ => ⟨⟨(ho.own.set5 (.inl (by omega)) _ _ _ _ _).wider (by omega) (by simp), (ho.r5.set5 (fun k hk e => by have := ho.r5.block_le hk; omega) _ _ _ _ _).base (by omega), fun q hq => ((ho.r6 q hq).set5 (fun k hk e => by have := (ho.r6 q hq).block_le hk; omega) _ _ _ _ _).base (by omega), ho.sep2⟩, hl⟩, ?_⟩
    repeat (refine Ext.setCell ?_ (by first | (simp; done) | (simp; omega) | omega) _)
    exact x0.trans hx02
end Go.Proofs.YtjpmiokbgpggbaaGreat

namespace Go.Proofs.YtjpmiokbgpggbaaGreat
open Go.RowKit
def flowB (z : Int) : Bool := inB z (-30000) 30000
def evB (p : Event) : Bool := inB p.kind 1 3 && flowB p.a && flowB p.b && flowB p.c && flowB p.d
theorem evB_facts {p : Event} (h : evB p = true) : (p.kind = 1 ∨ p.kind = 2 ∨ p.kind = 3) ∧ (-30000 ≤ p.a ∧ p.a ≤ 30000) ∧ (-30000 ≤ p.b ∧ p.b ≤ 30000) ∧ (-30000 ≤ p.c ∧ p.c ≤ 30000) ∧ (-30000 ≤ p.d ∧ p.d ≤ 30000) := by
  simp only [evB, flowB, Bool.and_eq_true, inB_true] at h
  omega
theorem Row.new1 (w : World) (o : Obj) (t : TypeId) (cs : List Value) : Row ((w.alloc o).alloc (.cells cs.toArray t)) (w.heap.size + 1) t cs := by
  have h := Row.new (w.alloc o) t cs
  rwa [show (w.alloc o).heap.size = w.heap.size + 1 by simp] at h
set_option maxHeartbeats 1000000 in
theorem c_IsEvent (p : Event) (w : World) :
    Calls Tryz.prog 25 #[.agg #[.int .i64 p.kind, .int .i64 p.a, .int .i64 p.b, .int .i64 p.c, .int .i64 p.d]] w (Ret (.bool (evB p)) w) := by
  obtain ⟨k, a, b, c, d⟩ := p
  go_enter Tryz.func25, Tryz.ntmps25
  cases hk : inB k 1 3
  · go_wp2_with (first | (go_at_call 32; refine (c_within _ _ _ _).mono ?_; rintro e w' ⟨rfl, rfl⟩))
    go_ret
    refine Ret.bool ?_ (Ext.alloc _ _)
    simp_all [evB]
  · go_wp2_with (first | (go_at_call 32; refine (c_within _ _ _ _).mono ?_; rintro e w' ⟨rfl, rfl⟩))
    have hS := Row.new1 w (.cells #[.int .i64 k, .int .i64 a, .int .i64 b, .int .i64 c, .int .i64 d] 34) 2 [.int .i64 a, .int .i64 b, .int .i64 c, .int .i64 d]
    refine (c_allWithin _ 4 4 [a, b, c, d] (-30000) 30000 _ (RowOf.slice (f := intC) (xs := [a, b, c, d]) hS intC_len rfl (by omega))).mono ?_
    rintro e w' ⟨rfl, rfl⟩
    go_wp2_with fail
    go_ret
    refine Ret.bool ?_ ((Ext.alloc _ _).and_alloc _)
    simp [evB, allB, flowB, hk, Bool.and_assoc]
set_option maxHeartbeats 1000000 in
theorem c_specIsEvent (p : Event) (w : World) :
    Calls Tryz.prog 27 #[.agg #[.int .i64 p.kind, .int .i64 p.a, .int .i64 p.b, .int .i64 p.c, .int .i64 p.d]] w (Ret (.bool (evB p)) w) := by
  obtain ⟨k, a, b, c, d⟩ := p
  go_enter Tryz.func27, Tryz.ntmps27
  go_wp2_with (first | (go_at_call 37; refine (c_l01In _ _ _ _).mono ?_; rintro e w' ⟨rfl, rfl⟩) | (go_at_call 75; refine (c_l05Flow _ _).mono ?_; rintro e w' ⟨rfl, rfl⟩))
  all_goals
    go_ret
    refine Ret.bool ?_ (Ext.alloc _ _)
    simp_all [evB, flowB]
end Go.Proofs.YtjpmiokbgpggbaaGreat
