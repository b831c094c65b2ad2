/-
  The reference's draw of a network.
-/
import Derived.Test.YtegkeeeohileiaaSa14
namespace Go.Proofs.Ytegkeeeohileiaa
open Go.RowKit
theorem node_one' (y : Node) : ∀ u ∈ y.cells, u.oneCell' = true := by intro u hu; simp [Node.cells] at hu; rcases hu with rfl | rfl | rfl <;> rfl
theorem pipe_one' (y : Pipe) : ∀ u ∈ y.cells, u.oneCell' = true := by intro u hu; simp [Pipe.cells] at hu; rcases hu with rfl | rfl | rfl | rfl | rfl <;> rfl
theorem new_one {α : Type} {size : Nat} {f : α → List Value} (hf : ∀ x, (f x).length = size) (W : World) (t : TypeId) (x : α) : SliceOf (W.alloc (.cells (f x).toArray t)) size f (some ⟨W.heap.size, 0, none⟩) 1 1 [x] := by
  have h : RowOf (W.alloc (.cells (f x).toArray t)) W.heap.size t f [x] := by
    have h0 := Row.new W t (f x)
    unfold RowOf
    rw [List.flatMap_cons, List.flatMap_nil, List.append_nil]
    exact h0
  exact h.slice hf rfl (by omega)
def Short (ns : List Node) : Prop := ∀ x ∈ ns, x.name.size ≤ 100
theorem Short.snoc {ns : List Node} (h : Short ns) {x : Node} (hx : x.name.size ≤ 100) : Short (ns ++ [x]) := by
  intro y hy
  rcases List.mem_append.1 hy with hy | hy
  · exact h y hy
  · obtain rfl := List.mem_singleton.1 hy; exact hx
/-- a network that is being drawn; its result's block is w's first new one -/
structure NSt (w0 w : World) (a : Nat) (A : Option Addr) (n c : Nat) (v1 v2 : Value) (ns : List Node) (ps : List Pipe) (wr : World) : Prop where
  lt : a < w.heap.size
  src : Src w0 wr a A n c
  only : Only a w wr
  res : Row wr w.heap.size 27 [.slice none 0 0, .slice none 0 0]
  o1 : OwnL wr (w.heap.size + 1) 75 3 Node.cells v1 ns
  o2 : OwnL wr (w.heap.size + 1) 78 5 Pipe.cells v2 ps
  nm : Short ns
/-- a network that was drawn -/
def DrawnNet (w0 : World) (a : Nat) (A : Option Addr) (n c : Nat) (w : World) (e : Ending) (w' : World) : Prop :=
  ∃ (v1 v2 : Value) (ns : List Node) (ps : List Pipe), e = .returned (.agg #[v1, v2]) ∧ Src w0 w' a A n c ∧ Only a w w' ∧ OwnL w' (w.heap.size + 1) 75 3 Node.cells v1 ns ∧ OwnL w' (w.heap.size + 1) 78 5 Pipe.cells v2 ps ∧ 1 ≤ ns.length ∧ ns.length ≤ 7 ∧ ps.length ≤ 12 ∧ Short ns
section
variable {w0 w wr wr' : World} {a n c : Nat} {A : Option Addr} {v1 v2 v' : Value} {ns : List Node} {ps : List Pipe}
theorem OwnL.onlyA {α : Type} {base g : Nat} {e : TypeId} {size : Nat} {f : α → List Value} {v : Value} {L : List α} (h : OwnL w base e size f v L) (hx : Only g w wr) (hg : g < base) : OwnL wr base e size f v L := h.only hx hg
theorem NSt.draw (h : NSt w0 w a A n c v1 v2 ns ps wr) (hs : Src w0 wr' a A n c) (ho : Only a wr wr') : NSt w0 w a A n c v1 v2 ns ps wr' :=
  have hl := h.lt
  ⟨h.lt, hs, h.only.trans ho, h.res.only ho (by omega), h.o1.only ho (by omega), h.o2.only ho (by omega), h.nm⟩
theorem NSt.more (h : NSt w0 w a A n c v1 v2 ns ps wr) (hx : Ext wr wr') : NSt w0 w a A n c v1 v2 ns ps wr' := h.draw (h.src.more hx) (Only.of_ext hx a)
theorem NSt.app1 (h : NSt w0 w a A n c v1 v2 ns ps wr) (hg : wr.grownBy wr' v1.ownBlock) {ns' : List Node} (ho : OwnL wr' (w.heap.size + 1) 75 3 Node.cells v' ns') (hn : Short ns') : NSt w0 w a A n c v' v2 ns' ps wr' := by
  have hl := h.lt
  have hle := h.src.le0
  have hb := fun k (hk : v1.ownBlock = some k) => h.o1.block_le hk
  refine ⟨h.lt, h.src.grow hg (fun k hk => by have := hb k hk; omega), h.only.grown hg (fun k hk => .inl (by have := hb k hk; omega)), h.res.grown hg (fun e => by have := hb _ e; omega), ho, h.o2.grown hg (fun k hk => ?_), hn⟩
  exact fun e => OwnL.apart h.o1 h.o2 (by decide) k hk e
theorem NSt.app2 (h : NSt w0 w a A n c v1 v2 ns ps wr) (hg : wr.grownBy wr' v2.ownBlock) {ps' : List Pipe} (ho : OwnL wr' (w.heap.size + 1) 78 5 Pipe.cells v' ps') : NSt w0 w a A n c v1 v' ns ps' wr' := by
  have hl := h.lt
  have hle := h.src.le0
  have hb := fun k (hk : v2.ownBlock = some k) => h.o2.block_le hk
  refine ⟨h.lt, h.src.grow hg (fun k hk => by have := hb k hk; omega), h.only.grown hg (fun k hk => .inl (by have := hb k hk; omega)), h.res.grown hg (fun e => by have := hb _ e; omega), h.o1.grown hg (fun k hk => ?_), ho, h.nm⟩
  exact fun e => OwnL.apart h.o2 h.o1 (by decide) k hk e
theorem NSt.fin (h : NSt w0 w a A n c v1 v2 ns ps wr) (h1 : 1 ≤ ns.length) (h2 : ns.length ≤ 7) (h3 : ps.length ≤ 12) :
    DrawnNet w0 a A n c w (.returned (.agg #[v1, v2])) (putCells wr w.heap.size 0 [v1, v2]) := by
  have hl := h.lt
  have hle := h.src.le0
  exact ⟨v1, v2, ns, ps, rfl, h.src.put (by omega) (by omega) _ _, h.only.putNew (Nat.le_refl _) _ _, h.o1.put h.res (by decide) _ _, h.o2.put h.res (by decide) _ _, h1, h2, h3, h.nm⟩
set_option maxHeartbeats 2000000 in
theorem c_l02Draw (h : Src w0 w a A n c) :
    Calls Try.prog 64 #[.pointer (some ⟨a, 0, none⟩)] w (DrawnNet w0 a A n c w) := by
  have hal := h.lt
  have hle := h.le0
  have hR := Row.new w 27 [.slice none 0 0, .slice none 0 0]
  go_enter Try.func64, Try.ntmps64
  go_wp2_with fail
  refine (c_next 7 (h.more (Ext.alloc _ _)) (by omega) (by omega)).mono ?_
  rintro e w1 ⟨x1, rfl, hx1, hx1', hs1, ho1⟩
  obtain ⟨q, rfl⟩ := Int.eq_ofNat_of_zero_le hx1
  have hq : q ≤ 6 := by omega
  have hz1 := ho1.size
  simp at hz1
  have hD1 : NSt w0 w a A n c (.slice (some ⟨w1.heap.size, 0, none⟩) 0 0) (.slice (some ⟨w1.heap.size + 1, 0, none⟩) 0 0) [] [] ((w1.alloc (.cells #[] 75)).alloc (.cells #[] 78)) := by
    refine ⟨hal, (hs1.more (Ext.alloc _ _)).more (Ext.alloc _ _), ((((Only.of_ext (Ext.alloc w _) a).trans ho1).trans (Only.of_ext (Ext.alloc _ _) a)).trans (Only.of_ext (Ext.alloc _ _) a)), ((hR.only ho1 (by omega)).ext (Ext.alloc _ _)).ext (Ext.alloc _ _), (OwnL.empty w1 _ _ _ _ (by omega)).ext (Ext.alloc _ _), ?_, by intro x hx; cases hx⟩
    have h2 := OwnL.empty (w1.alloc (.cells #[] 75)) (w.heap.size + 1) 78 5 Pipe.cells (by simp; omega)
    rw [World.size_alloc] at h2
    exact h2
  clear hR hs1 ho1
  have e1 : (1 : Int) + (q : Int) = ((q + 1 : Nat) : Int) := by omega
  go_wp2_with fail
  go_loopw [4, 5, 6] (fun u1 u2 i wr => ∃ (k : Nat) (ns : List Node) (ps : List Pipe), k ≤ q + 1 ∧ i = .int .i64 k ∧ ns.length = k ∧ ps.length ≤ k ∧ NSt w0 w a A n c u1 u2 ns ps wr) (fun _ _ i _ => q + 1 - (intOf i).toNat)
  case atStart => exact ⟨0, [], [], Nat.zero_le _, rfl, rfl, Nat.le_refl _, hD1⟩
  case round =>
    obtain ⟨k, ns, ps, hk, rfl, hns, hps, hD⟩ := hrel
    clear hD1
    have hszr := hD.res.lt
    by_cases hlt : k < q + 1
    · have d1 : decide ((k : Int) < (q : Int) + 1) = true := decide_eq_true (by omega)
      go_wp2_with fail
      refine (c_l02DrawNode k (by omega) hD.src).mono ?_
      rintro e w2 ⟨x, rfl, hxn, hs2, ho2⟩
      have hD2 := hD.draw hs2 ho2
      have hsz2 := hD2.res.lt
      clear hD hs2 ho2
      go_wp2_with (at_builtin; go_must (refine wpList_append_grow rfl _ _ 24 rfl (w.heap.size + 1) 75 _ 3 32 Try.underlying24 node_info rfl (by decide) Node.cells node_len node_one' _ _ rfl (hD2.o1.ext (Ext.alloc _ _)) _ 1 1 [x] rfl (new_one node_len w2 75 x) (by simp; omega) (by omega) (by first | exact Nat.le_refl _ | omega | (simp; done) | (simp; omega)) ?_))
      intro v3 w3 hown3 hg3
      have hD3 := (hD2.more (Ext.alloc w2 (.cells #[.string x.name, .int .i64 x.low, .int .i64 x.high] 75))).app1 hg3 hown3 (hD2.nm.snoc hxn)
      clear hD2 hown3 hg3
      by_cases h0 : k = 0
      · subst h0
        go_wp2_with fail
        go_roundw
        case rel => exact ⟨1, _, _, by omega, by go_num, by rw [List.length_append, hns]; rfl, by omega, hD3⟩
        case measure => simp [intOf]
      · have d2 : decide ((0 : Int) < (k : Int)) = true := decide_eq_true (by omega)
        go_wp2_with fail
        refine (c_next 16 hD3.src (by omega) (by omega)).mono ?_
        rintro e w4 ⟨x4, rfl, hx4, hx4', hs4, ho4⟩
        have hD4 := hD3.draw hs4 ho4
        clear hD3 hs4 ho4
        by_cases h4 : 0 < x4
        · have d4 : decide (0 < x4) = true := decide_eq_true h4
          go_wp2_with fail
          refine (c_next (k : Int) hD4.src (by omega) (by omega)).mono ?_
          rintro e w5 ⟨x5, rfl, hx5, hx5', hs5, ho5⟩
          have hD5 := hD4.draw hs5 ho5
          clear hD4 hs5 ho5
          go_wp2_with fail
          refine (c_l02DrawPipe x5 k hD5.src).mono ?_
          rintro e w6 ⟨p, rfl, hs6, ho6⟩
          have hD6 := hD5.draw hs6 ho6
          have hsz6 := hD6.res.lt
          clear hD5 hs6 ho6
          go_wp2_with (at_builtin; go_must (refine wpList_append_grow rfl _ _ 25 rfl (w.heap.size + 1) 78 _ 5 40 Try.underlying25 pipe_info rfl (by decide) Pipe.cells pipe_len pipe_one' _ _ rfl (hD6.o2.ext (Ext.alloc _ _)) _ 1 1 [p] rfl (new_one pipe_len w6 78 p) (by simp; omega) (by omega) (by first | exact Nat.le_refl _ | omega | (simp; done) | (simp; omega)) ?_))
          intro v7 w7 hown7 hg7
          have hD7 := (hD6.more (Ext.alloc w6 (.cells #[.int .i64 p.src, .int .i64 p.dst, .int .i64 p.k, .int .i64 p.volume, .int .i64 p.limit] 78))).app2 hg7 hown7
          clear hD6 hown7 hg7
          go_wp2_with fail
          go_roundw
          case rel => exact ⟨k + 1, _, _, by omega, by go_num, by simp; omega, by simp; omega, hD7⟩
          case measure => simp [intOf]; omega
        · have d4 : decide (0 < x4) = false := decide_eq_false h4
          go_wp2_with fail
          go_roundw
          case rel => exact ⟨k + 1, _, _, by omega, by go_num, by simp; omega, by omega, hD4⟩
          case measure => simp [intOf]; omega
    · obtain rfl : k = q + 1 := by omega
      have d1 : decide (((q + 1 : Nat) : Int) < (q : Int) + 1) = false := decide_eq_false (by omega)
      go_wp2_with fail
      refine (c_next 3 hD.src (by omega) (by omega)).mono ?_
      rintro e w2 ⟨x2, rfl, hx2, hx2', hs2, ho2⟩
      have hD2 := hD.draw hs2 ho2
      clear hD hs2 ho2
      go_wp2_with fail
      go_loopw [5, 7] (fun u2 i wr => ∃ (j : Nat) (ps : List Pipe), j ≤ 2 ∧ i = .int .i64 j ∧ ps.length + j ≤ 9 ∧ NSt w0 w a A n c u4 u2 ns ps wr) (fun _ i _ => (intOf i).toNat)
      case atStart =>
        refine ⟨x2.toNat, ps, by omega, by rw [Int.toNat_of_nonneg hx2], by omega, hD2⟩
      case round =>
        obtain ⟨j, ps, hj, rfl, hps, hD⟩ := hrel
        clear hD2
        have hszr := hD.res.lt
        by_cases hgo : 0 < j ∧ 1 ≤ q
        · obtain ⟨hj0, hq1⟩ := hgo
          have d2 : decide ((0 : Int) < (j : Int)) = true := decide_eq_true (by omega)
          have d3 : decide ((1 : Int) < (q : Int) + 1) = true := decide_eq_true (by omega)
          go_wp2_with fail
          refine (c_next ((q : Int) + 1) hD.src (by omega) (by omega)).mono ?_
          rintro e w3 ⟨x3, rfl, hx3, hx3', hs3, ho3⟩
          have hD3 := hD.draw hs3 ho3
          clear hD hs3 ho3
          have e2 : IntKind.i64.wrap ((q : Int) + 1 - 1) = (q : Int) := by rw [IntWalk.i64_in _ (by omega)]; omega
          go_wp2_with fail
          refine (c_next _ hD3.src (by omega) (by omega)).mono ?_
          rintro e w4 ⟨x4, rfl, hx4, hx4', hs4, ho4⟩
          have hD4 := hD3.draw hs4 ho4
          clear hD3 hs4 ho4
          go_wp2_with fail
          refine (c_l02DrawPipe _ _ hD4.src).mono ?_
          rintro e w6 ⟨p, rfl, hs6, ho6⟩
          have hD6 := hD4.draw hs6 ho6
          have hsz6 := hD6.res.lt
          clear hD4 hs6 ho6
          go_wp2_with (at_builtin; go_must (refine wpList_append_grow rfl _ _ 25 rfl (w.heap.size + 1) 78 _ 5 40 Try.underlying25 pipe_info rfl (by decide) Pipe.cells pipe_len pipe_one' _ _ rfl (hD6.o2.ext (Ext.alloc _ _)) _ 1 1 [p] rfl (new_one pipe_len w6 78 p) (by simp; omega) (by omega) (by first | exact Nat.le_refl _ | omega | (simp; done) | (simp; omega)) ?_))
          intro v7 w7 hown7 hg7
          have hD7 := (hD6.more (Ext.alloc w6 (.cells #[.int .i64 p.src, .int .i64 p.dst, .int .i64 p.k, .int .i64 p.volume, .int .i64 p.limit] 78))).app2 hg7 hown7
          clear hD6 hown7 hg7
          go_wp2_with fail
          go_roundw
          case rel => exact ⟨j - 1, _, by omega, by go_num, by simp; omega, hD7⟩
          case measure => simp [intOf]; omega
        · obtain ⟨A1, c1, e4, _, _⟩ := hD.o1.form
          rw [hns] at e4
          subst e4
          obtain ⟨A2, c2, rfl, _, _⟩ := hD.o2.form
          have hF := hide (hD.fin (by omega) (by omega) (by omega))
          have r0 := hD.res.cell 0
          have r1 := hD.res.cell 1
          simp at r0 r1
          have f0 := hD.res.frozen 0
          have f1 := hD.res.frozen 1
          clear hD
          by_cases hj0 : j = 0
          · subst hj0
            go_wp2_with fail
            refine bodyPost_ret (v := .agg #[.slice A1 (q + 1) c1, .slice A2 ps.length c2]) (by simp [results, Try.results64, go_sem, r0, r1]) rfl ?_
            exact hF.out
          · have d2 : decide ((0 : Int) < (j : Int)) = true := decide_eq_true (by omega)
            have d3 : decide ((1 : Int) < (q : Int) + 1) = false := decide_eq_false (by omega)
            go_wp2_with fail
            refine bodyPost_ret (v := .agg #[.slice A1 (q + 1) c1, .slice A2 ps.length c2]) (by simp [results, Try.results64, go_sem, r0, r1]) rfl ?_
            exact hF.out
end
end Go.Proofs.Ytegkeeeohileiaa
