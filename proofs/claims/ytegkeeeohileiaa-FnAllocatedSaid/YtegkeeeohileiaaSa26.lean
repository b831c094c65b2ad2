/-
  The reference's draw of a network and a chord.
-/
import Derived.Test.YtegkeeeohileiaaSa21
import Derived.Test.YtegkeeeohileiaaSa25
import Derived.Test.YtegkeeeohileiaaSa08
namespace Go.Proofs.Ytegkeeeohileiaa
open Go.RowKit
section
variable {w0 w wr wr' : World} {a n c g : Nat} {A : Option Addr} {v1 v2 v3 v' : Value} {ns : List Node} {ps qs : List Pipe}
/-- some number -/
def DrawnN (w0 : World) (a : Nat) (A : Option Addr) (n c : Nat) (w : World) (e : Ending) (w' : World) : Prop :=
  ∃ x : Int, e = .returned (.int .i64 x) ∧ Src w0 w' a A n c ∧ Only a w w'
set_option maxHeartbeats 1000000 in
theorem c_l02DrawIndex (m : Nat) (hm : m ≤ 1000) (h : Src w0 w a A n c) :
    Calls Try.prog 60 #[.pointer (some ⟨a, 0, none⟩), .int .i64 m] w (DrawnN w0 a A n c w) := by
  go_enter Try.func60, Try.ntmps60
  go_wp2_with fail
  refine (c_next m h (by omega) (by omega)).mono ?_
  rintro e w1 ⟨x1, rfl, hx1, hx1', hs1, ho1⟩
  go_wp2_with fail
  refine (c_next 16 hs1 (by omega) (by omega)).mono ?_
  rintro e w2 ⟨x2, rfl, hx2, hx2', hs2, ho2⟩
  have e1 : x2.tdiv 15 = 0 ∨ x2.tdiv 15 = 1 := by rw [Int.tdiv_eq_ediv_of_nonneg hx2]; omega
  go_wp2_with fail
  refine (c_next 24 hs2 (by omega) (by omega)).mono ?_
  rintro e w3 ⟨x3, rfl, hx3, hx3', hs3, ho3⟩
  go_wp2_with fail
  go_ret
  exact ⟨_, rfl, hs3, (ho1.trans ho2).trans ho3⟩
/-- a network whose pipes are being drawn on -/
structure LSt (w0 w : World) (a : Nat) (A : Option Addr) (n c g : Nat) (v1 v2 v3 : Value) (ns : List Node) (qs : List Pipe) (wr : World) : Prop where
  lt : a < w.heap.size
  src : Src w0 wr a A n c
  only : Only a w wr
  res : Row wr w.heap.size 27 [.slice none 0 0, .slice none 0 0]
  var : Row wr g 27 [v1, v2]
  hg : w.heap.size < g
  o1 : OwnL wr (w.heap.size + 1) 75 3 Node.cells v1 ns
  o3 : OwnL wr (w.heap.size + 1) 78 5 Pipe.cells v3 qs
  nm : Short ns
theorem LSt.draw (h : LSt w0 w a A n c g v1 v2 v3 ns qs wr) (hs : Src w0 wr' a A n c) (ho : Only a wr wr') : LSt w0 w a A n c g v1 v2 v3 ns qs wr' :=
  have hl := h.lt
  have hg := h.hg
  ⟨h.lt, hs, h.only.trans ho, h.res.only ho (by omega), h.var.only ho (by omega), h.hg, h.o1.only ho (by omega), h.o3.only ho (by omega), h.nm⟩
theorem LSt.more (h : LSt w0 w a A n c g v1 v2 v3 ns qs wr) (hx : Ext wr wr') : LSt w0 w a A n c g v1 v2 v3 ns qs wr' := h.draw (h.src.more hx) (Only.of_ext hx a)
theorem LSt.app (h : LSt w0 w a A n c g v1 v2 v3 ns qs wr) (hgr : wr.grownBy wr' v3.ownBlock) {qs' : List Pipe} (ho : OwnL wr' (w.heap.size + 1) 78 5 Pipe.cells v' qs') : LSt w0 w a A n c g v1 v2 v' ns qs' wr' := by
  have hl := h.lt
  have hle := h.src.le0
  have hb := fun k (hk : v3.ownBlock = some k) => h.o3.block_le hk
  refine ⟨h.lt, h.src.grow hgr (fun k hk => by have := hb k hk; omega), h.only.grown hgr (fun k hk => .inl (by have := hb k hk; omega)), h.res.grown hgr (fun e => by have := hb _ e; omega), h.var.grown hgr (fun e => h.o3.not_row h.var (by decide) g e rfl), h.hg, h.o1.grown hgr (fun k hk => ?_), ho, h.nm⟩
  exact fun e => OwnL.apart h.o3 h.o1 (by decide) k hk e
theorem LSt.fin (h : LSt w0 w a A n c g v1 v2 v3 ns qs wr) (h2 : ns.length ≤ 7) (h3 : qs.length ≤ 30) :
    DrawnNet2 w0 a A n c w (.returned (.agg #[v1, v3])) (putCells wr w.heap.size 0 [v1, v3]) := by
  have hl := h.lt
  have hle := h.src.le0
  exact ⟨v1, v3, ns, qs, rfl, h.src.put (by omega) (by omega) _ _, h.only.putNew (Nat.le_refl _) _ _, h.o1.put h.res (by decide) _ _, h.o3.put h.res (by decide) _ _, h2, h3, h.nm⟩
set_option maxHeartbeats 4000000 in
theorem c_l05DrawLoops (h : Src w0 w a A n c) :
    Calls Try.prog 57 #[.pointer (some ⟨a, 0, none⟩)] w (DrawnNet2 w0 a A n c w) := by
  have hal := h.lt
  have hle := h.le0
  go_enter Try.func57, Try.ntmps57
  go_wp2_with fail
  refine (c_l02Draw (h.more (Ext.alloc _ _))).mono ?_
  rintro e w1 ⟨v1, v2, ns, ps, rfl, hs1, ho1, o1, o2, hn1, hn7, hp, hnm⟩
  have hD0 := ASt.new hal hs1 ho1 (o1.lowG (by simp)) (o2.lowG (by simp)) hnm
  have hz1 := ho1.size
  simp at hz1
  obtain ⟨A1, c1, rfl, hc1, hc1'⟩ := hD0.o1.form
  obtain ⟨A2, c2, rfl, hs2⟩ := hD0.o2.sl pipe_len (by omega)
  clear hs1 ho1 o1 o2 hnm
  have hD1 : LSt w0 w a A n c w1.heap.size (.slice A1 ns.length c1) (.slice A2 ps.length c2) (.slice (some ⟨w1.heap.size + 1, 0, none⟩) 0 0) ns [] ((w1.alloc (.cells #[.slice A1 ns.length c1, .slice A2 ps.length c2] 27)).alloc (.cells #[] 78)) :=
    have hx := Ext.alloc (w1.alloc (.cells #[.slice A1 ns.length c1, .slice A2 ps.length c2] 27)) (.cells #[] 78)
    ⟨hD0.lt, hD0.src.more hx, hD0.only.trans (Only.of_ext hx a), hD0.res.ext hx, hD0.var.ext hx, hD0.hg, hD0.o1.ext hx, own_new _ _ _ _ _ _ (by simp) (by omega), hD0.nm⟩
  have hs3 := hs2.ext (Ext.alloc (w1.alloc (.cells #[.slice A1 ns.length c1, .slice A2 ps.length c2] 27)) (.cells #[] 78))
  clear hs2 hD0
  go_wp2_with (at_builtin; go_must (refine wpList_append_grow rfl _ _ 25 rfl (w.heap.size + 1) 78 _ 5 40 Try.underlying25 pipe_info rfl (by decide) Pipe.cells pipe_len pipe_one' _ [] rfl (hD1.o3) A2 ps.length c2 ps rfl (hs3) (by simp; omega) (by omega) (by first | exact Nat.le_refl _ | omega | (simp; done) | (simp; omega)) ?_))
  intro v3 w2 ho2 hg2
  have hD2 := hD1.app hg2 ho2
  clear hD1 hs3 ho2 hg2
  go_wp2_with fail
  refine (c_next 3 hD2.src (by omega) (by omega)).mono ?_
  rintro e w3 ⟨x3, rfl, hx3, hx3', hs3, ho3⟩
  have hD3 := hD2.draw hs3 ho3
  clear hD2 hs3 ho3
  obtain ⟨j0, rfl⟩ := Int.eq_ofNat_of_zero_le hx3
  go_wp2_with fail
  go_loopw [5, 6] (fun u i wr => ∃ (j : Nat) (qs : List Pipe), j ≤ 2 ∧ i = .int .i64 j ∧ qs.length + j ≤ 14 ∧ LSt w0 w a A n c w1.heap.size (.slice A1 ns.length c1) (.slice A2 ps.length c2) u ns qs wr) (fun _ i _ => (intOf i).toNat)
  case atStart => exact ⟨j0, ps, by omega, rfl, by omega, hD3⟩
  case round =>
    obtain ⟨j, qs, hj, rfl, hqs, hD⟩ := hrel
    clear hD3
    by_cases hgo : 0 < j ∧ 1 < ns.length
    · obtain ⟨hj0, hq1⟩ := hgo
      go_wp2_with fail
      refine (c_next ns.length hD.src (by omega) (by omega)).mono ?_
      rintro e w4 ⟨x4, rfl, hx4, hx4', hs4, ho4⟩
      have hD4 := hD.draw hs4 ho4
      clear hD hs4 ho4
      have e2 : IntKind.i64.wrap ((ns.length : Int) - 1) = (ns.length : Int) - 1 := IntWalk.i64_in _ (by omega)
      go_wp2_with fail
      refine (c_next _ hD4.src (by omega) (by omega)).mono ?_
      rintro e w5 ⟨x5, rfl, hx5, hx5', hs5, ho5⟩
      have hD5 := hD4.draw hs5 ho5
      clear hD4 hs5 ho5
      go_wp2_with fail
      refine (c_l02DrawPipe _ _ hD5.src).mono ?_
      rintro e w6 ⟨p, rfl, hs6, ho6⟩
      have hD6 := hD5.draw hs6 ho6
      have hsz6 := hD6.res.lt
      clear hD5 hs6 ho6
      go_wp2_with (at_builtin; go_must (refine wpList_append_grow rfl _ _ 25 rfl (w.heap.size + 1) 78 _ 5 40 Try.underlying25 pipe_info rfl (by decide) Pipe.cells pipe_len pipe_one' _ _ rfl (hD6.o3.ext (Ext.alloc _ _)) _ 1 1 [p] rfl (new_one pipe_len w6 78 p) (by simp; omega) (by omega) (by first | exact Nat.le_refl _ | omega | (simp; done) | (simp; omega)) ?_))
      intro v7 w7 hown7 hg7
      have hD7 := (hD6.more (Ext.alloc w6 (.cells #[.int .i64 p.src, .int .i64 p.dst, .int .i64 p.k, .int .i64 p.volume, .int .i64 p.limit] 78))).app hg7 hown7
      clear hD6 hown7 hg7
      go_wp2_with fail
      go_roundw
      case rel => exact ⟨j - 1, _, by omega, by go_num, by simp; omega, hD7⟩
      case measure => simp [intOf]; omega
    · obtain ⟨A3, c3, rfl, _, _⟩ := hD.o3.form
      have HF := hide (hD.fin (by omega) (by omega))
      have p0 := hD.var.cell 0
      have p1 := hD.var.cell 1
      simp at p0 p1
      have pf := hD.var.frozen
      have pl := hD.var.lt
      have q0 := hD.res.cell 0
      have q1 := hD.res.cell 1
      simp at q0 q1
      have qf := hD.res.frozen
      have ql := hD.res.lt
      clear hD
      by_cases hj0 : j = 0
      · subst hj0
        go_wp2_with fail
        refine bodyPost_ret (v := .agg #[.slice A1 ns.length c1, .slice A3 qs.length c3]) (by simp [results, Try.results57, go_sem, q0, q1]) rfl ?_
        exact HF.out
      · have hq1 : ¬ 1 < ns.length := by omega
        go_wp2_with fail
        refine bodyPost_ret (v := .agg #[.slice A1 ns.length c1, .slice A3 qs.length c3]) (by simp [results, Try.results57, go_sem, q0, q1]) rfl ?_
        exact HF.out
end
end Go.Proofs.Ytegkeeeohileiaa
