/-
  The reference's draw of a network, orders and readings: the walk.
-/
import Derived.Test.YtegkeeeohileiaaSa44
namespace Go.Proofs.Ytegkeeeohileiaa
open Go.RowKit
section
variable {w0 w wr wr' : World} {a n c g : Nat} {A : Option Addr} {v1 v2 v3 v4 v' : Value} {ns : List Node} {ps : List Pipe} {xs : List Order} {rs : List Reading}
theorem SmR.one {rs : List Reading} (h : SmR rs) {x : Reading} (hx : x ∈ rs) : -30000 ≤ x.amount ∧ x.amount ≤ 30000 := h x hx
def Sm4 (r : List Reading) : Prop := ∀ x ∈ r, -40000 ≤ x.amount ∧ x.amount ≤ 40000
theorem Sm4.set {r : List Reading} (h : Sm4 r) (k : Nat) {y : Reading} (hy : -40000 ≤ y.amount ∧ y.amount ≤ 40000) : Sm4 (r.set k y) := by
  intro x hx
  rcases List.mem_or_eq_of_mem_set hx with hx | rfl
  · exact h x hx
  · exact hy
theorem blk_drop {b off off' n base : Nat} (h : ∀ b', blkOf (some ⟨b, off, none⟩) (n + 1) = some b' → base ≤ b') : ∀ b', blkOf (some ⟨b, off', none⟩) n = some b' → base ≤ b' := by
  intro b' hb
  unfold blkOf at hb
  split at hb
  · cases hb
  · exact h b' (by unfold blkOf; rw [if_neg (by omega)]; exact hb)
theorem SliceOf.drop1 {α : Type} {w : World} {size : Nat} {f : α → List Value} {b off n c : Nat} {xs : List α} (h : SliceOf w size f (some ⟨b, off, none⟩) (n + 1) c xs) : SliceOf w size f (some ⟨b, off + size, none⟩) n (c - 1) (xs.drop 1) := by
  obtain ⟨h1, h2, h3, h4⟩ := h
  refine ⟨by rw [List.length_drop]; omega, by omega, by omega, fun _ => ?_⟩
  obtain ⟨b', off', hA, hb, hc⟩ := h4 (by omega)
  injection hA with hA
  injection hA with e1 e2 _
  subst e1 e2
  refine ⟨_, _, rfl, hb, fun i x hx j u hu => ?_⟩
  rw [List.getElem?_drop, Nat.add_comm 1 i] at hx
  have := hc (i + 1) x hx j u hu
  rw [Nat.succ_mul] at this
  rw [show off + size + i * size + j = off + (i * size + size) + j by omega]
  exact this
set_option maxHeartbeats 4000000 in
theorem c_l28Draw (h : Src w0 w a A n c) :
    Calls Try.prog 16 #[.pointer (some ⟨a, 0, none⟩)] w (DrawnAl w0 a A n c w) := by
  have hal := h.lt
  have hle := h.le0
  go_enter Try.func16, Try.ntmps16
  go_wp2_with fail
  refine (c_l22Draw (h.more (Ext.alloc _ _))).mono ?_
  rintro e w1 ⟨v1, v2, v3, ns, ps, xs, rfl, hs1, ho1, o1, o2, o3, hn7, hp, hx41, hnm⟩
  have hD0 := ASt.new hal hs1 ho1 (o1.lowG (by simp)) (o2.lowG (by simp)) hnm
  have hz1 := ho1.size
  simp at hz1
  obtain ⟨A1, c1, rfl, hs1'⟩ := hD0.o1.sl node_len (by omega)
  obtain ⟨A2, c2, rfl, hs2'⟩ := hD0.o2.sl pipe_len (by omega)
  have hO0 : OSt w0 w a A n c w1.heap.size (.slice A1 ns.length c1) (.slice A2 ps.length c2) v3 ns ps xs (w1.alloc (.cells #[.slice A1 ns.length c1, .slice A2 ps.length c2] 27)) := ⟨hD0, (o3.lowG (by simp)).ext (Ext.alloc _ _)⟩
  obtain ⟨A3, c3, rfl, hs3'⟩ := hO0.o3.sl order_len (by omega)
  clear hs1 ho1 o1 o2 o3 hs1' hs2' hs3' hD0
  have p0 := hO0.net.var.cell 0
  have p1 := hO0.net.var.cell 1
  simp at p0 p1
  have pf := hO0.net.var.frozen
  have pl := hO0.net.var.lt
  go_wp2_with fail
  refine (c_specReadingsFor A1 A2 ns.length c1 ps.length c2 ns ps A3 xs.length c3 xs _ (hO0.net.o1.slE node_len (by omega)) (hO0.net.o2.slE pipe_len (by omega)) (hO0.o3.slE order_len (by omega)) (fun x hx => Nat.le_trans (hnm x hx) (by omega))).mono ?_
  rintro e w2 ⟨v4, rs, z, rfl, o4, hx2, HV⟩
  have hO2 := hO0.more hx2
  have hD2 : RSt w0 w a A n c w1.heap.size (.slice A1 ns.length c1) (.slice A2 ps.length c2) (.slice A3 xs.length c3) v4 ns ps xs rs w2 := ⟨hO2, o4.lowG (by have := hO0.net.var.lt; have := hO0.net.hg; omega)⟩
  have HRB := hide (show rs.length ≤ 14 ∧ SmR rs by
    have h0 := HV.out
    unfold rfV at h0
    split at h0
    · split at h0
      · rename_i r hr
        injection h0 with h1 h2
        subst h1
        exact ⟨by have := rfR_len hr; omega, rfR_sm hr⟩
      · injection h0 with h1 h2
        subst h1
        exact ⟨by simp, fun x hx => by cases hx⟩
    · injection h0 with h1 h2
      subst h1
      exact ⟨by simp, fun x hx => by cases hx⟩)
  clear hO0 o4 hx2 hO2 p0 p1 pf pl HV
  have hr14 := HRB.out.1
  have HR14 := hide hr14
  by_cases hz : z = 0
  · subst hz
    obtain ⟨A4, c4, rfl, _⟩ := hD2.o4.form
    go_wp2_with fail
    go_loopw [9] (fun i wr => ∃ (k : Nat) (q : List Reading), k ≤ rs.length ∧ i = .int .i64 k ∧ q.length = rs.length ∧ RSt w0 w a A n c w1.heap.size (.slice A1 ns.length c1) (.slice A2 ps.length c2) (.slice A3 xs.length c3) (.slice A4 rs.length c4) ns ps xs q wr ∧ Hid (∀ j, k ≤ j → q[j]? = rs[j]?)) (fun i _ => rs.length - (intOf i).toNat)
    case atStart => exact ⟨0, rs, Nat.zero_le _, rfl, rfl, hD2, hide (fun _ _ => rfl)⟩
    case round =>
      clear hD2
      obtain ⟨k, q, hk, rfl, hql, hD, HS⟩ := hrel
      by_cases hlt : k < rs.length
      · obtain ⟨x, hxk⟩ : ∃ x, q[k]? = some x := ⟨_, List.getElem?_eq_getElem (by omega)⟩
        have hxb := HRB.out.2 x (List.mem_of_getElem? ((HS.out k (Nat.le_refl _)).symm.trans hxk))
        obtain ⟨b, c', hv4, hbl, hbw, hbg, hbf, hbc, _⟩ := hD.set (j := 1) (y := ⟨x.node, 0⟩) (u := .int .i64 0) hxk (by omega) rfl
        injection hv4 with hA4 hA5 hA6
        clear hA5 hA6
        subst hA4
        have c1' := hbc 1 _ rfl
        go_wp2_with fail
        refine wp_region_phC [(b, 0 + k * 2 + 1)] [([0, 1, 2, 3, 4, 5], 6)] [7, 8, 9] (by kernel_rfl) (by kernel_rfl) (by intro c a w d v h; cases d <;> exact h) ?_
        simp only [wpPhC, pickL, nthO]
        repeat (go_big_quiet_step (fail))
        refine wpQuiet_nil ?_
        go_wp2_with fail
        refine (c_next 9 (hD.st.net.src.more (Ext.refl _).drew) (by omega) (by omega)).mono ?_
        rintro e w3 ⟨x3, rfl, hx3, hx3', hs3, ho3⟩
        have hsm := (SameC.refl [(b, 0 + k * 2 + 1)] wr).drew.trans (SameC.of_only ho3 (by simp; omega))
        have hD3 := hD.draw hs3 ((Only.refl a wr).drew.trans ho3)
        clear hD hs3 ho3 hbc hbf c1'
        obtain ⟨am, ham⟩ : ∃ am, x.amount + x3 - 4 = am := ⟨_, rfl⟩
        have e1 : IntKind.i64.wrap (x.amount + x3) = x.amount + x3 := IntWalk.i64_in _ (by omega)
        have e2 : IntKind.i64.wrap (x.amount + x3 - 4) = am := by rw [← ham]; exact IntWalk.i64_in _ (by omega)
        clear ham
        obtain ⟨b', c', hv4, hbl', _, _, hbf, hbc, hD4⟩ := hD3.set (j := 1) (y := ⟨x.node, am⟩) (u := .int .i64 am) hxk (by omega) rfl
        injection hv4 with hA4 hA5 hA6
        injection hA4 with hA4
        injection hA4 with hA4
        subst hA4
        clear hA5 hA6
        have k1 := hbc 1 _ rfl
        clear hbc
        have HD4 := hide hD4
        have HD3 := hide hD3
        clear hD4 hD3
        go_wp2_with fail
        refine ⟨hsm, ?_⟩
        repeat (go_big_quiet_step (fail))
        refine wpQuiet_nil ?_
        go_wp2_with fail
        all_goals first
          | (refine ⟨⟨k + 1, q, by omega, by go_num, hql, HD3.out, hide (fun j hj => HS.out j (by omega))⟩, ?_⟩; simp [intOf]; omega)
          | (refine ⟨⟨k + 1, q.set k _, by omega, by go_num, by rw [List.length_set]; exact hql, HD4.out, hide (fun j hj => by rw [List.getElem?_set, if_neg (by omega)]; exact HS.out j (by omega))⟩, ?_⟩; simp [intOf]; omega)
      · obtain rfl : k = rs.length := by omega
        clear HS hk hlt
        generalize rs.length = m at *
        have HQL := hide hql
        clear hql
        by_cases hm0 : 0 < m
        · obtain ⟨x, hx0⟩ : ∃ x, q[0]? = some x := ⟨_, List.getElem?_eq_getElem (by have := HQL.out; omega)⟩
          have HX0 := hide hx0
          clear hx0
          go_wp2_with fail
          refine (c_next 16 hD.st.net.src (by omega) (by omega)).mono ?_
          rintro e w3 ⟨x3, rfl, hx3, hx3', hs3, ho3⟩
          have hD3 := hD.draw hs3 ho3
          clear hD hs3 ho3
          by_cases h0 : x3 = 0
          · subst h0
            have hD := hD3
            clear hD3
            have hDm := hD.more (Ext.alloc w3 (.cells #[.int .i64 0, .int .i64 30000, .int .i64 30001] 2))
            have hal10 := hD.st.net.src.lt
            clear hD
            go_wp2_with fail
            refine (c_next 3 hDm.st.net.src (by omega) (by omega)).mono ?_
            rintro e w12 ⟨z0, rfl, hz0, hz1, hs12, ho12⟩
            have hD12 := hDm.draw hs12 ho12
            have hR12 := (Row.new w3 2 [.int .i64 0, .int .i64 30000, .int .i64 30001]).only ho12 (by omega)
            obtain ⟨jj, rfl⟩ := Int.eq_ofNat_of_zero_le hz0
            have hjj : jj < 3 := by omega
            obtain ⟨z, hz⟩ : ∃ z : Int, w12.cell? ⟨w3.heap.size, jj, none⟩ = some (.int .i64 z) := by
              rw [hR12.cell]; rcases (show jj = 0 ∨ jj = 1 ∨ jj = 2 by omega) with rfl | rfl | rfl <;> exact ⟨_, rfl⟩
            have hb12 := hR12.lt
            clear hDm hs12 ho12 hR12 hz0 hz1
            obtain ⟨b, c', hv4, hbl, hbw, hbg, hbf, hbc, hD⟩ := hD12.set (j := 1) (y := ⟨x.node, z⟩) (u := .int .i64 z) HX0.out (by omega) rfl
            injection hv4 with hA4 hA5 hA6
            subst hA4
            have k1 := hbc 1 _ rfl
            simp only [Nat.zero_mul, Nat.zero_add] at k1 hD
            clear hA5 hA6 hbc hD12
            have p0 := hD.st.net.var.cell 0
            have p1 := hD.st.net.var.cell 1
            simp at p0 p1
            have pf := hD.st.net.var.frozen
            have pl := hD.st.net.var.lt
            have q0 := hD.st.net.res.cell 0
            have q1 := hD.st.net.res.cell 1
            simp at q0 q1
            have qf := hD.st.net.res.frozen
            have ql := hD.st.net.res.lt
            have HF := hide (hD.st.finR (hD.o4.slE reading_len (by omega)) (hD.o4.blkG) (by omega) (by omega) (by omega) (by omega))
            clear hD
            go_wp2_with fail
            refine bodyPost_ret (v := .tuple #[.agg #[.slice A1 ns.length c1, .slice A2 ps.length c2], .slice A3 xs.length c3, .slice (some ⟨b, 0, none⟩) (m) (c4)]) (by simp [results, Try.results16, go_sem, q0, q1]) rfl ?_
            exact HF.out
          have b0 : (x3 == 0) = false := by rw [beq_eq_false_iff_ne]; exact h0
          by_cases h1 : x3 = 1
          · subst h1
            obtain ⟨b, off, x', rfl, hbb, hxk, hc⟩ := (hD3.o4.slE reading_len (by omega)).get hm0
            have j0 := hc 0 _ rfl
            have j1 := hc 1 _ rfl
            simp only [Nat.zero_mul, Nat.add_zero] at j0 j1
            have hbs : w.heap.size + 1 ≤ w3.heap.size := by have := hD3.st.net.var.lt; omega
            clear hc hxk
            go_wp2_with (at_builtin; go_must (refine wpList_append_grow rfl _ _ 29 rfl (w.heap.size + 1) 38 _ 2 16 Try.underlying29 reading_info rfl (by decide) Reading.cells reading_len reading_one' _ (q) rfl (hD3.o4.ext (Ext.alloc _ _)) _ 1 1 [x'] rfl (new_rd w3 x' rfl) (by have := HQL.out; omega) (by omega) (by have hb9 := hbs; simp at hb9 ⊢; omega) ?_))
            intro v7 w7 ho7 hg7
            have hD := (hD3.more (Ext.alloc w3 (.cells #[.int .i64 x'.node, .int .i64 x'.amount] 38))).app hg7 ho7
            obtain ⟨A7, c7, rfl, _⟩ := ho7.form
            have hlq : (q ++ [x']).length = m + 1 := by rw [List.length_append, List.length_singleton]; have := HQL.out; omega
            rw [hlq] at hD ⊢
            clear hD3 ho7 hg7 j0 j1 hlq
            have p0 := hD.st.net.var.cell 0
            have p1 := hD.st.net.var.cell 1
            simp at p0 p1
            have pf := hD.st.net.var.frozen
            have pl := hD.st.net.var.lt
            have q0 := hD.st.net.res.cell 0
            have q1 := hD.st.net.res.cell 1
            simp at q0 q1
            have qf := hD.st.net.res.frozen
            have ql := hD.st.net.res.lt
            have HF := hide (hD.st.finR (hD.o4.slE reading_len (by omega)) (hD.o4.blkG) (by omega) (by omega) (by omega) (by omega))
            clear hD
            go_wp2_with fail
            refine bodyPost_ret (v := .tuple #[.agg #[.slice A1 ns.length c1, .slice A2 ps.length c2], .slice A3 xs.length c3, .slice (A7) (m + 1) (c7)]) (by simp [results, Try.results16, go_sem, q0, q1]) rfl ?_
            exact HF.out
          have b1 : (x3 == 1) = false := by rw [beq_eq_false_iff_ne]; exact h1
          by_cases h2 : x3 = 2
          · subst h2
            obtain ⟨m', rfl⟩ : ∃ m', m = m' + 1 := ⟨m - 1, by omega⟩
            have hD := hD3
            clear hD3
            obtain ⟨b, off, x', rfl, hbb, hxk, hc⟩ := (hD.o4.slE reading_len (by omega)).get hm0
            clear hc hxk
            have hcap := (hD.o4.slE reading_len (by omega)).cap
            have hmax := (hD.o4.slE reading_len (by omega)).max
            by_cases hc1 : c4 = 1
            · subst hc1
              obtain rfl : m' = 0 := by omega
              have HSD := hide (show SliceOf w3 2 Reading.cells (some ⟨b, off, none⟩) 0 0 ([] : List Reading) from SliceOf.nil.2 (by decide))
              have p0 := hD.st.net.var.cell 0
              have p1 := hD.st.net.var.cell 1
              simp at p0 p1
              have pf := hD.st.net.var.frozen
              have pl := hD.st.net.var.lt
              have q0 := hD.st.net.res.cell 0
              have q1 := hD.st.net.res.cell 1
              simp at q0 q1
              have qf := hD.st.net.res.frozen
              have ql := hD.st.net.res.lt
              have HF := hide (hD.st.finR (HSD.out) (fun b' h => by cases h) (by omega) (by omega) (by omega) (by omega))
              clear hD
              go_wp2_with fail
              refine bodyPost_ret (v := .tuple #[.agg #[.slice A1 ns.length c1, .slice A2 ps.length c2], .slice A3 xs.length c3, .slice (some ⟨b, off, none⟩) (0) (0)]) (by simp [results, Try.results16, go_sem, q0, q1]) rfl ?_
              exact HF.out
            · have HSD := hide (hD.o4.slE reading_len (by omega)).drop1
              have HBK := hide (show ∀ b', blkOf (some ⟨b, off + 2, none⟩) m' = some b' → w.heap.size < b' from blk_drop hD.o4.blkG)
              have p0 := hD.st.net.var.cell 0
              have p1 := hD.st.net.var.cell 1
              simp at p0 p1
              have pf := hD.st.net.var.frozen
              have pl := hD.st.net.var.lt
              have q0 := hD.st.net.res.cell 0
              have q1 := hD.st.net.res.cell 1
              simp at q0 q1
              have qf := hD.st.net.res.frozen
              have ql := hD.st.net.res.lt
              have HF := hide (hD.st.finR (HSD.out) (HBK.out) (by omega) (by omega) (by omega) (by omega))
              clear hD
              go_wp2_with fail
              refine bodyPost_ret (v := .tuple #[.agg #[.slice A1 ns.length c1, .slice A2 ps.length c2], .slice A3 xs.length c3, .slice (some ⟨b, off + 2, none⟩) (m') (c4 - 1)]) (by simp [results, Try.results16, go_sem, q0, q1]) rfl ?_
              exact HF.out
          have b2 : (x3 == 2) = false := by rw [beq_eq_false_iff_ne]; exact h2
          by_cases h3 : x3 = 3
          · subst h3
            have hD := hD3
            clear hD3
            have p0 := hD.st.net.var.cell 0
            have p1 := hD.st.net.var.cell 1
            simp at p0 p1
            have pf := hD.st.net.var.frozen
            have pl := hD.st.net.var.lt
            have hgg := hD.st.net.hg
            go_wp2_with fail
            refine wp_region_phT [(w1.heap.size, 0)] (.two [0, 1, 2, 3, 5] 4 (.one [] 6 (.one [7] 8 (.one [9, 10] 11 (.last [])))) 6 (.one [] 4 (.one [7] 8 (.one [9, 10] 11 (.last []))))) (by kernel_rfl) (by kernel_rfl) (by intro c a w d v h; cases d <;> exact h) ?_
            simp only [wpPhT, pickL, nthO]
            repeat (go_big_quiet_step (fail))
            refine wpQuiet_nil ?_
            refine ⟨?_, ?_⟩
            · have hDA := hD.more ((Ext.alloc w3 (.cells #[.int .i64 (-1), .int .i64 (ns.length : Int)] 2)).drew)
              have hR := (Row.new w3 2 [.int .i64 (-1), .int .i64 (ns.length : Int)]).drew
              have hal3 := hD.st.net.src.lt
              have hv3 := hD.st.net.var.lt
              go_wp2_with fail
              refine ⟨SameC.of_ext ((Ext.alloc _ _).drew) (by simp; omega), wpQuiet_nil ?_⟩
              go_wp2_with fail
              refine (c_next 2 hDA.st.net.src (by omega) (by omega)).mono ?_
              rintro e w4 ⟨y, rfl, hy0, hy1, hs4, ho4⟩
              have hD4 := hDA.draw hs4 ho4
              have hR4 := hR.only ho4 (by omega)
              obtain ⟨j, rfl⟩ := Int.eq_ofNat_of_zero_le hy0
              have hj : j < 2 := by omega
              obtain ⟨z, hz, hzs⟩ : ∃ z : Int, w4.cell? ⟨w3.heap.size, j, none⟩ = some (.int .i64 z) ∧ True := by
                rw [hR4.cell]; rcases (show j = 0 ∨ j = 1 by omega) with rfl | rfl <;> exact ⟨_, rfl, by first | trivial | decide⟩
              have hsm : SameC [(w1.heap.size, 0)] w3 w4 := (SameC.of_ext (Ext.alloc w3 (.cells #[.int .i64 (-1), .int .i64 (ns.length : Int)] 2)).drew (by simp; omega)).trans (SameC.of_only ho4 (by simp; omega))
              have hb4 := hR4.lt
              clear hDA hR hR4 hs4 ho4
              clear hD p0 p1 pf pl
              obtain ⟨b5, c5, hv4, hb5, hbw5, hbg5, hf5, hc5, hD⟩ := hD4.set (j := 0) (y := ⟨z, x.amount⟩) (u := .int .i64 z) HX0.out (by omega) rfl
              injection hv4 with hA4 hA5 hA6
              subst hA4
              have k1 := hc5 0 _ rfl
              simp only [Nat.zero_mul, Nat.zero_add] at k1 hD
              clear hA5 hA6 hc5 hD4
              go_wp2_with fail
              refine ⟨hsm, ?_⟩
              repeat (go_big_quiet_step (fail))
              refine wpQuiet_nil ?_
              go_wp2_with fail
              refine ⟨hsm, ?_⟩
              repeat (go_big_quiet_step (fail))
              refine wpQuiet_nil ?_
              go_wp2_with fail
              refine ⟨hsm.setCell (by first | (simp; done) | (simp; omega)) _, ?_⟩
              repeat (go_big_quiet_step (fail))
              refine wpQuiet_nil ?_
              clear hsm hz k1 hf5
              have p0 := hD.st.net.var.cell 0
              have p1 := hD.st.net.var.cell 1
              simp at p0 p1
              have pf := hD.st.net.var.frozen
              have pl := hD.st.net.var.lt
              have q0 := hD.st.net.res.cell 0
              have q1 := hD.st.net.res.cell 1
              simp at q0 q1
              have qf := hD.st.net.res.frozen
              have ql := hD.st.net.res.lt
              have HF := hide (hD.st.finR (hD.o4.slE reading_len (by omega)) (hD.o4.blkG) (by omega) (by omega) (by omega) (by omega))
              clear hD
              go_wp2_with fail
              refine bodyPost_ret (v := .tuple #[.agg #[.slice A1 ns.length c1, .slice A2 ps.length c2], .slice A3 xs.length c3, .slice (some ⟨b5, 0, none⟩) (m) (c4)]) (by simp [results, Try.results16, go_sem, q0, q1]) rfl ?_
              exact HF.out
            · have hDA := hD.more (Ext.refl w3).drew
              have hal3 := hD.st.net.src.lt
              have hv3 := hD.st.net.var.lt
              go_wp2_with fail
              refine (c_next 2 hDA.st.net.src (by omega) (by omega)).mono ?_
              rintro e w4' ⟨y, rfl, hy0, hy1, hs4, ho4⟩
              have hD4' := hDA.draw hs4 ho4
              obtain ⟨j, rfl⟩ := Int.eq_ofNat_of_zero_le hy0
              have hj : j < 2 := by omega
              have hR4 := Row.new w4' 2 [.int .i64 (-1), .int .i64 (ns.length : Int)]
              have hD4 := hD4'.more (Ext.alloc w4' (.cells #[.int .i64 (-1), .int .i64 (ns.length : Int)] 2))
              have hsz : w3.heap.size ≤ w4'.heap.size := ho4.size
              have hsm0 : SameC [(w1.heap.size, 0)] w3 w4' := (SameC.refl _ w3).drew.trans (SameC.of_only ho4 (by simp; omega))
              have hsm : SameC [(w1.heap.size, 0)] w3 (w4'.alloc (.cells #[.int .i64 (-1), .int .i64 (ns.length : Int)] 2)) := hsm0.trans (SameC.of_ext (Ext.alloc _ _) (by simp; omega))
              go_wp2_with fail
              refine ⟨hsm0, wpQuiet_nil ?_⟩
              go_wp2_with fail
              obtain ⟨w4, HW4⟩ : ∃ w4, Hid (w4'.alloc (.cells #[.int .i64 (-1), .int .i64 (ns.length : Int)] 2) = w4) := ⟨_, hide rfl⟩
              rw [HW4.out] at hR4 hD4 hsm ⊢
              obtain ⟨z, hz, hzs⟩ : ∃ z : Int, w4.cell? ⟨w4'.heap.size, j, none⟩ = some (.int .i64 z) ∧ True := by
                rw [hR4.cell]; rcases (show j = 0 ∨ j = 1 by omega) with rfl | rfl <;> exact ⟨_, rfl, by first | trivial | decide⟩
              have hb4 := hR4.lt
              clear hDA hR4 hs4 ho4 hD4' hsm0 hsz
              clear hD p0 p1 pf pl
              obtain ⟨b5, c5, hv4, hb5, hbw5, hbg5, hf5, hc5, hD⟩ := hD4.set (j := 0) (y := ⟨z, x.amount⟩) (u := .int .i64 z) HX0.out (by omega) rfl
              injection hv4 with hA4 hA5 hA6
              subst hA4
              have k1 := hc5 0 _ rfl
              simp only [Nat.zero_mul, Nat.zero_add] at k1 hD
              clear hA5 hA6 hc5 hD4
              go_wp2_with fail
              refine ⟨hsm, ?_⟩
              repeat (go_big_quiet_step (fail))
              refine wpQuiet_nil ?_
              go_wp2_with fail
              refine ⟨hsm, ?_⟩
              repeat (go_big_quiet_step (fail))
              refine wpQuiet_nil ?_
              go_wp2_with fail
              refine ⟨hsm.setCell (by first | (simp; done) | (simp; omega)) _, ?_⟩
              repeat (go_big_quiet_step (fail))
              refine wpQuiet_nil ?_
              clear hsm hz k1 hf5
              have p0 := hD.st.net.var.cell 0
              have p1 := hD.st.net.var.cell 1
              simp at p0 p1
              have pf := hD.st.net.var.frozen
              have pl := hD.st.net.var.lt
              have q0 := hD.st.net.res.cell 0
              have q1 := hD.st.net.res.cell 1
              simp at q0 q1
              have qf := hD.st.net.res.frozen
              have ql := hD.st.net.res.lt
              have HF := hide (hD.st.finR (hD.o4.slE reading_len (by omega)) (hD.o4.blkG) (by omega) (by omega) (by omega) (by omega))
              clear hD
              go_wp2_with fail
              refine bodyPost_ret (v := .tuple #[.agg #[.slice A1 ns.length c1, .slice A2 ps.length c2], .slice A3 xs.length c3, .slice (some ⟨b5, 0, none⟩) (m) (c4)]) (by simp [results, Try.results16, go_sem, q0, q1]) rfl ?_
              exact HF.out
          have b3 : (x3 == 3) = false := by rw [beq_eq_false_iff_ne]; exact h3
          have hD := hD3
          clear hD3
          have p0 := hD.st.net.var.cell 0
          have p1 := hD.st.net.var.cell 1
          simp at p0 p1
          have pf := hD.st.net.var.frozen
          have pl := hD.st.net.var.lt
          have q0 := hD.st.net.res.cell 0
          have q1 := hD.st.net.res.cell 1
          simp at q0 q1
          have qf := hD.st.net.res.frozen
          have ql := hD.st.net.res.lt
          have HF := hide (hD.st.finR (hD.o4.slE reading_len (by omega)) (hD.o4.blkG) (by omega) (by omega) (by omega) (by omega))
          clear hD
          go_wp2_with fail
          refine bodyPost_ret (v := .tuple #[.agg #[.slice A1 ns.length c1, .slice A2 ps.length c2], .slice A3 xs.length c3, .slice (A4) (m) (c4)]) (by simp [results, Try.results16, go_sem, q0, q1]) rfl ?_
          exact HF.out
        · obtain rfl : m = 0 := by omega
          obtain rfl : q = [] := List.length_eq_zero_iff.1 HQL.out
          by_cases hn0 : 0 < ns.length
          · have p0 := hD.st.net.var.cell 0
            have p1 := hD.st.net.var.cell 1
            simp at p0 p1
            have pf := hD.st.net.var.frozen
            have pl := hD.st.net.var.lt
            go_wp2_with fail
            refine (c_next (ns.length : Int) hD.st.net.src (by omega) (by omega)).mono ?_
            rintro e w3 ⟨x3, rfl, hx3, hx3', hs3, ho3⟩
            have hD3 := hD.draw hs3 ho3
            have hbs : w.heap.size + 1 ≤ w3.heap.size := by have := hD3.st.net.var.lt; omega
            clear hD hs3 ho3 p0 p1 pf pl
            go_wp2_with (at_builtin; go_must (refine wpList_append_grow rfl _ _ 29 rfl (w.heap.size + 1) 38 _ 2 16 Try.underlying29 reading_info rfl (by decide) Reading.cells reading_len reading_one' _ ([]) rfl (hD3.o4.ext (Ext.alloc _ _)) _ 1 1 [(⟨x3, 7⟩ : Reading)] rfl (new_rd w3 (⟨x3, 7⟩ : Reading) rfl) (by have := HQL.out; omega) (by omega) (by have hb9 := hbs; simp at hb9 ⊢; omega) ?_))
            intro v7 w7 ho7 hg7
            have hD' := (hD3.more (Ext.alloc w3 (.cells #[.int .i64 x3, .int .i64 7] 38))).app hg7 ho7
            obtain ⟨A7, c7, rfl, _⟩ := ho7.form
            have hD : RSt w0 w a A n c w1.heap.size (.slice A1 ns.length c1) (.slice A2 ps.length c2) (.slice A3 xs.length c3) (.slice A7 1 c7) ns ps xs [(⟨x3, 7⟩ : Reading)] w7 := hD'
            clear hD3 ho7 hg7 hD'
            have p0 := hD.st.net.var.cell 0
            have p1 := hD.st.net.var.cell 1
            simp at p0 p1
            have pf := hD.st.net.var.frozen
            have pl := hD.st.net.var.lt
            have q0 := hD.st.net.res.cell 0
            have q1 := hD.st.net.res.cell 1
            simp at q0 q1
            have qf := hD.st.net.res.frozen
            have ql := hD.st.net.res.lt
            have HF := hide (hD.st.finR (hD.o4.slE reading_len (by omega)) (hD.o4.blkG) (by omega) (by omega) (by omega) (by omega))
            clear hD
            go_wp2_with fail
            refine bodyPost_ret (v := .tuple #[.agg #[.slice A1 ns.length c1, .slice A2 ps.length c2], .slice A3 xs.length c3, .slice (A7) (1) (c7)]) (by simp [results, Try.results16, go_sem, q0, q1]) rfl ?_
            exact HF.out
          · obtain rfl : ns = [] := List.length_eq_zero_iff.1 (by omega)
            have p0 := hD.st.net.var.cell 0
            have p1 := hD.st.net.var.cell 1
            simp at p0 p1
            have pf := hD.st.net.var.frozen
            have pl := hD.st.net.var.lt
            have q0 := hD.st.net.res.cell 0
            have q1 := hD.st.net.res.cell 1
            simp at q0 q1
            have qf := hD.st.net.res.frozen
            have ql := hD.st.net.res.lt
            have HF := hide (hD.st.finR (hD.o4.slE reading_len (by omega)) (hD.o4.blkG) (by omega) (by omega) (by omega) (by omega))
            clear hD
            go_wp2_with fail
            refine bodyPost_ret (v := .tuple #[.agg #[.slice A1 0 c1, .slice A2 ps.length c2], .slice A3 xs.length c3, .slice (A4) (0) (c4)]) (by simp [results, Try.results16, go_sem, q0, q1]) rfl ?_
            exact HF.out
  · have hzb : (z == 0) = false := by rw [beq_eq_false_iff_ne]; exact hz
    have hD := hD2.more (Ext.alloc w2 (.cells #[.int .i64 0, .int .i64 5] 38))
    have hSL := hide (show SliceOf (w2.alloc (.cells #[.int .i64 0, .int .i64 5] 38)) 2 Reading.cells (some ⟨w2.heap.size, 0, none⟩) 1 1 [⟨0, 5⟩] from new_rd w2 ⟨0, 5⟩ rfl)
    have hbl := hD2.st.net.var.lt
    have HBK := hide (show ∀ b, blkOf (some ⟨w2.heap.size, 0, none⟩) 1 = some b → w.heap.size < b from fun b hb => by
      have : w2.heap.size = b := by simpa [blkOf] using hb
      omega)
    have s0 := hD2.st.net.var.cell 0
    have s1 := hD2.st.net.var.cell 1
    simp at s0 s1
    have sf := hD2.st.net.var.frozen
    have sl := hD2.st.net.var.lt
    clear hD2
    have p0 := hD.st.net.var.cell 0
    have p1 := hD.st.net.var.cell 1
    simp at p0 p1
    have pf := hD.st.net.var.frozen
    have pl := hD.st.net.var.lt
    have q0 := hD.st.net.res.cell 0
    have q1 := hD.st.net.res.cell 1
    simp at q0 q1
    have qf := hD.st.net.res.frozen
    have ql := hD.st.net.res.lt
    have HF := hide (hD.st.finR (hSL.out) (HBK.out) (by omega) (by omega) (by omega) (by omega))
    clear hD
    go_wp2_with fail
    refine bodyPost_ret (v := .tuple #[.agg #[.slice A1 ns.length c1, .slice A2 ps.length c2], .slice A3 xs.length c3, .slice (some ⟨w2.heap.size, 0, none⟩) (1) (1)]) (by simp [results, Try.results16, go_sem, q0, q1]) rfl ?_
    exact HF.out
end
end Go.Proofs.Ytegkeeeohileiaa
