/-
  The reference's draw of a network and orders.
-/
import Derived.Test.YtegkeeeohileiaaSa27
import Derived.Test.YtegkeeeohileiaaSa29
namespace Go.Proofs.Ytegkeeeohileiaa
open Go.RowKit
/-- a network and orders that are being drawn -/
structure OSt (w0 w : World) (a : Nat) (A : Option Addr) (n c g : Nat) (v1 v2 v3 : Value) (ns : List Node) (ps : List Pipe) (xs : List Order) (wr : World) : Prop where
  net : ASt w0 w a A n c g v1 v2 ns ps wr
  o3 : OwnL wr (w.heap.size + 1) 51 4 Order.cells v3 xs
/-- a network and orders that were drawn -/
def DrawnOrd (w0 : World) (a : Nat) (A : Option Addr) (n c : Nat) (w : World) (e : Ending) (w' : World) : Prop :=
  ∃ (v1 v2 v3 : Value) (ns : List Node) (ps : List Pipe) (xs : List Order), e = .returned (.tuple #[.agg #[v1, v2], v3]) ∧ Src w0 w' a A n c ∧ Only a w w' ∧ OwnL w' (w.heap.size + 1) 75 3 Node.cells v1 ns ∧ OwnL w' (w.heap.size + 1) 78 5 Pipe.cells v2 ps ∧ OwnL w' (w.heap.size + 1) 51 4 Order.cells v3 xs ∧ ns.length ≤ 7 ∧ ps.length ≤ 30 ∧ xs.length ≤ 41 ∧ Short ns
section
variable {w0 w wr wr' : World} {a n c g : Nat} {A : Option Addr} {v1 v2 v3 v' : Value} {ns : List Node} {ps : List Pipe} {xs : List Order}
theorem OSt.draw (h : OSt w0 w a A n c g v1 v2 v3 ns ps xs wr) (hs : Src w0 wr' a A n c) (ho : Only a wr wr') : OSt w0 w a A n c g v1 v2 v3 ns ps xs wr' :=
  have hl := h.net.lt
  ⟨h.net.draw hs ho, h.o3.only ho (by omega)⟩
theorem OSt.more (h : OSt w0 w a A n c g v1 v2 v3 ns ps xs wr) (hx : Ext wr wr') : OSt w0 w a A n c g v1 v2 v3 ns ps xs wr' := h.draw (h.net.src.more hx) (Only.of_ext hx a)
theorem OSt.app (h : OSt w0 w a A n c g v1 v2 v3 ns ps xs wr) (hgr : wr.grownBy wr' v3.ownBlock) {xs' : List Order} (ho : OwnL wr' (w.heap.size + 1) 51 4 Order.cells v' xs') : OSt w0 w a A n c g v1 v2 v' ns ps xs' wr' := by
  have hl := h.net.lt
  have hle := h.net.src.le0
  have hb := fun k (hk : v3.ownBlock = some k) => h.o3.block_le hk
  refine ⟨⟨hl, h.net.src.grow hgr (fun k hk => by have := hb k hk; omega), h.net.only.grown hgr (fun k hk => .inl (by have := hb k hk; omega)), h.net.res.grown hgr (fun e => by have := hb _ e; omega), h.net.var.grown hgr (fun e => h.o3.not_row h.net.var (by decide) g e rfl), h.net.hg, h.net.o1.grown hgr (fun k hk => ?_), h.net.o2.grown hgr (fun k hk => ?_), h.net.nm⟩, ho⟩
  · exact fun e => OwnL.apart h.o3 h.net.o1 (by decide) k hk e
  · exact fun e => OwnL.apart h.o3 h.net.o2 (by decide) k hk e
theorem OSt.new (h : OSt w0 w a A n c g v1 v2 v3 ns ps xs wr) (hx : Ext wr wr') {xs' : List Order} (ho : OwnL wr' (w.heap.size + 1) 51 4 Order.cells v' xs') : OSt w0 w a A n c g v1 v2 v' ns ps xs' wr' := ⟨h.net.more hx, ho⟩
theorem OSt.fin (h : OSt w0 w a A n c g v1 v2 v3 ns ps xs wr) (h2 : ns.length ≤ 7) (h3 : ps.length ≤ 30) (h4 : xs.length ≤ 41) :
    DrawnOrd w0 a A n c w (.returned (.tuple #[.agg #[v1, v2], v3])) (putCells wr w.heap.size 0 [v1, v2]) := by
  have hl := h.net.lt
  have hle := h.net.src.le0
  exact ⟨v1, v2, v3, ns, ps, xs, rfl, h.net.src.put (by omega) (by omega) _ _, h.net.only.putNew (Nat.le_refl _) _ _, h.net.o1.put h.net.res (by decide) _ _, h.net.o2.put h.net.res (by decide) _ _, h.o3.put h.net.res (by decide) _ _, h2, h3, h4, h.net.nm⟩
theorem new_oneG {α : Type} {f : α → List Value} {k : Nat} (hf : ∀ x, (f x).length = k) (W : World) (t : TypeId) (x : α) {g : Nat} (hg : g = W.heap.size) : SliceOf (W.alloc (.cells (f x).toArray t)) k f (some ⟨g, 0, none⟩) 1 1 [x] := by
  subst hg; exact new_one hf W t x
/-- an order in a block of its own, being turned -/
structure VSt (w0 w : World) (a : Nat) (A : Option Addr) (n c g : Nat) (v1 v2 v3 : Value) (ns : List Node) (ps : List Pipe) (xs : List Order) (gv : Nat) (cs : List Value) (wr : World) : Prop where
  st : OSt w0 w a A n c g v1 v2 v3 ns ps xs wr
  var : Row wr gv 51 cs
  lo : g < gv
  ne : ∀ k, v3.ownBlock = some k → k ≠ gv
variable {gv : Nat} {cs cs' : List Value}
theorem VSt.draw (h : VSt w0 w a A n c g v1 v2 v3 ns ps xs gv cs wr) (hs : Src w0 wr' a A n c) (ho : Only a wr wr') : VSt w0 w a A n c g v1 v2 v3 ns ps xs gv cs wr' :=
  have hl := h.st.net.lt
  have hg := h.st.net.hg
  have hlo := h.lo
  ⟨h.st.draw hs ho, h.var.only ho (by omega), h.lo, h.ne⟩
theorem VSt.more (h : VSt w0 w a A n c g v1 v2 v3 ns ps xs gv cs wr) (hx : Ext wr wr') : VSt w0 w a A n c g v1 v2 v3 ns ps xs gv cs wr' := h.draw (h.st.net.src.more hx) (Only.of_ext hx a)
theorem VSt.set (h : VSt w0 w a A n c g v1 v2 v3 ns ps xs gv cs wr) (i : Nat) (u : Value) : VSt w0 w a A n c g v1 v2 v3 ns ps xs gv (cs.set i u) (wr.setCell ⟨gv, i, none⟩ u) := by
  have hl := h.st.net.lt
  have hg := h.st.net.hg
  have hlo := h.lo
  obtain ⟨hs, hon⟩ := h.st.net.setCellA (p := ⟨gv, i, none⟩) (by show w.heap.size ≤ gv; omega) u
  refine ⟨⟨⟨hl, hs, hon, h.st.net.res.far (by show w.heap.size ≠ gv; omega) u, h.st.net.var.far (by show g ≠ gv; omega) u, hg, ?_, ?_, h.st.net.nm⟩, ?_⟩, h.var.set_ i u, hlo, h.ne⟩
  · exact h.st.net.o1.grown ((Only.refl gv wr).setCell rfl u) (fun q hq e => h.st.net.o1.not_row h.var (by decide) q hq e)
  · exact h.st.net.o2.grown ((Only.refl gv wr).setCell rfl u) (fun q hq e => h.st.net.o2.not_row h.var (by decide) q hq e)
  · exact h.st.o3.grown ((Only.refl gv wr).setCell rfl u) (fun q hq e => h.ne q hq (by simpa using e.symm))
theorem VSt.alloc (h : OSt w0 w a A n c g v1 v2 v3 ns ps xs wr) (cs : List Value) : VSt w0 w a A n c g v1 v2 v3 ns ps xs wr.heap.size cs (wr.alloc (.cells cs.toArray 51)) :=
  have hgl := h.net.var.lt
  ⟨h.more (Ext.alloc _ _), Row.new wr 51 cs, hgl, fun k hk e => by have := (h.o3.ltG hk).2; omega⟩
set_option maxHeartbeats 8000000 in
theorem c_l22Draw (h : Src w0 w a A n c) :
    Calls Try.prog 27 #[.pointer (some ⟨a, 0, none⟩)] w (DrawnOrd w0 a A n c w) := by
  have hal := h.lt
  have hle := h.le0
  go_enter Try.func27, Try.ntmps27
  go_wp2_with fail
  refine (c_l05DrawChord (h.more (Ext.alloc _ _))).mono ?_
  rintro e w1 ⟨v1, v2, ns, ps, x1, rfl, hs1, ho1, o1, o2, hn7, hp, hnm⟩
  have hD0 := ASt.new hal hs1 ho1 (o1.lowG (by simp)) (o2.lowG (by simp)) hnm
  have hz1 := ho1.size
  simp at hz1
  obtain ⟨A1, c1, rfl, hs1'⟩ := hD0.o1.sl node_len (by omega)
  obtain ⟨A2, c2, rfl, hs2'⟩ := hD0.o2.sl pipe_len (by omega)
  clear hs1 ho1 o1 o2 hs1' hs2'
  have hx := Ext.alloc (w1.alloc (.cells #[.slice A1 ns.length c1, .slice A2 ps.length c2] 27)) (.cells #[] 51)
  have hD1 : OSt w0 w a A n c w1.heap.size (.slice A1 ns.length c1) (.slice A2 ps.length c2) (.slice (some ⟨w1.heap.size + 1, 0, none⟩) 0 0) ns ps [] ((w1.alloc (.cells #[.slice A1 ns.length c1, .slice A2 ps.length c2] 27)).alloc (.cells #[] 51)) :=
    ⟨hD0.more hx, own_new _ _ _ _ _ _ (by simp) (by omega)⟩
  clear hD0 hx
  go_wp2_with fail
  refine (c_next 10 hD1.net.src (by omega) (by omega)).mono ?_
  rintro e w2 ⟨x2, rfl, hx2, hx2', hs2, ho2⟩
  obtain ⟨j0, rfl⟩ := Int.eq_ofNat_of_zero_le hx2
  have hD2 := hD1.draw hs2 ho2
  clear hD1 hs2 ho2
  go_wp2_with fail
  go_loopw [6, 7] (fun u i wr => ∃ (j : Nat) (xs : List Order), j ≤ 9 ∧ i = .int .i64 j ∧ xs.length + j ≤ 9 ∧ OSt w0 w a A n c w1.heap.size (.slice A1 ns.length c1) (.slice A2 ps.length c2) u ns ps xs wr) (fun _ i _ => (intOf i).toNat)
  case atStart => exact ⟨j0, [], by omega, rfl, by simp; omega, hD2⟩
  case round =>
    clear hD2
    obtain ⟨j, xs, hj, rfl, hxs, hD⟩ := hrel
    by_cases hj0 : 0 < j
    · have hO := hD
      clear hD
      have p0 := hO.net.var.cell 0
      have p1 := hO.net.var.cell 1
      simp at p0 p1
      have pf := hO.net.var.frozen
      have pl := hO.net.var.lt
      go_wp2_with fail
      refine wp_region_phT [(w1.heap.size, 0)] (.two [0, 2, 3, 4, 5, 7, 10] 1 (.two [] 6 (.two [] 8 (.two [9] 11 (.one [12] 13 (.one [] 14 (.last []))) 13 (.one [] 11 (.one [12] 14 (.last [])))) 13 (.one [] 8 (.one [9] 11 (.one [12] 14 (.last []))))) 13 (.one [] 6 (.one [] 8 (.one [9] 11 (.one [12] 14 (.last [])))))) 13 (.one [] 1 (.one [] 6 (.one [] 8 (.one [9] 11 (.one [12] 14 (.last []))))))) (by kernel_rfl) (by kernel_rfl) (by intro c a w d v h; cases d <;> exact h) ?_
      simp only [wpPhT, pickL, nthO]
      repeat (go_big_quiet_step (fail))
      refine wpQuiet_nil ?_
      refine ⟨?_, ?_⟩
      · have hsm := (SameC.refl [(w1.heap.size, 0)] wr).drew
        have hO1 := hO.more (Ext.refl wr).drew
        clear hO
        have hO := hO1
        clear hO1
        go_wp2_with fail
        refine (c_next (3) hO.net.src (by omega) (by omega)).mono ?_
        rintro e w4 ⟨x4, rfl, hx4, hx4', hs, ho⟩
        have hsm' := hsm.trans (SameC.of_only ho (by have := hO.net.lt; have := hO.net.hg; have := hO.net.var.lt; simp; omega))
        have hO' := hO.draw hs ho
        clear hsm hO hs ho
        have hsm := hsm'
        have hO := hO'
        clear hsm' hO'
        go_wp2_with fail
        refine ⟨hsm, ?_⟩
        repeat (go_big_quiet_step (fail))
        refine wpQuiet_nil ?_
        refine ⟨?_, ?_⟩
        · go_wp2_with fail
          refine (c_next ((ns.length : Int)) hO.net.src (by omega) (by omega)).mono ?_
          rintro e w5 ⟨x5, rfl, hx5, hx5', hs, ho⟩
          have hsm' := hsm.trans (SameC.of_only ho (by have := hO.net.lt; have := hO.net.hg; have := hO.net.var.lt; simp; omega))
          have hO' := hO.draw hs ho
          clear hsm hO hs ho
          have hsm := hsm'
          have hO := hO'
          clear hsm' hO'
          go_wp2_with fail
          refine ⟨hsm, ?_⟩
          repeat (go_big_quiet_step (fail))
          refine wpQuiet_nil ?_
          refine ⟨?_, ?_⟩
          · go_wp2_with fail
            refine (c_next (60) hO.net.src (by omega) (by omega)).mono ?_
            rintro e w6 ⟨x6, rfl, hx6, hx6', hs, ho⟩
            have hsm' := hsm.trans (SameC.of_only ho (by have := hO.net.lt; have := hO.net.hg; have := hO.net.var.lt; simp; omega))
            have hO' := hO.draw hs ho
            clear hsm hO hs ho
            have hsm := hsm'
            have hO := hO'
            clear hsm' hO'
            have e6 : IntKind.i64.wrap (x6 - 30) = x6 - 30 := IntWalk.i64_in _ (by omega)
            go_wp2_with fail
            refine ⟨hsm, ?_⟩
            repeat (go_big_quiet_step (fail))
            refine wpQuiet_nil ?_
            refine ⟨?_, ?_⟩
            · go_wp2_with fail
              refine (c_next (4) hO.net.src (by omega) (by omega)).mono ?_
              rintro e w7 ⟨x7, rfl, hx7, hx7', hs, ho⟩
              have hsm' := hsm.trans (SameC.of_only ho (by have := hO.net.lt; have := hO.net.hg; have := hO.net.var.lt; simp; omega))
              have hO' := hO.draw hs ho
              clear hsm hO hs ho
              have hsm := hsm'
              have hO := hO'
              clear hsm' hO'
              go_wp2_with fail
              refine ⟨hsm, ?_⟩
              repeat (go_big_quiet_step (fail))
              refine wpQuiet_nil ?_
              have hV8 : VSt w0 w a A n c w1.heap.size (.slice A1 ns.length c1) (.slice A2 ps.length c2) u6 ns ps xs (w7.heap.size) (Order.cells (⟨x4, x5, x6 - 30, x7⟩)) (w7.alloc (.cells #[.int .i64 x4, .int .i64 x5, .int .i64 (x6 - 30), .int .i64 x7] 51)) := VSt.alloc hO (Order.cells ⟨x4, x5, x6 - 30, x7⟩)
              have hsm8 := hsm.trans (SameC.of_ext (cs := [(w1.heap.size, 0)]) (Ext.alloc w7 (.cells #[.int .i64 x4, .int .i64 x5, .int .i64 (x6 - 30), .int .i64 x7] 51)) (by have := hO.net.var.lt; simp; omega))
              have hV := VSt.alloc hO [.int .i64 0, .int .i64 0, .int .i64 0, .int .i64 0]
              have hsm' := hsm.trans (SameC.of_ext (Ext.alloc w7 (.cells #[.int .i64 0, .int .i64 0, .int .i64 0, .int .i64 0] 51)) (by have := hO.net.var.lt; simp; omega))
              clear hsm hO
              have hsm := hsm'
              clear hsm'
              go_wp2_with fail
              refine ⟨hsm, ?_⟩
              repeat (go_big_quiet_step (fail))
              refine wpQuiet_nil ?_
              have q0 := hV.var.cell 0
              have q1 := hV.var.cell 1
              have q2 := hV.var.cell 2
              have q3 := hV.var.cell 3
              simp at q0 q1 q2 q3
              have qf := hV.var.frozen
              have ql := hV.var.lt
              clear hV hsm
              go_wp2_with fail
              obtain ⟨W8, HW8⟩ : ∃ W8, Hid (w7.alloc (.cells #[.int .i64 x4, .int .i64 x5, .int .i64 (x6 - 30), .int .i64 x7] 51) = W8) := ⟨_, hide rfl⟩
              rw [HW8.out] at hV8 hsm8 ⊢
              refine ⟨hsm8, wpQuiet_nil ?_⟩
              clear hsm8 q0 q1 q2 q3 qf ql
              obtain ⟨y, hy⟩ : ∃ y : Order, (⟨x4, x5, x6 - 30, x7⟩ : Order) = y := ⟨_, rfl⟩
              rw [hy] at hV8
              have hV := hV8
              clear hV8 hy p0 p1 pf pl
              go_wp2_with fail
              refine (c_next 120 hV.st.net.src (by omega) (by omega)).mono ?_
              rintro e w10 ⟨x, rfl, hx0, hxk, hs, ho⟩
              have hV' := hV.draw hs ho
              clear hV hs ho
              have hV := hV'
              clear hV'
              by_cases h0 : x = 0
              · subst h0
                have hVm := hV.more (Ext.alloc w10 (.cells #[.int .i64 (-1), .int .i64 16] 2))
                have hal10 := hV.st.net.src.lt
                clear hV
                go_wp2_with fail
                refine (c_next 2 hVm.st.net.src (by omega) (by omega)).mono ?_
                rintro e w12 ⟨z0, rfl, hz0, hz1, hs12, ho12⟩
                have hV12 := hVm.draw hs12 ho12
                have hR12 := (Row.new w10 2 [.int .i64 (-1), .int .i64 16]).only ho12 (by omega)
                obtain ⟨jj, rfl⟩ := Int.eq_ofNat_of_zero_le hz0
                have hjj : jj < 2 := by omega
                obtain ⟨z, hz⟩ : ∃ z : Int, w12.cell? ⟨w10.heap.size, jj, none⟩ = some (.int .i64 z) := by
                  rw [hR12.cell]; rcases (show jj = 0 ∨ jj = 1 by omega) with rfl | rfl <;> exact ⟨_, rfl⟩
                have hb12 := hR12.lt
                clear hVm hs12 ho12 hR12 hz0 hz1
                have k0 := hV12.var.cell 0
                have k1 := hV12.var.cell 1
                have k2 := hV12.var.cell 2
                have k3 := hV12.var.cell 3
                simp [Order.cells] at k0 k1 k2 k3
                have kf := hV12.var.frozen
                have kl := hV12.var.lt
                have hV : VSt w0 w a A n c w1.heap.size (.slice A1 ns.length c1) (.slice A2 ps.length c2) u6 ns ps xs (w7.heap.size) (Order.cells (⟨z, y.node, y.amount, y.cls⟩)) (w12.setCell ⟨w7.heap.size, 0, none⟩ (.int .i64 z)) := hV12.set 0 (.int .i64 z)
                clear hV12
                have r0 := hV.var.cell 0
                have r1 := hV.var.cell 1
                have r2 := hV.var.cell 2
                have r3 := hV.var.cell 3
                simp [Order.cells] at r0 r1 r2 r3
                have rf := hV.var.frozen
                have rl := hV.var.lt
                have hvl := hV.st.net.var.lt
                have hbs : w.heap.size + 1 ≤ (w12.setCell ⟨w7.heap.size, 0, none⟩ (.int .i64 z)).heap.size := by omega
                have hO5 := hV.st
                clear hV
                go_wp2_with (at_builtin; go_must (refine wpList_append_grow rfl _ _ 28 rfl (w.heap.size + 1) 51 _ 4 32 Try.underlying28 order_info rfl (by decide) Order.cells order_len order_one _ _ rfl (hO5.o3.ext (Ext.alloc _ _)) _ 1 1 [⟨z, y.node, y.amount, y.cls⟩] rfl (new_oneG order_len (w12.setCell ⟨w7.heap.size, 0, none⟩ (.int .i64 z)) 51 ⟨z, y.node, y.amount, y.cls⟩ (by simp)) (by simp; omega) (by omega) (by have hb9 := hbs; simp at hb9 ⊢; omega) ?_))
                intro v7 w9 ho9 hg9
                have hO9 := (hO5.more (Ext.alloc (w12.setCell ⟨w7.heap.size, 0, none⟩ (.int .i64 z)) (.cells (⟨z, y.node, y.amount, y.cls⟩ : Order).cells.toArray 51))).app hg9 ho9
                clear hO5 ho9 hg9 r0 r1 r2 r3 rf rl
                go_wp2_with fail
                go_roundw
                case rel => exact ⟨j - 1, _, by omega, by go_num, by simp; omega, hO9⟩
                case measure => simp [intOf]; omega
              have b0 : (x == 0) = false := by rw [beq_eq_false_iff_ne]; exact h0
              by_cases h1 : x = 1
              · subst h1
                have k0 := hV.var.cell 0
                have k1 := hV.var.cell 1
                have k2 := hV.var.cell 2
                have k3 := hV.var.cell 3
                simp [Order.cells] at k0 k1 k2 k3
                have kf := hV.var.frozen
                have kl := hV.var.lt
                have p0 := hV.st.net.var.cell 0
                have p1 := hV.st.net.var.cell 1
                simp at p0 p1
                have pf := hV.st.net.var.frozen
                have pl := hV.st.net.var.lt
                have hVs : VSt w0 w a A n c w1.heap.size (.slice A1 ns.length c1) (.slice A2 ps.length c2) u6 ns ps xs (w7.heap.size) (Order.cells (⟨y.shipper, ns.length, y.amount, y.cls⟩)) (w10.setCell ⟨w7.heap.size, 1, none⟩ (.int .i64 (ns.length : Int))) := hV.set 1 (.int .i64 (ns.length : Int))
                clear hV
                have hV := hVs
                clear hVs
                have r0 := hV.var.cell 0
                have r1 := hV.var.cell 1
                have r2 := hV.var.cell 2
                have r3 := hV.var.cell 3
                simp [Order.cells] at r0 r1 r2 r3
                have rf := hV.var.frozen
                have rl := hV.var.lt
                have hvl := hV.st.net.var.lt
                have hbs : w.heap.size + 1 ≤ (w10.setCell ⟨w7.heap.size, 1, none⟩ (.int .i64 (ns.length : Int))).heap.size := by omega
                have hO5 := hV.st
                clear hV
                go_wp2_with (at_builtin; go_must (refine wpList_append_grow rfl _ _ 28 rfl (w.heap.size + 1) 51 _ 4 32 Try.underlying28 order_info rfl (by decide) Order.cells order_len order_one _ _ rfl (hO5.o3.ext (Ext.alloc _ _)) _ 1 1 [⟨y.shipper, ns.length, y.amount, y.cls⟩] rfl (new_oneG order_len (w10.setCell ⟨w7.heap.size, 1, none⟩ (.int .i64 (ns.length : Int))) 51 ⟨y.shipper, ns.length, y.amount, y.cls⟩ (by simp)) (by simp; omega) (by omega) (by have hb9 := hbs; simp at hb9 ⊢; omega) ?_))
                intro v7 w9 ho9 hg9
                have hO9 := (hO5.more (Ext.alloc (w10.setCell ⟨w7.heap.size, 1, none⟩ (.int .i64 (ns.length : Int))) (.cells (⟨y.shipper, ns.length, y.amount, y.cls⟩ : Order).cells.toArray 51))).app hg9 ho9
                clear hO5 ho9 hg9 r0 r1 r2 r3 rf rl
                go_wp2_with fail
                go_roundw
                case rel => exact ⟨j - 1, _, by omega, by go_num, by simp; omega, hO9⟩
                case measure => simp [intOf]; omega
              have b1 : (x == 1) = false := by rw [beq_eq_false_iff_ne]; exact h1
              by_cases h2 : x = 2
              · subst h2
                have hVm := hV.more (Ext.alloc w10 (.cells #[.int .i64 30000, .int .i64 30001, .int .i64 (-30000)] 2))
                have hal10 := hV.st.net.src.lt
                clear hV
                go_wp2_with fail
                refine (c_next 3 hVm.st.net.src (by omega) (by omega)).mono ?_
                rintro e w12 ⟨z0, rfl, hz0, hz1, hs12, ho12⟩
                have hV12 := hVm.draw hs12 ho12
                have hR12 := (Row.new w10 2 [.int .i64 30000, .int .i64 30001, .int .i64 (-30000)]).only ho12 (by omega)
                obtain ⟨jj, rfl⟩ := Int.eq_ofNat_of_zero_le hz0
                have hjj : jj < 3 := by omega
                obtain ⟨z, hz⟩ : ∃ z : Int, w12.cell? ⟨w10.heap.size, jj, none⟩ = some (.int .i64 z) := by
                  rw [hR12.cell]; rcases (show jj = 0 ∨ jj = 1 ∨ jj = 2 by omega) with rfl | rfl | rfl <;> exact ⟨_, rfl⟩
                have hb12 := hR12.lt
                clear hVm hs12 ho12 hR12 hz0 hz1
                have k0 := hV12.var.cell 0
                have k1 := hV12.var.cell 1
                have k2 := hV12.var.cell 2
                have k3 := hV12.var.cell 3
                simp [Order.cells] at k0 k1 k2 k3
                have kf := hV12.var.frozen
                have kl := hV12.var.lt
                have hV : VSt w0 w a A n c w1.heap.size (.slice A1 ns.length c1) (.slice A2 ps.length c2) u6 ns ps xs (w7.heap.size) (Order.cells (⟨y.shipper, y.node, z, y.cls⟩)) (w12.setCell ⟨w7.heap.size, 2, none⟩ (.int .i64 z)) := hV12.set 2 (.int .i64 z)
                clear hV12
                have r0 := hV.var.cell 0
                have r1 := hV.var.cell 1
                have r2 := hV.var.cell 2
                have r3 := hV.var.cell 3
                simp [Order.cells] at r0 r1 r2 r3
                have rf := hV.var.frozen
                have rl := hV.var.lt
                have hvl := hV.st.net.var.lt
                have hbs : w.heap.size + 1 ≤ (w12.setCell ⟨w7.heap.size, 2, none⟩ (.int .i64 z)).heap.size := by omega
                have hO5 := hV.st
                clear hV
                go_wp2_with (at_builtin; go_must (refine wpList_append_grow rfl _ _ 28 rfl (w.heap.size + 1) 51 _ 4 32 Try.underlying28 order_info rfl (by decide) Order.cells order_len order_one _ _ rfl (hO5.o3.ext (Ext.alloc _ _)) _ 1 1 [⟨y.shipper, y.node, z, y.cls⟩] rfl (new_oneG order_len (w12.setCell ⟨w7.heap.size, 2, none⟩ (.int .i64 z)) 51 ⟨y.shipper, y.node, z, y.cls⟩ (by simp)) (by simp; omega) (by omega) (by have hb9 := hbs; simp at hb9 ⊢; omega) ?_))
                intro v7 w9 ho9 hg9
                have hO9 := (hO5.more (Ext.alloc (w12.setCell ⟨w7.heap.size, 2, none⟩ (.int .i64 z)) (.cells (⟨y.shipper, y.node, z, y.cls⟩ : Order).cells.toArray 51))).app hg9 ho9
                clear hO5 ho9 hg9 r0 r1 r2 r3 rf rl
                go_wp2_with fail
                go_roundw
                case rel => exact ⟨j - 1, _, by omega, by go_num, by simp; omega, hO9⟩
                case measure => simp [intOf]; omega
              have b2 : (x == 2) = false := by rw [beq_eq_false_iff_ne]; exact h2
              by_cases h3 : x = 3
              · subst h3
                have k0 := hV.var.cell 0
                have k1 := hV.var.cell 1
                have k2 := hV.var.cell 2
                have k3 := hV.var.cell 3
                simp [Order.cells] at k0 k1 k2 k3
                have kf := hV.var.frozen
                have kl := hV.var.lt
                have hVs : VSt w0 w a A n c w1.heap.size (.slice A1 ns.length c1) (.slice A2 ps.length c2) u6 ns ps xs (w7.heap.size) (Order.cells (⟨y.shipper, y.node, y.amount, 4⟩)) (w10.setCell ⟨w7.heap.size, 3, none⟩ (.int .i64 4)) := hV.set 3 (.int .i64 4)
                clear hV
                have hV := hVs
                clear hVs
                have r0 := hV.var.cell 0
                have r1 := hV.var.cell 1
                have r2 := hV.var.cell 2
                have r3 := hV.var.cell 3
                simp [Order.cells] at r0 r1 r2 r3
                have rf := hV.var.frozen
                have rl := hV.var.lt
                have hvl := hV.st.net.var.lt
                have hbs : w.heap.size + 1 ≤ (w10.setCell ⟨w7.heap.size, 3, none⟩ (.int .i64 4)).heap.size := by omega
                have hO5 := hV.st
                clear hV
                go_wp2_with (at_builtin; go_must (refine wpList_append_grow rfl _ _ 28 rfl (w.heap.size + 1) 51 _ 4 32 Try.underlying28 order_info rfl (by decide) Order.cells order_len order_one _ _ rfl (hO5.o3.ext (Ext.alloc _ _)) _ 1 1 [⟨y.shipper, y.node, y.amount, 4⟩] rfl (new_oneG order_len (w10.setCell ⟨w7.heap.size, 3, none⟩ (.int .i64 4)) 51 ⟨y.shipper, y.node, y.amount, 4⟩ (by simp)) (by simp; omega) (by omega) (by have hb9 := hbs; simp at hb9 ⊢; omega) ?_))
                intro v7 w9 ho9 hg9
                have hO9 := (hO5.more (Ext.alloc (w10.setCell ⟨w7.heap.size, 3, none⟩ (.int .i64 4)) (.cells (⟨y.shipper, y.node, y.amount, 4⟩ : Order).cells.toArray 51))).app hg9 ho9
                clear hO5 ho9 hg9 r0 r1 r2 r3 rf rl
                go_wp2_with fail
                go_roundw
                case rel => exact ⟨j - 1, _, by omega, by go_num, by simp; omega, hO9⟩
                case measure => simp [intOf]; omega
              have b3 : (x == 3) = false := by rw [beq_eq_false_iff_ne]; exact h3
              have r0 := hV.var.cell 0
              have r1 := hV.var.cell 1
              have r2 := hV.var.cell 2
              have r3 := hV.var.cell 3
              simp [Order.cells] at r0 r1 r2 r3
              have rf := hV.var.frozen
              have rl := hV.var.lt
              have hvl := hV.st.net.var.lt
              have hbs : w.heap.size + 1 ≤ (w10).heap.size := by omega
              have hO5 := hV.st
              clear hV
              go_wp2_with (at_builtin; go_must (refine wpList_append_grow rfl _ _ 28 rfl (w.heap.size + 1) 51 _ 4 32 Try.underlying28 order_info rfl (by decide) Order.cells order_len order_one _ _ rfl (hO5.o3.ext (Ext.alloc _ _)) _ 1 1 [y] rfl (new_oneG order_len (w10) 51 y (by simp)) (by simp; omega) (by omega) (by have hb9 := hbs; simp at hb9 ⊢; omega) ?_))
              intro v7 w9 ho9 hg9
              have hO9 := (hO5.more (Ext.alloc (w10) (.cells (y : Order).cells.toArray 51))).app hg9 ho9
              clear hO5 ho9 hg9 r0 r1 r2 r3 rf rl
              go_wp2_with fail
              go_roundw
              case rel => exact ⟨j - 1, _, by omega, by go_num, by simp; omega, hO9⟩
              case measure => simp [intOf]; omega
            · have hV := VSt.alloc hO [.int .i64 0, .int .i64 0, .int .i64 0, .int .i64 0]
              have hsm' := hsm.trans (SameC.of_ext (Ext.alloc w6 (.cells #[.int .i64 0, .int .i64 0, .int .i64 0, .int .i64 0] 51)) (by have := hO.net.var.lt; simp; omega))
              clear hsm hO
              have hsm := hsm'
              clear hsm'
              go_wp2_with fail
              refine ⟨hsm, ?_⟩
              repeat (go_big_quiet_step (fail))
              refine wpQuiet_nil ?_
              go_wp2_with fail
              refine (c_next (4) hV.st.net.src (by omega) (by omega)).mono ?_
              rintro e w7 ⟨x7, rfl, hx7, hx7', hs, ho⟩
              have hsm' := hsm.trans (SameC.of_only ho (by have h8 := hV.st.net.hg; have h9 := hV.st.net.var.lt; simp at h9 ⊢; omega))
              have hV' := hV.draw hs ho
              clear hsm hV hs ho
              have hsm := hsm'
              have hV := hV'
              clear hsm' hV'
              go_wp2_with fail
              refine ⟨hsm, ?_⟩
              repeat (go_big_quiet_step (fail))
              refine wpQuiet_nil ?_
              have q0 := hV.var.cell 0
              have q1 := hV.var.cell 1
              have q2 := hV.var.cell 2
              have q3 := hV.var.cell 3
              simp at q0 q1 q2 q3
              have qf := hV.var.frozen
              have ql := hV.var.lt
              have hlo := hV.lo
              have hsm8 := (((hsm.setCell (p := ⟨w6.heap.size, 0, none⟩) (by first | (simp; done) | (simp; omega)) (.int .i64 x4)).setCell (p := ⟨w6.heap.size, 1, none⟩) (by first | (simp; done) | (simp; omega)) (.int .i64 x5)).setCell (p := ⟨w6.heap.size, 2, none⟩) (by first | (simp; done) | (simp; omega)) (.int .i64 (x6 - 30))).setCell (p := ⟨w6.heap.size, 3, none⟩) (by first | (simp; done) | (simp; omega)) (.int .i64 x7)
              have hV8 : VSt w0 w a A n c w1.heap.size (.slice A1 ns.length c1) (.slice A2 ps.length c2) u6 ns ps xs (w6.heap.size) (Order.cells (⟨x4, x5, x6 - 30, x7⟩)) (((((w7).setCell ⟨w6.heap.size, 0, none⟩ (.int .i64 x4)).setCell ⟨w6.heap.size, 1, none⟩ (.int .i64 x5)).setCell ⟨w6.heap.size, 2, none⟩ (.int .i64 (x6 - 30))).setCell ⟨w6.heap.size, 3, none⟩ (.int .i64 x7)) := (((hV.set 0 (.int .i64 x4)).set 1 (.int .i64 x5)).set 2 (.int .i64 (x6 - 30))).set 3 (.int .i64 x7)
              clear hV hsm
              go_wp2_with fail
              obtain ⟨W8, HW8⟩ : ∃ W8, Hid (((((w7).setCell ⟨w6.heap.size, 0, none⟩ (.int .i64 x4)).setCell ⟨w6.heap.size, 1, none⟩ (.int .i64 x5)).setCell ⟨w6.heap.size, 2, none⟩ (.int .i64 (x6 - 30))).setCell ⟨w6.heap.size, 3, none⟩ (.int .i64 x7) = W8) := ⟨_, hide rfl⟩
              rw [HW8.out] at hV8 hsm8 ⊢
              refine ⟨hsm8, wpQuiet_nil ?_⟩
              clear hsm8 q0 q1 q2 q3 qf ql
              obtain ⟨y, hy⟩ : ∃ y : Order, (⟨x4, x5, x6 - 30, x7⟩ : Order) = y := ⟨_, rfl⟩
              rw [hy] at hV8
              have hV := hV8
              clear hV8 hy p0 p1 pf pl
              go_wp2_with fail
              refine (c_next 120 hV.st.net.src (by omega) (by omega)).mono ?_
              rintro e w10 ⟨x, rfl, hx0, hxk, hs, ho⟩
              have hV' := hV.draw hs ho
              clear hV hs ho
              have hV := hV'
              clear hV'
              by_cases h0 : x = 0
              · subst h0
                have hVm := hV.more (Ext.alloc w10 (.cells #[.int .i64 (-1), .int .i64 16] 2))
                have hal10 := hV.st.net.src.lt
                clear hV
                go_wp2_with fail
                refine (c_next 2 hVm.st.net.src (by omega) (by omega)).mono ?_
                rintro e w12 ⟨z0, rfl, hz0, hz1, hs12, ho12⟩
                have hV12 := hVm.draw hs12 ho12
                have hR12 := (Row.new w10 2 [.int .i64 (-1), .int .i64 16]).only ho12 (by omega)
                obtain ⟨jj, rfl⟩ := Int.eq_ofNat_of_zero_le hz0
                have hjj : jj < 2 := by omega
                obtain ⟨z, hz⟩ : ∃ z : Int, w12.cell? ⟨w10.heap.size, jj, none⟩ = some (.int .i64 z) := by
                  rw [hR12.cell]; rcases (show jj = 0 ∨ jj = 1 by omega) with rfl | rfl <;> exact ⟨_, rfl⟩
                have hb12 := hR12.lt
                clear hVm hs12 ho12 hR12 hz0 hz1
                have k0 := hV12.var.cell 0
                have k1 := hV12.var.cell 1
                have k2 := hV12.var.cell 2
                have k3 := hV12.var.cell 3
                simp [Order.cells] at k0 k1 k2 k3
                have kf := hV12.var.frozen
                have kl := hV12.var.lt
                have hV : VSt w0 w a A n c w1.heap.size (.slice A1 ns.length c1) (.slice A2 ps.length c2) u6 ns ps xs (w6.heap.size) (Order.cells (⟨z, y.node, y.amount, y.cls⟩)) (w12.setCell ⟨w6.heap.size, 0, none⟩ (.int .i64 z)) := hV12.set 0 (.int .i64 z)
                clear hV12
                have r0 := hV.var.cell 0
                have r1 := hV.var.cell 1
                have r2 := hV.var.cell 2
                have r3 := hV.var.cell 3
                simp [Order.cells] at r0 r1 r2 r3
                have rf := hV.var.frozen
                have rl := hV.var.lt
                have hvl := hV.st.net.var.lt
                have hbs : w.heap.size + 1 ≤ (w12.setCell ⟨w6.heap.size, 0, none⟩ (.int .i64 z)).heap.size := by omega
                have hO5 := hV.st
                clear hV
                go_wp2_with (at_builtin; go_must (refine wpList_append_grow rfl _ _ 28 rfl (w.heap.size + 1) 51 _ 4 32 Try.underlying28 order_info rfl (by decide) Order.cells order_len order_one _ _ rfl (hO5.o3.ext (Ext.alloc _ _)) _ 1 1 [⟨z, y.node, y.amount, y.cls⟩] rfl (new_oneG order_len (w12.setCell ⟨w6.heap.size, 0, none⟩ (.int .i64 z)) 51 ⟨z, y.node, y.amount, y.cls⟩ (by simp)) (by simp; omega) (by omega) (by have hb9 := hbs; simp at hb9 ⊢; omega) ?_))
                intro v7 w9 ho9 hg9
                have hO9 := (hO5.more (Ext.alloc (w12.setCell ⟨w6.heap.size, 0, none⟩ (.int .i64 z)) (.cells (⟨z, y.node, y.amount, y.cls⟩ : Order).cells.toArray 51))).app hg9 ho9
                clear hO5 ho9 hg9 r0 r1 r2 r3 rf rl
                go_wp2_with fail
                go_roundw
                case rel => exact ⟨j - 1, _, by omega, by go_num, by simp; omega, hO9⟩
                case measure => simp [intOf]; omega
              have b0 : (x == 0) = false := by rw [beq_eq_false_iff_ne]; exact h0
              by_cases h1 : x = 1
              · subst h1
                have k0 := hV.var.cell 0
                have k1 := hV.var.cell 1
                have k2 := hV.var.cell 2
                have k3 := hV.var.cell 3
                simp [Order.cells] at k0 k1 k2 k3
                have kf := hV.var.frozen
                have kl := hV.var.lt
                have p0 := hV.st.net.var.cell 0
                have p1 := hV.st.net.var.cell 1
                simp at p0 p1
                have pf := hV.st.net.var.frozen
                have pl := hV.st.net.var.lt
                have hVs : VSt w0 w a A n c w1.heap.size (.slice A1 ns.length c1) (.slice A2 ps.length c2) u6 ns ps xs (w6.heap.size) (Order.cells (⟨y.shipper, ns.length, y.amount, y.cls⟩)) (w10.setCell ⟨w6.heap.size, 1, none⟩ (.int .i64 (ns.length : Int))) := hV.set 1 (.int .i64 (ns.length : Int))
                clear hV
                have hV := hVs
                clear hVs
                have r0 := hV.var.cell 0
                have r1 := hV.var.cell 1
                have r2 := hV.var.cell 2
                have r3 := hV.var.cell 3
                simp [Order.cells] at r0 r1 r2 r3
                have rf := hV.var.frozen
                have rl := hV.var.lt
                have hvl := hV.st.net.var.lt
                have hbs : w.heap.size + 1 ≤ (w10.setCell ⟨w6.heap.size, 1, none⟩ (.int .i64 (ns.length : Int))).heap.size := by omega
                have hO5 := hV.st
                clear hV
                go_wp2_with (at_builtin; go_must (refine wpList_append_grow rfl _ _ 28 rfl (w.heap.size + 1) 51 _ 4 32 Try.underlying28 order_info rfl (by decide) Order.cells order_len order_one _ _ rfl (hO5.o3.ext (Ext.alloc _ _)) _ 1 1 [⟨y.shipper, ns.length, y.amount, y.cls⟩] rfl (new_oneG order_len (w10.setCell ⟨w6.heap.size, 1, none⟩ (.int .i64 (ns.length : Int))) 51 ⟨y.shipper, ns.length, y.amount, y.cls⟩ (by simp)) (by simp; omega) (by omega) (by have hb9 := hbs; simp at hb9 ⊢; omega) ?_))
                intro v7 w9 ho9 hg9
                have hO9 := (hO5.more (Ext.alloc (w10.setCell ⟨w6.heap.size, 1, none⟩ (.int .i64 (ns.length : Int))) (.cells (⟨y.shipper, ns.length, y.amount, y.cls⟩ : Order).cells.toArray 51))).app hg9 ho9
                clear hO5 ho9 hg9 r0 r1 r2 r3 rf rl
                go_wp2_with fail
                go_roundw
                case rel => exact ⟨j - 1, _, by omega, by go_num, by simp; omega, hO9⟩
                case measure => simp [intOf]; omega
              have b1 : (x == 1) = false := by rw [beq_eq_false_iff_ne]; exact h1
              by_cases h2 : x = 2
              · subst h2
                have hVm := hV.more (Ext.alloc w10 (.cells #[.int .i64 30000, .int .i64 30001, .int .i64 (-30000)] 2))
                have hal10 := hV.st.net.src.lt
                clear hV
                go_wp2_with fail
                refine (c_next 3 hVm.st.net.src (by omega) (by omega)).mono ?_
                rintro e w12 ⟨z0, rfl, hz0, hz1, hs12, ho12⟩
                have hV12 := hVm.draw hs12 ho12
                have hR12 := (Row.new w10 2 [.int .i64 30000, .int .i64 30001, .int .i64 (-30000)]).only ho12 (by omega)
                obtain ⟨jj, rfl⟩ := Int.eq_ofNat_of_zero_le hz0
                have hjj : jj < 3 := by omega
                obtain ⟨z, hz⟩ : ∃ z : Int, w12.cell? ⟨w10.heap.size, jj, none⟩ = some (.int .i64 z) := by
                  rw [hR12.cell]; rcases (show jj = 0 ∨ jj = 1 ∨ jj = 2 by omega) with rfl | rfl | rfl <;> exact ⟨_, rfl⟩
                have hb12 := hR12.lt
                clear hVm hs12 ho12 hR12 hz0 hz1
                have k0 := hV12.var.cell 0
                have k1 := hV12.var.cell 1
                have k2 := hV12.var.cell 2
                have k3 := hV12.var.cell 3
                simp [Order.cells] at k0 k1 k2 k3
                have kf := hV12.var.frozen
                have kl := hV12.var.lt
                have hV : VSt w0 w a A n c w1.heap.size (.slice A1 ns.length c1) (.slice A2 ps.length c2) u6 ns ps xs (w6.heap.size) (Order.cells (⟨y.shipper, y.node, z, y.cls⟩)) (w12.setCell ⟨w6.heap.size, 2, none⟩ (.int .i64 z)) := hV12.set 2 (.int .i64 z)
                clear hV12
                have r0 := hV.var.cell 0
                have r1 := hV.var.cell 1
                have r2 := hV.var.cell 2
                have r3 := hV.var.cell 3
                simp [Order.cells] at r0 r1 r2 r3
                have rf := hV.var.frozen
                have rl := hV.var.lt
                have hvl := hV.st.net.var.lt
                have hbs : w.heap.size + 1 ≤ (w12.setCell ⟨w6.heap.size, 2, none⟩ (.int .i64 z)).heap.size := by omega
                have hO5 := hV.st
                clear hV
                go_wp2_with (at_builtin; go_must (refine wpList_append_grow rfl _ _ 28 rfl (w.heap.size + 1) 51 _ 4 32 Try.underlying28 order_info rfl (by decide) Order.cells order_len order_one _ _ rfl (hO5.o3.ext (Ext.alloc _ _)) _ 1 1 [⟨y.shipper, y.node, z, y.cls⟩] rfl (new_oneG order_len (w12.setCell ⟨w6.heap.size, 2, none⟩ (.int .i64 z)) 51 ⟨y.shipper, y.node, z, y.cls⟩ (by simp)) (by simp; omega) (by omega) (by have hb9 := hbs; simp at hb9 ⊢; omega) ?_))
                intro v7 w9 ho9 hg9
                have hO9 := (hO5.more (Ext.alloc (w12.setCell ⟨w6.heap.size, 2, none⟩ (.int .i64 z)) (.cells (⟨y.shipper, y.node, z, y.cls⟩ : Order).cells.toArray 51))).app hg9 ho9
                clear hO5 ho9 hg9 r0 r1 r2 r3 rf rl
                go_wp2_with fail
                go_roundw
                case rel => exact ⟨j - 1, _, by omega, by go_num, by simp; omega, hO9⟩
                case measure => simp [intOf]; omega
              have b2 : (x == 2) = false := by rw [beq_eq_false_iff_ne]; exact h2
              by_cases h3 : x = 3
              · subst h3
                have k0 := hV.var.cell 0
                have k1 := hV.var.cell 1
                have k2 := hV.var.cell 2
                have k3 := hV.var.cell 3
                simp [Order.cells] at k0 k1 k2 k3
                have kf := hV.var.frozen
                have kl := hV.var.lt
                have hVs : VSt w0 w a A n c w1.heap.size (.slice A1 ns.length c1) (.slice A2 ps.length c2) u6 ns ps xs (w6.heap.size) (Order.cells (⟨y.shipper, y.node, y.amount, 4⟩)) (w10.setCell ⟨w6.heap.size, 3, none⟩ (.int .i64 4)) := hV.set 3 (.int .i64 4)
                clear hV
                have hV := hVs
                clear hVs
                have r0 := hV.var.cell 0
                have r1 := hV.var.cell 1
                have r2 := hV.var.cell 2
                have r3 := hV.var.cell 3
                simp [Order.cells] at r0 r1 r2 r3
                have rf := hV.var.frozen
                have rl := hV.var.lt
                have hvl := hV.st.net.var.lt
                have hbs : w.heap.size + 1 ≤ (w10.setCell ⟨w6.heap.size, 3, none⟩ (.int .i64 4)).heap.size := by omega
                have hO5 := hV.st
                clear hV
                go_wp2_with (at_builtin; go_must (refine wpList_append_grow rfl _ _ 28 rfl (w.heap.size + 1) 51 _ 4 32 Try.underlying28 order_info rfl (by decide) Order.cells order_len order_one _ _ rfl (hO5.o3.ext (Ext.alloc _ _)) _ 1 1 [⟨y.shipper, y.node, y.amount, 4⟩] rfl (new_oneG order_len (w10.setCell ⟨w6.heap.size, 3, none⟩ (.int .i64 4)) 51 ⟨y.shipper, y.node, y.amount, 4⟩ (by simp)) (by simp; omega) (by omega) (by have hb9 := hbs; simp at hb9 ⊢; omega) ?_))
                intro v7 w9 ho9 hg9
                have hO9 := (hO5.more (Ext.alloc (w10.setCell ⟨w6.heap.size, 3, none⟩ (.int .i64 4)) (.cells (⟨y.shipper, y.node, y.amount, 4⟩ : Order).cells.toArray 51))).app hg9 ho9
                clear hO5 ho9 hg9 r0 r1 r2 r3 rf rl
                go_wp2_with fail
                go_roundw
                case rel => exact ⟨j - 1, _, by omega, by go_num, by simp; omega, hO9⟩
                case measure => simp [intOf]; omega
              have b3 : (x == 3) = false := by rw [beq_eq_false_iff_ne]; exact h3
              have r0 := hV.var.cell 0
              have r1 := hV.var.cell 1
              have r2 := hV.var.cell 2
              have r3 := hV.var.cell 3
              simp [Order.cells] at r0 r1 r2 r3
              have rf := hV.var.frozen
              have rl := hV.var.lt
              have hvl := hV.st.net.var.lt
              have hbs : w.heap.size + 1 ≤ (w10).heap.size := by omega
              have hO5 := hV.st
              clear hV
              go_wp2_with (at_builtin; go_must (refine wpList_append_grow rfl _ _ 28 rfl (w.heap.size + 1) 51 _ 4 32 Try.underlying28 order_info rfl (by decide) Order.cells order_len order_one _ _ rfl (hO5.o3.ext (Ext.alloc _ _)) _ 1 1 [y] rfl (new_oneG order_len (w10) 51 y (by simp)) (by simp; omega) (by omega) (by have hb9 := hbs; simp at hb9 ⊢; omega) ?_))
              intro v7 w9 ho9 hg9
              have hO9 := (hO5.more (Ext.alloc (w10) (.cells (y : Order).cells.toArray 51))).app hg9 ho9
              clear hO5 ho9 hg9 r0 r1 r2 r3 rf rl
              go_wp2_with fail
              go_roundw
              case rel => exact ⟨j - 1, _, by omega, by go_num, by simp; omega, hO9⟩
              case measure => simp [intOf]; omega
          · have hV := VSt.alloc hO [.int .i64 0, .int .i64 0, .int .i64 0, .int .i64 0]
            have hsm' := hsm.trans (SameC.of_ext (Ext.alloc w5 (.cells #[.int .i64 0, .int .i64 0, .int .i64 0, .int .i64 0] 51)) (by have := hO.net.var.lt; simp; omega))
            clear hsm hO
            have hsm := hsm'
            clear hsm'
            go_wp2_with fail
            refine ⟨hsm, ?_⟩
            repeat (go_big_quiet_step (fail))
            refine wpQuiet_nil ?_
            go_wp2_with fail
            refine (c_next (60) hV.st.net.src (by omega) (by omega)).mono ?_
            rintro e w6 ⟨x6, rfl, hx6, hx6', hs, ho⟩
            have hsm' := hsm.trans (SameC.of_only ho (by have h8 := hV.st.net.hg; have h9 := hV.st.net.var.lt; simp at h9 ⊢; omega))
            have hV' := hV.draw hs ho
            clear hsm hV hs ho
            have hsm := hsm'
            have hV := hV'
            clear hsm' hV'
            have e6 : IntKind.i64.wrap (x6 - 30) = x6 - 30 := IntWalk.i64_in _ (by omega)
            go_wp2_with fail
            refine ⟨hsm, ?_⟩
            repeat (go_big_quiet_step (fail))
            refine wpQuiet_nil ?_
            go_wp2_with fail
            refine (c_next (4) hV.st.net.src (by omega) (by omega)).mono ?_
            rintro e w7 ⟨x7, rfl, hx7, hx7', hs, ho⟩
            have hsm' := hsm.trans (SameC.of_only ho (by have h8 := hV.st.net.hg; have h9 := hV.st.net.var.lt; simp at h9 ⊢; omega))
            have hV' := hV.draw hs ho
            clear hsm hV hs ho
            have hsm := hsm'
            have hV := hV'
            clear hsm' hV'
            go_wp2_with fail
            refine ⟨hsm, ?_⟩
            repeat (go_big_quiet_step (fail))
            refine wpQuiet_nil ?_
            have q0 := hV.var.cell 0
            have q1 := hV.var.cell 1
            have q2 := hV.var.cell 2
            have q3 := hV.var.cell 3
            simp at q0 q1 q2 q3
            have qf := hV.var.frozen
            have ql := hV.var.lt
            have hlo := hV.lo
            have hsm8 := (((hsm.setCell (p := ⟨w5.heap.size, 0, none⟩) (by first | (simp; done) | (simp; omega)) (.int .i64 x4)).setCell (p := ⟨w5.heap.size, 1, none⟩) (by first | (simp; done) | (simp; omega)) (.int .i64 x5)).setCell (p := ⟨w5.heap.size, 2, none⟩) (by first | (simp; done) | (simp; omega)) (.int .i64 (x6 - 30))).setCell (p := ⟨w5.heap.size, 3, none⟩) (by first | (simp; done) | (simp; omega)) (.int .i64 x7)
            have hV8 : VSt w0 w a A n c w1.heap.size (.slice A1 ns.length c1) (.slice A2 ps.length c2) u6 ns ps xs (w5.heap.size) (Order.cells (⟨x4, x5, x6 - 30, x7⟩)) (((((w7).setCell ⟨w5.heap.size, 0, none⟩ (.int .i64 x4)).setCell ⟨w5.heap.size, 1, none⟩ (.int .i64 x5)).setCell ⟨w5.heap.size, 2, none⟩ (.int .i64 (x6 - 30))).setCell ⟨w5.heap.size, 3, none⟩ (.int .i64 x7)) := (((hV.set 0 (.int .i64 x4)).set 1 (.int .i64 x5)).set 2 (.int .i64 (x6 - 30))).set 3 (.int .i64 x7)
            clear hV hsm
            go_wp2_with fail
            obtain ⟨W8, HW8⟩ : ∃ W8, Hid (((((w7).setCell ⟨w5.heap.size, 0, none⟩ (.int .i64 x4)).setCell ⟨w5.heap.size, 1, none⟩ (.int .i64 x5)).setCell ⟨w5.heap.size, 2, none⟩ (.int .i64 (x6 - 30))).setCell ⟨w5.heap.size, 3, none⟩ (.int .i64 x7) = W8) := ⟨_, hide rfl⟩
            rw [HW8.out] at hV8 hsm8 ⊢
            refine ⟨hsm8, wpQuiet_nil ?_⟩
            clear hsm8 q0 q1 q2 q3 qf ql
            obtain ⟨y, hy⟩ : ∃ y : Order, (⟨x4, x5, x6 - 30, x7⟩ : Order) = y := ⟨_, rfl⟩
            rw [hy] at hV8
            have hV := hV8
            clear hV8 hy p0 p1 pf pl
            go_wp2_with fail
            refine (c_next 120 hV.st.net.src (by omega) (by omega)).mono ?_
            rintro e w10 ⟨x, rfl, hx0, hxk, hs, ho⟩
            have hV' := hV.draw hs ho
            clear hV hs ho
            have hV := hV'
            clear hV'
            by_cases h0 : x = 0
            · subst h0
              have hVm := hV.more (Ext.alloc w10 (.cells #[.int .i64 (-1), .int .i64 16] 2))
              have hal10 := hV.st.net.src.lt
              clear hV
              go_wp2_with fail
              refine (c_next 2 hVm.st.net.src (by omega) (by omega)).mono ?_
              rintro e w12 ⟨z0, rfl, hz0, hz1, hs12, ho12⟩
              have hV12 := hVm.draw hs12 ho12
              have hR12 := (Row.new w10 2 [.int .i64 (-1), .int .i64 16]).only ho12 (by omega)
              obtain ⟨jj, rfl⟩ := Int.eq_ofNat_of_zero_le hz0
              have hjj : jj < 2 := by omega
              obtain ⟨z, hz⟩ : ∃ z : Int, w12.cell? ⟨w10.heap.size, jj, none⟩ = some (.int .i64 z) := by
                rw [hR12.cell]; rcases (show jj = 0 ∨ jj = 1 by omega) with rfl | rfl <;> exact ⟨_, rfl⟩
              have hb12 := hR12.lt
              clear hVm hs12 ho12 hR12 hz0 hz1
              have k0 := hV12.var.cell 0
              have k1 := hV12.var.cell 1
              have k2 := hV12.var.cell 2
              have k3 := hV12.var.cell 3
              simp [Order.cells] at k0 k1 k2 k3
              have kf := hV12.var.frozen
              have kl := hV12.var.lt
              have hV : VSt w0 w a A n c w1.heap.size (.slice A1 ns.length c1) (.slice A2 ps.length c2) u6 ns ps xs (w5.heap.size) (Order.cells (⟨z, y.node, y.amount, y.cls⟩)) (w12.setCell ⟨w5.heap.size, 0, none⟩ (.int .i64 z)) := hV12.set 0 (.int .i64 z)
              clear hV12
              have r0 := hV.var.cell 0
              have r1 := hV.var.cell 1
              have r2 := hV.var.cell 2
              have r3 := hV.var.cell 3
              simp [Order.cells] at r0 r1 r2 r3
              have rf := hV.var.frozen
              have rl := hV.var.lt
              have hvl := hV.st.net.var.lt
              have hbs : w.heap.size + 1 ≤ (w12.setCell ⟨w5.heap.size, 0, none⟩ (.int .i64 z)).heap.size := by omega
              have hO5 := hV.st
              clear hV
              go_wp2_with (at_builtin; go_must (refine wpList_append_grow rfl _ _ 28 rfl (w.heap.size + 1) 51 _ 4 32 Try.underlying28 order_info rfl (by decide) Order.cells order_len order_one _ _ rfl (hO5.o3.ext (Ext.alloc _ _)) _ 1 1 [⟨z, y.node, y.amount, y.cls⟩] rfl (new_oneG order_len (w12.setCell ⟨w5.heap.size, 0, none⟩ (.int .i64 z)) 51 ⟨z, y.node, y.amount, y.cls⟩ (by simp)) (by simp; omega) (by omega) (by have hb9 := hbs; simp at hb9 ⊢; omega) ?_))
              intro v7 w9 ho9 hg9
              have hO9 := (hO5.more (Ext.alloc (w12.setCell ⟨w5.heap.size, 0, none⟩ (.int .i64 z)) (.cells (⟨z, y.node, y.amount, y.cls⟩ : Order).cells.toArray 51))).app hg9 ho9
              clear hO5 ho9 hg9 r0 r1 r2 r3 rf rl
              go_wp2_with fail
              go_roundw
              case rel => exact ⟨j - 1, _, by omega, by go_num, by simp; omega, hO9⟩
              case measure => simp [intOf]; omega
            have b0 : (x == 0) = false := by rw [beq_eq_false_iff_ne]; exact h0
            by_cases h1 : x = 1
            · subst h1
              have k0 := hV.var.cell 0
              have k1 := hV.var.cell 1
              have k2 := hV.var.cell 2
              have k3 := hV.var.cell 3
              simp [Order.cells] at k0 k1 k2 k3
              have kf := hV.var.frozen
              have kl := hV.var.lt
              have p0 := hV.st.net.var.cell 0
              have p1 := hV.st.net.var.cell 1
              simp at p0 p1
              have pf := hV.st.net.var.frozen
              have pl := hV.st.net.var.lt
              have hVs : VSt w0 w a A n c w1.heap.size (.slice A1 ns.length c1) (.slice A2 ps.length c2) u6 ns ps xs (w5.heap.size) (Order.cells (⟨y.shipper, ns.length, y.amount, y.cls⟩)) (w10.setCell ⟨w5.heap.size, 1, none⟩ (.int .i64 (ns.length : Int))) := hV.set 1 (.int .i64 (ns.length : Int))
              clear hV
              have hV := hVs
              clear hVs
              have r0 := hV.var.cell 0
              have r1 := hV.var.cell 1
              have r2 := hV.var.cell 2
              have r3 := hV.var.cell 3
              simp [Order.cells] at r0 r1 r2 r3
              have rf := hV.var.frozen
              have rl := hV.var.lt
              have hvl := hV.st.net.var.lt
              have hbs : w.heap.size + 1 ≤ (w10.setCell ⟨w5.heap.size, 1, none⟩ (.int .i64 (ns.length : Int))).heap.size := by omega
              have hO5 := hV.st
              clear hV
              go_wp2_with (at_builtin; go_must (refine wpList_append_grow rfl _ _ 28 rfl (w.heap.size + 1) 51 _ 4 32 Try.underlying28 order_info rfl (by decide) Order.cells order_len order_one _ _ rfl (hO5.o3.ext (Ext.alloc _ _)) _ 1 1 [⟨y.shipper, ns.length, y.amount, y.cls⟩] rfl (new_oneG order_len (w10.setCell ⟨w5.heap.size, 1, none⟩ (.int .i64 (ns.length : Int))) 51 ⟨y.shipper, ns.length, y.amount, y.cls⟩ (by simp)) (by simp; omega) (by omega) (by have hb9 := hbs; simp at hb9 ⊢; omega) ?_))
              intro v7 w9 ho9 hg9
              have hO9 := (hO5.more (Ext.alloc (w10.setCell ⟨w5.heap.size, 1, none⟩ (.int .i64 (ns.length : Int))) (.cells (⟨y.shipper, ns.length, y.amount, y.cls⟩ : Order).cells.toArray 51))).app hg9 ho9
              clear hO5 ho9 hg9 r0 r1 r2 r3 rf rl
              go_wp2_with fail
              go_roundw
              case rel => exact ⟨j - 1, _, by omega, by go_num, by simp; omega, hO9⟩
              case measure => simp [intOf]; omega
            have b1 : (x == 1) = false := by rw [beq_eq_false_iff_ne]; exact h1
            by_cases h2 : x = 2
            · subst h2
              have hVm := hV.more (Ext.alloc w10 (.cells #[.int .i64 30000, .int .i64 30001, .int .i64 (-30000)] 2))
              have hal10 := hV.st.net.src.lt
              clear hV
              go_wp2_with fail
              refine (c_next 3 hVm.st.net.src (by omega) (by omega)).mono ?_
              rintro e w12 ⟨z0, rfl, hz0, hz1, hs12, ho12⟩
              have hV12 := hVm.draw hs12 ho12
              have hR12 := (Row.new w10 2 [.int .i64 30000, .int .i64 30001, .int .i64 (-30000)]).only ho12 (by omega)
              obtain ⟨jj, rfl⟩ := Int.eq_ofNat_of_zero_le hz0
              have hjj : jj < 3 := by omega
              obtain ⟨z, hz⟩ : ∃ z : Int, w12.cell? ⟨w10.heap.size, jj, none⟩ = some (.int .i64 z) := by
                rw [hR12.cell]; rcases (show jj = 0 ∨ jj = 1 ∨ jj = 2 by omega) with rfl | rfl | rfl <;> exact ⟨_, rfl⟩
              have hb12 := hR12.lt
              clear hVm hs12 ho12 hR12 hz0 hz1
              have k0 := hV12.var.cell 0
              have k1 := hV12.var.cell 1
              have k2 := hV12.var.cell 2
              have k3 := hV12.var.cell 3
              simp [Order.cells] at k0 k1 k2 k3
              have kf := hV12.var.frozen
              have kl := hV12.var.lt
              have hV : VSt w0 w a A n c w1.heap.size (.slice A1 ns.length c1) (.slice A2 ps.length c2) u6 ns ps xs (w5.heap.size) (Order.cells (⟨y.shipper, y.node, z, y.cls⟩)) (w12.setCell ⟨w5.heap.size, 2, none⟩ (.int .i64 z)) := hV12.set 2 (.int .i64 z)
              clear hV12
              have r0 := hV.var.cell 0
              have r1 := hV.var.cell 1
              have r2 := hV.var.cell 2
              have r3 := hV.var.cell 3
              simp [Order.cells] at r0 r1 r2 r3
              have rf := hV.var.frozen
              have rl := hV.var.lt
              have hvl := hV.st.net.var.lt
              have hbs : w.heap.size + 1 ≤ (w12.setCell ⟨w5.heap.size, 2, none⟩ (.int .i64 z)).heap.size := by omega
              have hO5 := hV.st
              clear hV
              go_wp2_with (at_builtin; go_must (refine wpList_append_grow rfl _ _ 28 rfl (w.heap.size + 1) 51 _ 4 32 Try.underlying28 order_info rfl (by decide) Order.cells order_len order_one _ _ rfl (hO5.o3.ext (Ext.alloc _ _)) _ 1 1 [⟨y.shipper, y.node, z, y.cls⟩] rfl (new_oneG order_len (w12.setCell ⟨w5.heap.size, 2, none⟩ (.int .i64 z)) 51 ⟨y.shipper, y.node, z, y.cls⟩ (by simp)) (by simp; omega) (by omega) (by have hb9 := hbs; simp at hb9 ⊢; omega) ?_))
              intro v7 w9 ho9 hg9
              have hO9 := (hO5.more (Ext.alloc (w12.setCell ⟨w5.heap.size, 2, none⟩ (.int .i64 z)) (.cells (⟨y.shipper, y.node, z, y.cls⟩ : Order).cells.toArray 51))).app hg9 ho9
              clear hO5 ho9 hg9 r0 r1 r2 r3 rf rl
              go_wp2_with fail
              go_roundw
              case rel => exact ⟨j - 1, _, by omega, by go_num, by simp; omega, hO9⟩
              case measure => simp [intOf]; omega
            have b2 : (x == 2) = false := by rw [beq_eq_false_iff_ne]; exact h2
            by_cases h3 : x = 3
            · subst h3
              have k0 := hV.var.cell 0
              have k1 := hV.var.cell 1
              have k2 := hV.var.cell 2
              have k3 := hV.var.cell 3
              simp [Order.cells] at k0 k1 k2 k3
              have kf := hV.var.frozen
              have kl := hV.var.lt
              have hVs : VSt w0 w a A n c w1.heap.size (.slice A1 ns.length c1) (.slice A2 ps.length c2) u6 ns ps xs (w5.heap.size) (Order.cells (⟨y.shipper, y.node, y.amount, 4⟩)) (w10.setCell ⟨w5.heap.size, 3, none⟩ (.int .i64 4)) := hV.set 3 (.int .i64 4)
              clear hV
              have hV := hVs
              clear hVs
              have r0 := hV.var.cell 0
              have r1 := hV.var.cell 1
              have r2 := hV.var.cell 2
              have r3 := hV.var.cell 3
              simp [Order.cells] at r0 r1 r2 r3
              have rf := hV.var.frozen
              have rl := hV.var.lt
              have hvl := hV.st.net.var.lt
              have hbs : w.heap.size + 1 ≤ (w10.setCell ⟨w5.heap.size, 3, none⟩ (.int .i64 4)).heap.size := by omega
              have hO5 := hV.st
              clear hV
              go_wp2_with (at_builtin; go_must (refine wpList_append_grow rfl _ _ 28 rfl (w.heap.size + 1) 51 _ 4 32 Try.underlying28 order_info rfl (by decide) Order.cells order_len order_one _ _ rfl (hO5.o3.ext (Ext.alloc _ _)) _ 1 1 [⟨y.shipper, y.node, y.amount, 4⟩] rfl (new_oneG order_len (w10.setCell ⟨w5.heap.size, 3, none⟩ (.int .i64 4)) 51 ⟨y.shipper, y.node, y.amount, 4⟩ (by simp)) (by simp; omega) (by omega) (by have hb9 := hbs; simp at hb9 ⊢; omega) ?_))
              intro v7 w9 ho9 hg9
              have hO9 := (hO5.more (Ext.alloc (w10.setCell ⟨w5.heap.size, 3, none⟩ (.int .i64 4)) (.cells (⟨y.shipper, y.node, y.amount, 4⟩ : Order).cells.toArray 51))).app hg9 ho9
              clear hO5 ho9 hg9 r0 r1 r2 r3 rf rl
              go_wp2_with fail
              go_roundw
              case rel => exact ⟨j - 1, _, by omega, by go_num, by simp; omega, hO9⟩
              case measure => simp [intOf]; omega
            have b3 : (x == 3) = false := by rw [beq_eq_false_iff_ne]; exact h3
            have r0 := hV.var.cell 0
            have r1 := hV.var.cell 1
            have r2 := hV.var.cell 2
            have r3 := hV.var.cell 3
            simp [Order.cells] at r0 r1 r2 r3
            have rf := hV.var.frozen
            have rl := hV.var.lt
            have hvl := hV.st.net.var.lt
            have hbs : w.heap.size + 1 ≤ (w10).heap.size := by omega
            have hO5 := hV.st
            clear hV
            go_wp2_with (at_builtin; go_must (refine wpList_append_grow rfl _ _ 28 rfl (w.heap.size + 1) 51 _ 4 32 Try.underlying28 order_info rfl (by decide) Order.cells order_len order_one _ _ rfl (hO5.o3.ext (Ext.alloc _ _)) _ 1 1 [y] rfl (new_oneG order_len (w10) 51 y (by simp)) (by simp; omega) (by omega) (by have hb9 := hbs; simp at hb9 ⊢; omega) ?_))
            intro v7 w9 ho9 hg9
            have hO9 := (hO5.more (Ext.alloc (w10) (.cells (y : Order).cells.toArray 51))).app hg9 ho9
            clear hO5 ho9 hg9 r0 r1 r2 r3 rf rl
            go_wp2_with fail
            go_roundw
            case rel => exact ⟨j - 1, _, by omega, by go_num, by simp; omega, hO9⟩
            case measure => simp [intOf]; omega
        · have hV := VSt.alloc hO [.int .i64 0, .int .i64 0, .int .i64 0, .int .i64 0]
          have hsm' := hsm.trans (SameC.of_ext (Ext.alloc w4 (.cells #[.int .i64 0, .int .i64 0, .int .i64 0, .int .i64 0] 51)) (by have := hO.net.var.lt; simp; omega))
          clear hsm hO
          have hsm := hsm'
          clear hsm'
          go_wp2_with fail
          refine ⟨hsm, ?_⟩
          repeat (go_big_quiet_step (fail))
          refine wpQuiet_nil ?_
          go_wp2_with fail
          refine (c_next ((ns.length : Int)) hV.st.net.src (by omega) (by omega)).mono ?_
          rintro e w5 ⟨x5, rfl, hx5, hx5', hs, ho⟩
          have hsm' := hsm.trans (SameC.of_only ho (by have h8 := hV.st.net.hg; have h9 := hV.st.net.var.lt; simp at h9 ⊢; omega))
          have hV' := hV.draw hs ho
          clear hsm hV hs ho
          have hsm := hsm'
          have hV := hV'
          clear hsm' hV'
          go_wp2_with fail
          refine ⟨hsm, ?_⟩
          repeat (go_big_quiet_step (fail))
          refine wpQuiet_nil ?_
          go_wp2_with fail
          refine (c_next (60) hV.st.net.src (by omega) (by omega)).mono ?_
          rintro e w6 ⟨x6, rfl, hx6, hx6', hs, ho⟩
          have hsm' := hsm.trans (SameC.of_only ho (by have h8 := hV.st.net.hg; have h9 := hV.st.net.var.lt; simp at h9 ⊢; omega))
          have hV' := hV.draw hs ho
          clear hsm hV hs ho
          have hsm := hsm'
          have hV := hV'
          clear hsm' hV'
          have e6 : IntKind.i64.wrap (x6 - 30) = x6 - 30 := IntWalk.i64_in _ (by omega)
          go_wp2_with fail
          refine ⟨hsm, ?_⟩
          repeat (go_big_quiet_step (fail))
          refine wpQuiet_nil ?_
          go_wp2_with fail
          refine (c_next (4) hV.st.net.src (by omega) (by omega)).mono ?_
          rintro e w7 ⟨x7, rfl, hx7, hx7', hs, ho⟩
          have hsm' := hsm.trans (SameC.of_only ho (by have h8 := hV.st.net.hg; have h9 := hV.st.net.var.lt; simp at h9 ⊢; omega))
          have hV' := hV.draw hs ho
          clear hsm hV hs ho
          have hsm := hsm'
          have hV := hV'
          clear hsm' hV'
          go_wp2_with fail
          refine ⟨hsm, ?_⟩
          repeat (go_big_quiet_step (fail))
          refine wpQuiet_nil ?_
          have q0 := hV.var.cell 0
          have q1 := hV.var.cell 1
          have q2 := hV.var.cell 2
          have q3 := hV.var.cell 3
          simp at q0 q1 q2 q3
          have qf := hV.var.frozen
          have ql := hV.var.lt
          have hlo := hV.lo
          have hsm8 := (((hsm.setCell (p := ⟨w4.heap.size, 0, none⟩) (by first | (simp; done) | (simp; omega)) (.int .i64 x4)).setCell (p := ⟨w4.heap.size, 1, none⟩) (by first | (simp; done) | (simp; omega)) (.int .i64 x5)).setCell (p := ⟨w4.heap.size, 2, none⟩) (by first | (simp; done) | (simp; omega)) (.int .i64 (x6 - 30))).setCell (p := ⟨w4.heap.size, 3, none⟩) (by first | (simp; done) | (simp; omega)) (.int .i64 x7)
          have hV8 : VSt w0 w a A n c w1.heap.size (.slice A1 ns.length c1) (.slice A2 ps.length c2) u6 ns ps xs (w4.heap.size) (Order.cells (⟨x4, x5, x6 - 30, x7⟩)) (((((w7).setCell ⟨w4.heap.size, 0, none⟩ (.int .i64 x4)).setCell ⟨w4.heap.size, 1, none⟩ (.int .i64 x5)).setCell ⟨w4.heap.size, 2, none⟩ (.int .i64 (x6 - 30))).setCell ⟨w4.heap.size, 3, none⟩ (.int .i64 x7)) := (((hV.set 0 (.int .i64 x4)).set 1 (.int .i64 x5)).set 2 (.int .i64 (x6 - 30))).set 3 (.int .i64 x7)
          clear hV hsm
          go_wp2_with fail
          obtain ⟨W8, HW8⟩ : ∃ W8, Hid (((((w7).setCell ⟨w4.heap.size, 0, none⟩ (.int .i64 x4)).setCell ⟨w4.heap.size, 1, none⟩ (.int .i64 x5)).setCell ⟨w4.heap.size, 2, none⟩ (.int .i64 (x6 - 30))).setCell ⟨w4.heap.size, 3, none⟩ (.int .i64 x7) = W8) := ⟨_, hide rfl⟩
          rw [HW8.out] at hV8 hsm8 ⊢
          refine ⟨hsm8, wpQuiet_nil ?_⟩
          clear hsm8 q0 q1 q2 q3 qf ql
          obtain ⟨y, hy⟩ : ∃ y : Order, (⟨x4, x5, x6 - 30, x7⟩ : Order) = y := ⟨_, rfl⟩
          rw [hy] at hV8
          have hV := hV8
          clear hV8 hy p0 p1 pf pl
          go_wp2_with fail
          refine (c_next 120 hV.st.net.src (by omega) (by omega)).mono ?_
          rintro e w10 ⟨x, rfl, hx0, hxk, hs, ho⟩
          have hV' := hV.draw hs ho
          clear hV hs ho
          have hV := hV'
          clear hV'
          by_cases h0 : x = 0
          · subst h0
            have hVm := hV.more (Ext.alloc w10 (.cells #[.int .i64 (-1), .int .i64 16] 2))
            have hal10 := hV.st.net.src.lt
            clear hV
            go_wp2_with fail
            refine (c_next 2 hVm.st.net.src (by omega) (by omega)).mono ?_
            rintro e w12 ⟨z0, rfl, hz0, hz1, hs12, ho12⟩
            have hV12 := hVm.draw hs12 ho12
            have hR12 := (Row.new w10 2 [.int .i64 (-1), .int .i64 16]).only ho12 (by omega)
            obtain ⟨jj, rfl⟩ := Int.eq_ofNat_of_zero_le hz0
            have hjj : jj < 2 := by omega
            obtain ⟨z, hz⟩ : ∃ z : Int, w12.cell? ⟨w10.heap.size, jj, none⟩ = some (.int .i64 z) := by
              rw [hR12.cell]; rcases (show jj = 0 ∨ jj = 1 by omega) with rfl | rfl <;> exact ⟨_, rfl⟩
            have hb12 := hR12.lt
            clear hVm hs12 ho12 hR12 hz0 hz1
            have k0 := hV12.var.cell 0
            have k1 := hV12.var.cell 1
            have k2 := hV12.var.cell 2
            have k3 := hV12.var.cell 3
            simp [Order.cells] at k0 k1 k2 k3
            have kf := hV12.var.frozen
            have kl := hV12.var.lt
            have hV : VSt w0 w a A n c w1.heap.size (.slice A1 ns.length c1) (.slice A2 ps.length c2) u6 ns ps xs (w4.heap.size) (Order.cells (⟨z, y.node, y.amount, y.cls⟩)) (w12.setCell ⟨w4.heap.size, 0, none⟩ (.int .i64 z)) := hV12.set 0 (.int .i64 z)
            clear hV12
            have r0 := hV.var.cell 0
            have r1 := hV.var.cell 1
            have r2 := hV.var.cell 2
            have r3 := hV.var.cell 3
            simp [Order.cells] at r0 r1 r2 r3
            have rf := hV.var.frozen
            have rl := hV.var.lt
            have hvl := hV.st.net.var.lt
            have hbs : w.heap.size + 1 ≤ (w12.setCell ⟨w4.heap.size, 0, none⟩ (.int .i64 z)).heap.size := by omega
            have hO5 := hV.st
            clear hV
            go_wp2_with (at_builtin; go_must (refine wpList_append_grow rfl _ _ 28 rfl (w.heap.size + 1) 51 _ 4 32 Try.underlying28 order_info rfl (by decide) Order.cells order_len order_one _ _ rfl (hO5.o3.ext (Ext.alloc _ _)) _ 1 1 [⟨z, y.node, y.amount, y.cls⟩] rfl (new_oneG order_len (w12.setCell ⟨w4.heap.size, 0, none⟩ (.int .i64 z)) 51 ⟨z, y.node, y.amount, y.cls⟩ (by simp)) (by simp; omega) (by omega) (by have hb9 := hbs; simp at hb9 ⊢; omega) ?_))
            intro v7 w9 ho9 hg9
            have hO9 := (hO5.more (Ext.alloc (w12.setCell ⟨w4.heap.size, 0, none⟩ (.int .i64 z)) (.cells (⟨z, y.node, y.amount, y.cls⟩ : Order).cells.toArray 51))).app hg9 ho9
            clear hO5 ho9 hg9 r0 r1 r2 r3 rf rl
            go_wp2_with fail
            go_roundw
            case rel => exact ⟨j - 1, _, by omega, by go_num, by simp; omega, hO9⟩
            case measure => simp [intOf]; omega
          have b0 : (x == 0) = false := by rw [beq_eq_false_iff_ne]; exact h0
          by_cases h1 : x = 1
          · subst h1
            have k0 := hV.var.cell 0
            have k1 := hV.var.cell 1
            have k2 := hV.var.cell 2
            have k3 := hV.var.cell 3
            simp [Order.cells] at k0 k1 k2 k3
            have kf := hV.var.frozen
            have kl := hV.var.lt
            have p0 := hV.st.net.var.cell 0
            have p1 := hV.st.net.var.cell 1
            simp at p0 p1
            have pf := hV.st.net.var.frozen
            have pl := hV.st.net.var.lt
            have hVs : VSt w0 w a A n c w1.heap.size (.slice A1 ns.length c1) (.slice A2 ps.length c2) u6 ns ps xs (w4.heap.size) (Order.cells (⟨y.shipper, ns.length, y.amount, y.cls⟩)) (w10.setCell ⟨w4.heap.size, 1, none⟩ (.int .i64 (ns.length : Int))) := hV.set 1 (.int .i64 (ns.length : Int))
            clear hV
            have hV := hVs
            clear hVs
            have r0 := hV.var.cell 0
            have r1 := hV.var.cell 1
            have r2 := hV.var.cell 2
            have r3 := hV.var.cell 3
            simp [Order.cells] at r0 r1 r2 r3
            have rf := hV.var.frozen
            have rl := hV.var.lt
            have hvl := hV.st.net.var.lt
            have hbs : w.heap.size + 1 ≤ (w10.setCell ⟨w4.heap.size, 1, none⟩ (.int .i64 (ns.length : Int))).heap.size := by omega
            have hO5 := hV.st
            clear hV
            go_wp2_with (at_builtin; go_must (refine wpList_append_grow rfl _ _ 28 rfl (w.heap.size + 1) 51 _ 4 32 Try.underlying28 order_info rfl (by decide) Order.cells order_len order_one _ _ rfl (hO5.o3.ext (Ext.alloc _ _)) _ 1 1 [⟨y.shipper, ns.length, y.amount, y.cls⟩] rfl (new_oneG order_len (w10.setCell ⟨w4.heap.size, 1, none⟩ (.int .i64 (ns.length : Int))) 51 ⟨y.shipper, ns.length, y.amount, y.cls⟩ (by simp)) (by simp; omega) (by omega) (by have hb9 := hbs; simp at hb9 ⊢; omega) ?_))
            intro v7 w9 ho9 hg9
            have hO9 := (hO5.more (Ext.alloc (w10.setCell ⟨w4.heap.size, 1, none⟩ (.int .i64 (ns.length : Int))) (.cells (⟨y.shipper, ns.length, y.amount, y.cls⟩ : Order).cells.toArray 51))).app hg9 ho9
            clear hO5 ho9 hg9 r0 r1 r2 r3 rf rl
            go_wp2_with fail
            go_roundw
            case rel => exact ⟨j - 1, _, by omega, by go_num, by simp; omega, hO9⟩
            case measure => simp [intOf]; omega
          have b1 : (x == 1) = false := by rw [beq_eq_false_iff_ne]; exact h1
          by_cases h2 : x = 2
          · subst h2
            have hVm := hV.more (Ext.alloc w10 (.cells #[.int .i64 30000, .int .i64 30001, .int .i64 (-30000)] 2))
            have hal10 := hV.st.net.src.lt
            clear hV
            go_wp2_with fail
            refine (c_next 3 hVm.st.net.src (by omega) (by omega)).mono ?_
            rintro e w12 ⟨z0, rfl, hz0, hz1, hs12, ho12⟩
            have hV12 := hVm.draw hs12 ho12
            have hR12 := (Row.new w10 2 [.int .i64 30000, .int .i64 30001, .int .i64 (-30000)]).only ho12 (by omega)
            obtain ⟨jj, rfl⟩ := Int.eq_ofNat_of_zero_le hz0
            have hjj : jj < 3 := by omega
            obtain ⟨z, hz⟩ : ∃ z : Int, w12.cell? ⟨w10.heap.size, jj, none⟩ = some (.int .i64 z) := by
              rw [hR12.cell]; rcases (show jj = 0 ∨ jj = 1 ∨ jj = 2 by omega) with rfl | rfl | rfl <;> exact ⟨_, rfl⟩
            have hb12 := hR12.lt
            clear hVm hs12 ho12 hR12 hz0 hz1
            have k0 := hV12.var.cell 0
            have k1 := hV12.var.cell 1
            have k2 := hV12.var.cell 2
            have k3 := hV12.var.cell 3
            simp [Order.cells] at k0 k1 k2 k3
            have kf := hV12.var.frozen
            have kl := hV12.var.lt
            have hV : VSt w0 w a A n c w1.heap.size (.slice A1 ns.length c1) (.slice A2 ps.length c2) u6 ns ps xs (w4.heap.size) (Order.cells (⟨y.shipper, y.node, z, y.cls⟩)) (w12.setCell ⟨w4.heap.size, 2, none⟩ (.int .i64 z)) := hV12.set 2 (.int .i64 z)
            clear hV12
            have r0 := hV.var.cell 0
            have r1 := hV.var.cell 1
            have r2 := hV.var.cell 2
            have r3 := hV.var.cell 3
            simp [Order.cells] at r0 r1 r2 r3
            have rf := hV.var.frozen
            have rl := hV.var.lt
            have hvl := hV.st.net.var.lt
            have hbs : w.heap.size + 1 ≤ (w12.setCell ⟨w4.heap.size, 2, none⟩ (.int .i64 z)).heap.size := by omega
            have hO5 := hV.st
            clear hV
            go_wp2_with (at_builtin; go_must (refine wpList_append_grow rfl _ _ 28 rfl (w.heap.size + 1) 51 _ 4 32 Try.underlying28 order_info rfl (by decide) Order.cells order_len order_one _ _ rfl (hO5.o3.ext (Ext.alloc _ _)) _ 1 1 [⟨y.shipper, y.node, z, y.cls⟩] rfl (new_oneG order_len (w12.setCell ⟨w4.heap.size, 2, none⟩ (.int .i64 z)) 51 ⟨y.shipper, y.node, z, y.cls⟩ (by simp)) (by simp; omega) (by omega) (by have hb9 := hbs; simp at hb9 ⊢; omega) ?_))
            intro v7 w9 ho9 hg9
            have hO9 := (hO5.more (Ext.alloc (w12.setCell ⟨w4.heap.size, 2, none⟩ (.int .i64 z)) (.cells (⟨y.shipper, y.node, z, y.cls⟩ : Order).cells.toArray 51))).app hg9 ho9
            clear hO5 ho9 hg9 r0 r1 r2 r3 rf rl
            go_wp2_with fail
            go_roundw
            case rel => exact ⟨j - 1, _, by omega, by go_num, by simp; omega, hO9⟩
            case measure => simp [intOf]; omega
          have b2 : (x == 2) = false := by rw [beq_eq_false_iff_ne]; exact h2
          by_cases h3 : x = 3
          · subst h3
            have k0 := hV.var.cell 0
            have k1 := hV.var.cell 1
            have k2 := hV.var.cell 2
            have k3 := hV.var.cell 3
            simp [Order.cells] at k0 k1 k2 k3
            have kf := hV.var.frozen
            have kl := hV.var.lt
            have hVs : VSt w0 w a A n c w1.heap.size (.slice A1 ns.length c1) (.slice A2 ps.length c2) u6 ns ps xs (w4.heap.size) (Order.cells (⟨y.shipper, y.node, y.amount, 4⟩)) (w10.setCell ⟨w4.heap.size, 3, none⟩ (.int .i64 4)) := hV.set 3 (.int .i64 4)
            clear hV
            have hV := hVs
            clear hVs
            have r0 := hV.var.cell 0
            have r1 := hV.var.cell 1
            have r2 := hV.var.cell 2
            have r3 := hV.var.cell 3
            simp [Order.cells] at r0 r1 r2 r3
            have rf := hV.var.frozen
            have rl := hV.var.lt
            have hvl := hV.st.net.var.lt
            have hbs : w.heap.size + 1 ≤ (w10.setCell ⟨w4.heap.size, 3, none⟩ (.int .i64 4)).heap.size := by omega
            have hO5 := hV.st
            clear hV
            go_wp2_with (at_builtin; go_must (refine wpList_append_grow rfl _ _ 28 rfl (w.heap.size + 1) 51 _ 4 32 Try.underlying28 order_info rfl (by decide) Order.cells order_len order_one _ _ rfl (hO5.o3.ext (Ext.alloc _ _)) _ 1 1 [⟨y.shipper, y.node, y.amount, 4⟩] rfl (new_oneG order_len (w10.setCell ⟨w4.heap.size, 3, none⟩ (.int .i64 4)) 51 ⟨y.shipper, y.node, y.amount, 4⟩ (by simp)) (by simp; omega) (by omega) (by have hb9 := hbs; simp at hb9 ⊢; omega) ?_))
            intro v7 w9 ho9 hg9
            have hO9 := (hO5.more (Ext.alloc (w10.setCell ⟨w4.heap.size, 3, none⟩ (.int .i64 4)) (.cells (⟨y.shipper, y.node, y.amount, 4⟩ : Order).cells.toArray 51))).app hg9 ho9
            clear hO5 ho9 hg9 r0 r1 r2 r3 rf rl
            go_wp2_with fail
            go_roundw
            case rel => exact ⟨j - 1, _, by omega, by go_num, by simp; omega, hO9⟩
            case measure => simp [intOf]; omega
          have b3 : (x == 3) = false := by rw [beq_eq_false_iff_ne]; exact h3
          have r0 := hV.var.cell 0
          have r1 := hV.var.cell 1
          have r2 := hV.var.cell 2
          have r3 := hV.var.cell 3
          simp [Order.cells] at r0 r1 r2 r3
          have rf := hV.var.frozen
          have rl := hV.var.lt
          have hvl := hV.st.net.var.lt
          have hbs : w.heap.size + 1 ≤ (w10).heap.size := by omega
          have hO5 := hV.st
          clear hV
          go_wp2_with (at_builtin; go_must (refine wpList_append_grow rfl _ _ 28 rfl (w.heap.size + 1) 51 _ 4 32 Try.underlying28 order_info rfl (by decide) Order.cells order_len order_one _ _ rfl (hO5.o3.ext (Ext.alloc _ _)) _ 1 1 [y] rfl (new_oneG order_len (w10) 51 y (by simp)) (by simp; omega) (by omega) (by have hb9 := hbs; simp at hb9 ⊢; omega) ?_))
          intro v7 w9 ho9 hg9
          have hO9 := (hO5.more (Ext.alloc (w10) (.cells (y : Order).cells.toArray 51))).app hg9 ho9
          clear hO5 ho9 hg9 r0 r1 r2 r3 rf rl
          go_wp2_with fail
          go_roundw
          case rel => exact ⟨j - 1, _, by omega, by go_num, by simp; omega, hO9⟩
          case measure => simp [intOf]; omega
      · have hV := (VSt.alloc hO [.int .i64 0, .int .i64 0, .int .i64 0, .int .i64 0]).more (Ext.refl _).drew
        have hsm : SameC [(w1.heap.size, 0)] wr (wr.alloc (.cells #[.int .i64 0, .int .i64 0, .int .i64 0, .int .i64 0] 51)).drew := SameC.of_ext ((Ext.alloc _ _).drew) (by have := hO.net.var.lt; simp; omega)
        clear hO
        go_wp2_with fail
        refine ⟨hsm, ?_⟩
        repeat (go_big_quiet_step (fail))
        refine wpQuiet_nil ?_
        go_wp2_with fail
        refine (c_next (3) hV.st.net.src (by omega) (by omega)).mono ?_
        rintro e w4 ⟨x4, rfl, hx4, hx4', hs, ho⟩
        have hsm' := hsm.trans (SameC.of_only ho (by have h8 := hV.st.net.hg; have h9 := hV.st.net.var.lt; simp at h9 ⊢; omega))
        have hV' := hV.draw hs ho
        clear hsm hV hs ho
        have hsm := hsm'
        have hV := hV'
        clear hsm' hV'
        go_wp2_with fail
        refine ⟨hsm, ?_⟩
        repeat (go_big_quiet_step (fail))
        refine wpQuiet_nil ?_
        go_wp2_with fail
        refine (c_next ((ns.length : Int)) hV.st.net.src (by omega) (by omega)).mono ?_
        rintro e w5 ⟨x5, rfl, hx5, hx5', hs, ho⟩
        have hsm' := hsm.trans (SameC.of_only ho (by have h8 := hV.st.net.hg; have h9 := hV.st.net.var.lt; simp at h9 ⊢; omega))
        have hV' := hV.draw hs ho
        clear hsm hV hs ho
        have hsm := hsm'
        have hV := hV'
        clear hsm' hV'
        go_wp2_with fail
        refine ⟨hsm, ?_⟩
        repeat (go_big_quiet_step (fail))
        refine wpQuiet_nil ?_
        go_wp2_with fail
        refine (c_next (60) hV.st.net.src (by omega) (by omega)).mono ?_
        rintro e w6 ⟨x6, rfl, hx6, hx6', hs, ho⟩
        have hsm' := hsm.trans (SameC.of_only ho (by have h8 := hV.st.net.hg; have h9 := hV.st.net.var.lt; simp at h9 ⊢; omega))
        have hV' := hV.draw hs ho
        clear hsm hV hs ho
        have hsm := hsm'
        have hV := hV'
        clear hsm' hV'
        have e6 : IntKind.i64.wrap (x6 - 30) = x6 - 30 := IntWalk.i64_in _ (by omega)
        go_wp2_with fail
        refine ⟨hsm, ?_⟩
        repeat (go_big_quiet_step (fail))
        refine wpQuiet_nil ?_
        go_wp2_with fail
        refine (c_next (4) hV.st.net.src (by omega) (by omega)).mono ?_
        rintro e w7 ⟨x7, rfl, hx7, hx7', hs, ho⟩
        have hsm' := hsm.trans (SameC.of_only ho (by have h8 := hV.st.net.hg; have h9 := hV.st.net.var.lt; simp at h9 ⊢; omega))
        have hV' := hV.draw hs ho
        clear hsm hV hs ho
        have hsm := hsm'
        have hV := hV'
        clear hsm' hV'
        go_wp2_with fail
        refine ⟨hsm, ?_⟩
        repeat (go_big_quiet_step (fail))
        refine wpQuiet_nil ?_
        have q0 := hV.var.cell 0
        have q1 := hV.var.cell 1
        have q2 := hV.var.cell 2
        have q3 := hV.var.cell 3
        simp at q0 q1 q2 q3
        have qf := hV.var.frozen
        have ql := hV.var.lt
        have hlo := hV.lo
        have hsm8 := (((hsm.setCell (p := ⟨wr.heap.size, 0, none⟩) (by first | (simp; done) | (simp; omega)) (.int .i64 x4)).setCell (p := ⟨wr.heap.size, 1, none⟩) (by first | (simp; done) | (simp; omega)) (.int .i64 x5)).setCell (p := ⟨wr.heap.size, 2, none⟩) (by first | (simp; done) | (simp; omega)) (.int .i64 (x6 - 30))).setCell (p := ⟨wr.heap.size, 3, none⟩) (by first | (simp; done) | (simp; omega)) (.int .i64 x7)
        have hV8 : VSt w0 w a A n c w1.heap.size (.slice A1 ns.length c1) (.slice A2 ps.length c2) u6 ns ps xs (wr.heap.size) (Order.cells (⟨x4, x5, x6 - 30, x7⟩)) (((((w7).setCell ⟨wr.heap.size, 0, none⟩ (.int .i64 x4)).setCell ⟨wr.heap.size, 1, none⟩ (.int .i64 x5)).setCell ⟨wr.heap.size, 2, none⟩ (.int .i64 (x6 - 30))).setCell ⟨wr.heap.size, 3, none⟩ (.int .i64 x7)) := (((hV.set 0 (.int .i64 x4)).set 1 (.int .i64 x5)).set 2 (.int .i64 (x6 - 30))).set 3 (.int .i64 x7)
        clear hV hsm
        go_wp2_with fail
        obtain ⟨W8, HW8⟩ : ∃ W8, Hid (((((w7).setCell ⟨wr.heap.size, 0, none⟩ (.int .i64 x4)).setCell ⟨wr.heap.size, 1, none⟩ (.int .i64 x5)).setCell ⟨wr.heap.size, 2, none⟩ (.int .i64 (x6 - 30))).setCell ⟨wr.heap.size, 3, none⟩ (.int .i64 x7) = W8) := ⟨_, hide rfl⟩
        rw [HW8.out] at hV8 hsm8 ⊢
        refine ⟨hsm8, wpQuiet_nil ?_⟩
        clear hsm8 q0 q1 q2 q3 qf ql
        obtain ⟨y, hy⟩ : ∃ y : Order, (⟨x4, x5, x6 - 30, x7⟩ : Order) = y := ⟨_, rfl⟩
        rw [hy] at hV8
        have hV := hV8
        clear hV8 hy p0 p1 pf pl
        go_wp2_with fail
        refine (c_next 120 hV.st.net.src (by omega) (by omega)).mono ?_
        rintro e w10 ⟨x, rfl, hx0, hxk, hs, ho⟩
        have hV' := hV.draw hs ho
        clear hV hs ho
        have hV := hV'
        clear hV'
        by_cases h0 : x = 0
        · subst h0
          have hVm := hV.more (Ext.alloc w10 (.cells #[.int .i64 (-1), .int .i64 16] 2))
          have hal10 := hV.st.net.src.lt
          clear hV
          go_wp2_with fail
          refine (c_next 2 hVm.st.net.src (by omega) (by omega)).mono ?_
          rintro e w12 ⟨z0, rfl, hz0, hz1, hs12, ho12⟩
          have hV12 := hVm.draw hs12 ho12
          have hR12 := (Row.new w10 2 [.int .i64 (-1), .int .i64 16]).only ho12 (by omega)
          obtain ⟨jj, rfl⟩ := Int.eq_ofNat_of_zero_le hz0
          have hjj : jj < 2 := by omega
          obtain ⟨z, hz⟩ : ∃ z : Int, w12.cell? ⟨w10.heap.size, jj, none⟩ = some (.int .i64 z) := by
            rw [hR12.cell]; rcases (show jj = 0 ∨ jj = 1 by omega) with rfl | rfl <;> exact ⟨_, rfl⟩
          have hb12 := hR12.lt
          clear hVm hs12 ho12 hR12 hz0 hz1
          have k0 := hV12.var.cell 0
          have k1 := hV12.var.cell 1
          have k2 := hV12.var.cell 2
          have k3 := hV12.var.cell 3
          simp [Order.cells] at k0 k1 k2 k3
          have kf := hV12.var.frozen
          have kl := hV12.var.lt
          have hV : VSt w0 w a A n c w1.heap.size (.slice A1 ns.length c1) (.slice A2 ps.length c2) u6 ns ps xs (wr.heap.size) (Order.cells (⟨z, y.node, y.amount, y.cls⟩)) (w12.setCell ⟨wr.heap.size, 0, none⟩ (.int .i64 z)) := hV12.set 0 (.int .i64 z)
          clear hV12
          have r0 := hV.var.cell 0
          have r1 := hV.var.cell 1
          have r2 := hV.var.cell 2
          have r3 := hV.var.cell 3
          simp [Order.cells] at r0 r1 r2 r3
          have rf := hV.var.frozen
          have rl := hV.var.lt
          have hvl := hV.st.net.var.lt
          have hbs : w.heap.size + 1 ≤ (w12.setCell ⟨wr.heap.size, 0, none⟩ (.int .i64 z)).heap.size := by omega
          have hO5 := hV.st
          clear hV
          go_wp2_with (at_builtin; go_must (refine wpList_append_grow rfl _ _ 28 rfl (w.heap.size + 1) 51 _ 4 32 Try.underlying28 order_info rfl (by decide) Order.cells order_len order_one _ _ rfl (hO5.o3.ext (Ext.alloc _ _)) _ 1 1 [⟨z, y.node, y.amount, y.cls⟩] rfl (new_oneG order_len (w12.setCell ⟨wr.heap.size, 0, none⟩ (.int .i64 z)) 51 ⟨z, y.node, y.amount, y.cls⟩ (by simp)) (by simp; omega) (by omega) (by have hb9 := hbs; simp at hb9 ⊢; omega) ?_))
          intro v7 w9 ho9 hg9
          have hO9 := (hO5.more (Ext.alloc (w12.setCell ⟨wr.heap.size, 0, none⟩ (.int .i64 z)) (.cells (⟨z, y.node, y.amount, y.cls⟩ : Order).cells.toArray 51))).app hg9 ho9
          clear hO5 ho9 hg9 r0 r1 r2 r3 rf rl
          go_wp2_with fail
          go_roundw
          case rel => exact ⟨j - 1, _, by omega, by go_num, by simp; omega, hO9⟩
          case measure => simp [intOf]; omega
        have b0 : (x == 0) = false := by rw [beq_eq_false_iff_ne]; exact h0
        by_cases h1 : x = 1
        · subst h1
          have k0 := hV.var.cell 0
          have k1 := hV.var.cell 1
          have k2 := hV.var.cell 2
          have k3 := hV.var.cell 3
          simp [Order.cells] at k0 k1 k2 k3
          have kf := hV.var.frozen
          have kl := hV.var.lt
          have p0 := hV.st.net.var.cell 0
          have p1 := hV.st.net.var.cell 1
          simp at p0 p1
          have pf := hV.st.net.var.frozen
          have pl := hV.st.net.var.lt
          have hVs : VSt w0 w a A n c w1.heap.size (.slice A1 ns.length c1) (.slice A2 ps.length c2) u6 ns ps xs (wr.heap.size) (Order.cells (⟨y.shipper, ns.length, y.amount, y.cls⟩)) (w10.setCell ⟨wr.heap.size, 1, none⟩ (.int .i64 (ns.length : Int))) := hV.set 1 (.int .i64 (ns.length : Int))
          clear hV
          have hV := hVs
          clear hVs
          have r0 := hV.var.cell 0
          have r1 := hV.var.cell 1
          have r2 := hV.var.cell 2
          have r3 := hV.var.cell 3
          simp [Order.cells] at r0 r1 r2 r3
          have rf := hV.var.frozen
          have rl := hV.var.lt
          have hvl := hV.st.net.var.lt
          have hbs : w.heap.size + 1 ≤ (w10.setCell ⟨wr.heap.size, 1, none⟩ (.int .i64 (ns.length : Int))).heap.size := by omega
          have hO5 := hV.st
          clear hV
          go_wp2_with (at_builtin; go_must (refine wpList_append_grow rfl _ _ 28 rfl (w.heap.size + 1) 51 _ 4 32 Try.underlying28 order_info rfl (by decide) Order.cells order_len order_one _ _ rfl (hO5.o3.ext (Ext.alloc _ _)) _ 1 1 [⟨y.shipper, ns.length, y.amount, y.cls⟩] rfl (new_oneG order_len (w10.setCell ⟨wr.heap.size, 1, none⟩ (.int .i64 (ns.length : Int))) 51 ⟨y.shipper, ns.length, y.amount, y.cls⟩ (by simp)) (by simp; omega) (by omega) (by have hb9 := hbs; simp at hb9 ⊢; omega) ?_))
          intro v7 w9 ho9 hg9
          have hO9 := (hO5.more (Ext.alloc (w10.setCell ⟨wr.heap.size, 1, none⟩ (.int .i64 (ns.length : Int))) (.cells (⟨y.shipper, ns.length, y.amount, y.cls⟩ : Order).cells.toArray 51))).app hg9 ho9
          clear hO5 ho9 hg9 r0 r1 r2 r3 rf rl
          go_wp2_with fail
          go_roundw
          case rel => exact ⟨j - 1, _, by omega, by go_num, by simp; omega, hO9⟩
          case measure => simp [intOf]; omega
        have b1 : (x == 1) = false := by rw [beq_eq_false_iff_ne]; exact h1
        by_cases h2 : x = 2
        · subst h2
          have hVm := hV.more (Ext.alloc w10 (.cells #[.int .i64 30000, .int .i64 30001, .int .i64 (-30000)] 2))
          have hal10 := hV.st.net.src.lt
          clear hV
          go_wp2_with fail
          refine (c_next 3 hVm.st.net.src (by omega) (by omega)).mono ?_
          rintro e w12 ⟨z0, rfl, hz0, hz1, hs12, ho12⟩
          have hV12 := hVm.draw hs12 ho12
          have hR12 := (Row.new w10 2 [.int .i64 30000, .int .i64 30001, .int .i64 (-30000)]).only ho12 (by omega)
          obtain ⟨jj, rfl⟩ := Int.eq_ofNat_of_zero_le hz0
          have hjj : jj < 3 := by omega
          obtain ⟨z, hz⟩ : ∃ z : Int, w12.cell? ⟨w10.heap.size, jj, none⟩ = some (.int .i64 z) := by
            rw [hR12.cell]; rcases (show jj = 0 ∨ jj = 1 ∨ jj = 2 by omega) with rfl | rfl | rfl <;> exact ⟨_, rfl⟩
          have hb12 := hR12.lt
          clear hVm hs12 ho12 hR12 hz0 hz1
          have k0 := hV12.var.cell 0
          have k1 := hV12.var.cell 1
          have k2 := hV12.var.cell 2
          have k3 := hV12.var.cell 3
          simp [Order.cells] at k0 k1 k2 k3
          have kf := hV12.var.frozen
          have kl := hV12.var.lt
          have hV : VSt w0 w a A n c w1.heap.size (.slice A1 ns.length c1) (.slice A2 ps.length c2) u6 ns ps xs (wr.heap.size) (Order.cells (⟨y.shipper, y.node, z, y.cls⟩)) (w12.setCell ⟨wr.heap.size, 2, none⟩ (.int .i64 z)) := hV12.set 2 (.int .i64 z)
          clear hV12
          have r0 := hV.var.cell 0
          have r1 := hV.var.cell 1
          have r2 := hV.var.cell 2
          have r3 := hV.var.cell 3
          simp [Order.cells] at r0 r1 r2 r3
          have rf := hV.var.frozen
          have rl := hV.var.lt
          have hvl := hV.st.net.var.lt
          have hbs : w.heap.size + 1 ≤ (w12.setCell ⟨wr.heap.size, 2, none⟩ (.int .i64 z)).heap.size := by omega
          have hO5 := hV.st
          clear hV
          go_wp2_with (at_builtin; go_must (refine wpList_append_grow rfl _ _ 28 rfl (w.heap.size + 1) 51 _ 4 32 Try.underlying28 order_info rfl (by decide) Order.cells order_len order_one _ _ rfl (hO5.o3.ext (Ext.alloc _ _)) _ 1 1 [⟨y.shipper, y.node, z, y.cls⟩] rfl (new_oneG order_len (w12.setCell ⟨wr.heap.size, 2, none⟩ (.int .i64 z)) 51 ⟨y.shipper, y.node, z, y.cls⟩ (by simp)) (by simp; omega) (by omega) (by have hb9 := hbs; simp at hb9 ⊢; omega) ?_))
          intro v7 w9 ho9 hg9
          have hO9 := (hO5.more (Ext.alloc (w12.setCell ⟨wr.heap.size, 2, none⟩ (.int .i64 z)) (.cells (⟨y.shipper, y.node, z, y.cls⟩ : Order).cells.toArray 51))).app hg9 ho9
          clear hO5 ho9 hg9 r0 r1 r2 r3 rf rl
          go_wp2_with fail
          go_roundw
          case rel => exact ⟨j - 1, _, by omega, by go_num, by simp; omega, hO9⟩
          case measure => simp [intOf]; omega
        have b2 : (x == 2) = false := by rw [beq_eq_false_iff_ne]; exact h2
        by_cases h3 : x = 3
        · subst h3
          have k0 := hV.var.cell 0
          have k1 := hV.var.cell 1
          have k2 := hV.var.cell 2
          have k3 := hV.var.cell 3
          simp [Order.cells] at k0 k1 k2 k3
          have kf := hV.var.frozen
          have kl := hV.var.lt
          have hVs : VSt w0 w a A n c w1.heap.size (.slice A1 ns.length c1) (.slice A2 ps.length c2) u6 ns ps xs (wr.heap.size) (Order.cells (⟨y.shipper, y.node, y.amount, 4⟩)) (w10.setCell ⟨wr.heap.size, 3, none⟩ (.int .i64 4)) := hV.set 3 (.int .i64 4)
          clear hV
          have hV := hVs
          clear hVs
          have r0 := hV.var.cell 0
          have r1 := hV.var.cell 1
          have r2 := hV.var.cell 2
          have r3 := hV.var.cell 3
          simp [Order.cells] at r0 r1 r2 r3
          have rf := hV.var.frozen
          have rl := hV.var.lt
          have hvl := hV.st.net.var.lt
          have hbs : w.heap.size + 1 ≤ (w10.setCell ⟨wr.heap.size, 3, none⟩ (.int .i64 4)).heap.size := by omega
          have hO5 := hV.st
          clear hV
          go_wp2_with (at_builtin; go_must (refine wpList_append_grow rfl _ _ 28 rfl (w.heap.size + 1) 51 _ 4 32 Try.underlying28 order_info rfl (by decide) Order.cells order_len order_one _ _ rfl (hO5.o3.ext (Ext.alloc _ _)) _ 1 1 [⟨y.shipper, y.node, y.amount, 4⟩] rfl (new_oneG order_len (w10.setCell ⟨wr.heap.size, 3, none⟩ (.int .i64 4)) 51 ⟨y.shipper, y.node, y.amount, 4⟩ (by simp)) (by simp; omega) (by omega) (by have hb9 := hbs; simp at hb9 ⊢; omega) ?_))
          intro v7 w9 ho9 hg9
          have hO9 := (hO5.more (Ext.alloc (w10.setCell ⟨wr.heap.size, 3, none⟩ (.int .i64 4)) (.cells (⟨y.shipper, y.node, y.amount, 4⟩ : Order).cells.toArray 51))).app hg9 ho9
          clear hO5 ho9 hg9 r0 r1 r2 r3 rf rl
          go_wp2_with fail
          go_roundw
          case rel => exact ⟨j - 1, _, by omega, by go_num, by simp; omega, hO9⟩
          case measure => simp [intOf]; omega
        have b3 : (x == 3) = false := by rw [beq_eq_false_iff_ne]; exact h3
        have r0 := hV.var.cell 0
        have r1 := hV.var.cell 1
        have r2 := hV.var.cell 2
        have r3 := hV.var.cell 3
        simp [Order.cells] at r0 r1 r2 r3
        have rf := hV.var.frozen
        have rl := hV.var.lt
        have hvl := hV.st.net.var.lt
        have hbs : w.heap.size + 1 ≤ (w10).heap.size := by omega
        have hO5 := hV.st
        clear hV
        go_wp2_with (at_builtin; go_must (refine wpList_append_grow rfl _ _ 28 rfl (w.heap.size + 1) 51 _ 4 32 Try.underlying28 order_info rfl (by decide) Order.cells order_len order_one _ _ rfl (hO5.o3.ext (Ext.alloc _ _)) _ 1 1 [y] rfl (new_oneG order_len (w10) 51 y (by simp)) (by simp; omega) (by omega) (by have hb9 := hbs; simp at hb9 ⊢; omega) ?_))
        intro v7 w9 ho9 hg9
        have hO9 := (hO5.more (Ext.alloc (w10) (.cells (y : Order).cells.toArray 51))).app hg9 ho9
        clear hO5 ho9 hg9 r0 r1 r2 r3 rf rl
        go_wp2_with fail
        go_roundw
        case rel => exact ⟨j - 1, _, by omega, by go_num, by simp; omega, hO9⟩
        case measure => simp [intOf]; omega
    · obtain rfl : j = 0 := by omega
      go_wp2_with fail
      refine (c_next 60 hD.net.src (by omega) (by omega)).mono ?_
      rintro e w3 ⟨x3, rfl, hx3, hx3', hs3, ho3⟩
      have hD3 := hD.draw hs3 ho3
      clear hD hs3 ho3
      by_cases h3 : x3 = 0
      · subst h3
        go_wp2_with fail
        refine (c_next 2 hD3.net.src (by omega) (by omega)).mono ?_
        rintro e w4 ⟨x4, rfl, hx4, hx4', hs4, ho4⟩
        have hD4 := hD3.draw hs4 ho4
        clear hD3 hs4 ho4
        obtain ⟨k4, rfl⟩ := Int.eq_ofNat_of_zero_le hx4
        have hk4 : k4 ≤ 1 := by omega
        obtain ⟨K, hK⟩ : ∃ K : Nat, K = 40 + k4 := ⟨_, rfl⟩
        have e8 : IntKind.i64.wrap (40 + (k4 : Int)) = (K : Int) := by rw [IntWalk.i64_in _ (by omega)]; omega
        have hK41 : K ≤ 41 := by omega
        clear hK
        have hmk := run_make_flat (P := Try.prog) 28 51 [.int .i64 0, .int .i64 0, .int .i64 0, .int .i64 0] _ 4 32 Try.underlying28 order_info (f := Order.cells) ⟨0, 0, 0, 0⟩ rfl rfl rfl (by omega) K (by omega) (by omega) w4
        have hR : RowOf (w4.alloc (.cells ((List.replicate K (⟨0, 0, 0, 0⟩ : Order)).flatMap Order.cells).toArray 51)) w4.heap.size 51 Order.cells (List.replicate K ⟨0, 0, 0, 0⟩) := Row.new w4 51 _
        have hO5 := OwnL.of_row (base := w.heap.size + 1) hR order_len (by have := hD4.net.var.lt; omega) (by simp; omega)
        have hD := hD4.new (Ext.alloc _ _) hO5
        have hxs : (List.replicate K (⟨0, 0, 0, 0⟩ : Order)).length = K := List.length_replicate
        rw [hxs] at hD
        generalize List.replicate K (⟨0, 0, 0, 0⟩ : Order) = ys at *
        generalize (ys.flatMap Order.cells).toArray = yc at *
        clear hD4 hR hO5
        have p0 := hD.net.var.cell 0
        have p1 := hD.net.var.cell 1
        simp at p0 p1
        have pf := hD.net.var.frozen
        have pl := hD.net.var.lt
        have q0 := hD.net.res.cell 0
        have q1 := hD.net.res.cell 1
        simp at q0 q1
        have qf := hD.net.res.frozen
        have ql := hD.net.res.lt
        have HF := hide (hD.fin (by omega) (by omega) (by omega))
        clear hD
        go_wp2_with fail
        refine bodyPost_ret (v := .tuple #[.agg #[.slice A1 ns.length c1, .slice A2 ps.length c2], .slice (some ⟨w4.heap.size, 0, none⟩) K K]) (by simp [results, Try.results27, go_sem, q0, q1]) rfl ?_
        exact HF.out
      · have b3 : (x3 == 0) = false := by rw [beq_eq_false_iff_ne]; exact h3
        have hD := hD3
        clear hD3
        obtain ⟨A3, c3, rfl, _⟩ := hD.o3.form
        have p0 := hD.net.var.cell 0
        have p1 := hD.net.var.cell 1
        simp at p0 p1
        have pf := hD.net.var.frozen
        have pl := hD.net.var.lt
        have q0 := hD.net.res.cell 0
        have q1 := hD.net.res.cell 1
        simp at q0 q1
        have qf := hD.net.res.frozen
        have ql := hD.net.res.lt
        have HF := hide (hD.fin (by omega) (by omega) (by omega))
        clear hD
        go_wp2_with fail
        refine bodyPost_ret (v := .tuple #[.agg #[.slice A1 ns.length c1, .slice A2 ps.length c2], .slice A3 xs.length c3]) (by simp [results, Try.results27, go_sem, q0, q1]) rfl ?_
        exact HF.out
end
end Go.Proofs.Ytegkeeeohileiaa
