/-
  The transports of an hour, of the reference, exactly. Two orders for each contract, of the reference, exactly. The reference's draw of a network that may be wrong. Sums of numbers, of the program and of the reference.
-/
import Derived.Test.YtfkpghdmljjegaaGreatVb13
import Derived.Test.YtfkpghdmljjegaaGreatVb20
import Derived.Test.YtfkpghdmljjegaaGreatVb07
import Derived.Test.YtfkpghdmljjegaaGreatVb04
import Derived.Test.YtfkpghdmljjegaaGreatVb08
import Derived.Test.YtfkpghdmljjegaaGreatVb01
namespace Go.Proofs.YtfkpghdmljjegaaGreat
open Go.RowKit
theorem zip_step {α β γ : Type} {f : α → β → γ} {xs : List α} {ys : List β} {k : Nat} {x : α} {y : β} (hx : xs[k]? = some x) (hy : ys[k]? = some y) : (List.zipWith f xs ys).take (k + 1) = (List.zipWith f xs ys).take k ++ [f x y] := by
  rw [List.take_add_one, List.getElem?_zipWith, hx, hy]; rfl
/-- cells that an append leaves -/
theorem same_grown {bs : List (Nat × Nat)} {wr W w2 : World} {v : Value} (hxa : Ext wr W) (hg : W.grownBy w2 v.ownBlock) (h : ∀ p ∈ bs, p.1 < wr.heap.size ∧ ∀ j, v.ownBlock = some j → p.1 ≠ j) : SameC bs wr w2 := by
  intro p hp
  obtain ⟨h1, h2⟩ := h p hp
  have h3 := hxa.size
  exact (World.cell?_of_block (w := W) (hg.block p.1 (by omega) (fun e => h2 p.1 e.symm rfl))).trans (hxa.cell _ _ h1)
set_option maxHeartbeats 1000000 in
theorem c_l31Transports (A : Option Addr) (n c : Nat) (xs : List Contract) (B : Option Addr) (m d : Nat) (L : List Nomination) (w : World) (hs : SliceOf w 8 Contract.cells A n c xs) (hL : SliceOf w 4 Nomination.cells B m d L) (hn : n ≤ 100000) (hin : ∀ x ∈ L, 0 ≤ x.contract ∧ x.contract < n) (h : Int) :
    Calls Tryz.prog 101 #[.slice A n c, .slice B m d, .int .i64 h] w (RetT (fun E => E = trnL xs L h) w) := by
  have HLN := hide hs.len
  go_enter Tryz.func101, Tryz.ntmps101
  go_wp2_with fail
  refine (c_l21Amounts A n c B m d L w hL hn hin h).mono ?_
  rintro e w1 ⟨v1, am, rfl, ho1, HE, hx1⟩
  have hal : am.length = n := by rw [HE.out]; exact amtL_len _
  obtain ⟨A4, c4, rfl, hs4⟩ := ho1.sl intC_len (by omega)
  rw [hal] at hs4
  rw [hal]
  have HTL : Hid (List.zipWith trnOf xs am = trnL xs L h) := hide (by unfold trnL; rw [HE.out, ← HLN.out])
  have hs1 := hs.ext hx1
  have hO0 : OwnL (w1.alloc (.cells #[] 201)) w1.heap.size 201 4 Trn.cells (.slice (some ⟨w1.heap.size, 0, none⟩) 0 0) [] := own_new w1 w1.heap.size _ _ _ _ rfl (Nat.le_refl _)
  have hw1 := hx1.size
  clear ho1 hin hs hL
  go_wp2_with fail
  go_loopw [8, 9] (fun v i wr => ∃ (k : Nat) (T : List Trn), k ≤ n ∧ i = .int .i64 k ∧ T.length = k ∧ Hid (T = (List.zipWith trnOf xs am).take k) ∧ OwnL wr w1.heap.size 201 4 Trn.cells v T ∧ Ext w1 wr) (fun _ i _ => n - (intOf i).toNat)
  case atStart => exact ⟨0, [], Nat.zero_le _, rfl, rfl, hide rfl, hO0, Ext.alloc _ _⟩
  case round =>
    clear hO0
    obtain ⟨k, T, hk, rfl, hTk, HT, ho, hx⟩ := hrel
    by_cases hlt : k < n
    · obtain ⟨b, off, x, hA, hb, hxk, hc⟩ := (hs1.ext hx).get hlt
      have hc1 := hc 1 _ rfl
      have hc2 := hc 2 _ rfl
      have hc4 := hc 4 _ rfl
      clear hc
      subst hA
      obtain ⟨ba, oa, a, hB, hba, hak, hca⟩ := (hs4.ext hx).get hlt
      have hca0 := hca 0 _ rfl
      clear hca
      subst hB
      simp only [Nat.add_zero, Nat.mul_one] at hca0
      have hbw : b < w1.heap.size := hs1.blk (b := b) (by unfold blkOf; rw [if_neg (by omega)]; rfl)
      have hbaw : ba < w1.heap.size := hs4.blk (b := ba) (by unfold blkOf; rw [if_neg (by omega)]; rfl)
      have hxw := hx.size
      have HST : Hid ((List.zipWith trnOf xs am).take (k + 1) = T ++ [⟨x.entry, x.exit, a, x.cls⟩]) := hide (by rw [zip_step hxk hak, ← HT.out]; rfl)
      have HOB : Hid (∀ j, u8.ownBlock = some j → w1.heap.size ≤ j) := hide (fun j hj => ho.block_le hj)
      clear hxk hak
      go_wp2_with fail
      refine wp_region_phC [(b, off + k * 8 + 1), (b, off + k * 8 + 2), (ba, oa + k), (b, off + k * 8 + 4)] [([0, 1, 2, 3, 4, 5, 6, 7, 8, 9, 10, 11, 12, 13, 14, 15, 16, 17, 18, 19, 20], 21), ([], 22)] [23] (by kernel_rfl) (by kernel_rfl) (by intro c a w d v h; cases d <;> exact h) ?_
      simp only [wpPhC, pickL, nthO]
      repeat (go_big_quiet_step (fail))
      refine wpQuiet_nil ?_
      go_wp2_with fail
      obtain ⟨W, HW⟩ : ∃ W, Hid ((wr.alloc (.cells #[.int .i64 x.entry, .int .i64 x.exit, .int .i64 a, .int .i64 x.cls] 201)).drew = W) := ⟨_, hide rfl⟩
      rw [HW.out]
      have hxa : Ext wr W := by rw [← HW.out]; exact ((Ext.refl wr).and_alloc _).drew
      have hxz := hxa.size
      have hWn : SliceOf W 4 Trn.cells (some ⟨wr.heap.size, 0, none⟩) 1 1 [⟨x.entry, x.exit, a, x.cls⟩] := by rw [← HW.out]; exact (new_trn wr ⟨x.entry, x.exit, a, x.cls⟩ rfl).ext (Ext.refl _).drew
      refine ⟨SameC.of_ext hxa (by simp; omega), wpQuiet_nil ?_⟩
      go_wp2_with (at_builtin; go_must (refine wpList_append_where rfl _ _ 118 rfl w1.heap.size 201 _ 4 32 Tryz.underlying118 trn_info rfl (by decide) Trn.cells trn_len trn_one _ T rfl (ho.ext hxa) wr.heap.size 0 1 1 [⟨x.entry, x.exit, a, x.cls⟩] rfl hWn (by omega) (by omega) (by omega) ?_))
      intro v2 w2 ho2 hg2 _
      have hx2 := (hx.trans hxa).grown hg2 (fun k hk => ho.block_le hk)
      have hsm := same_grown (bs := [(b, off + k * 8 + 1), (b, off + k * 8 + 2), (ba, oa + k), (b, off + k * 8 + 4)]) hxa hg2 (by
        intro p hp
        simp only [List.mem_cons, List.not_mem_nil, or_false] at hp
        rcases hp with rfl | rfl | rfl | rfl <;> exact ⟨by show _ < _; omega, fun j hj => by have := HOB.out j hj; show _ ≠ j; omega⟩)
      rw [← HST.out] at ho2
      clear ho hg2 hxa hc1 hc2 hc4 hca0
      go_wp2_with fail
      refine ⟨hsm, ?_⟩
      repeat (go_big_quiet_step (fail))
      refine wpQuiet_nil ?_
      go_wp2_with fail
      go_roundw
      case rel => exact ⟨k + 1, _, by omega, by go_num, by rw [HST.out]; simp; omega, hide rfl, ho2, hx2⟩
      case measure => simp [intOf]; omega
    · go_wp2_with fail
      go_ret
      refine ⟨_, T, rfl, ho.lowG (by omega), hide ?_, hx1.trans hx⟩
      rw [HT.out, List.take_of_length_le (by rw [List.length_zipWith, ← HLN.out, hal]; omega)]
      exact HTL.out
end Go.Proofs.YtfkpghdmljjegaaGreat

namespace Go.Proofs.YtfkpghdmljjegaaGreat
open Go.RowKit
def ordC2 (c : Contract) (a : Int) : List Order := [⟨c.shipper, c.entry, a, c.cls⟩, ⟨c.shipper, c.exit, -a, c.cls⟩]
def ordL (xs : List Contract) (am : List Int) : List Order := (List.zipWith ordC2 xs am).flatten
theorem ordL_step {xs : List Contract} {am : List Int} {k : Nat} {x : Contract} {a : Int} (hx : xs[k]? = some x) (ha : am[k]? = some a) : ordL (xs.take (k + 1)) (am.take (k + 1)) = ordL (xs.take k) (am.take k) ++ ordC2 x a := by
  obtain ⟨h1, _⟩ := List.getElem?_eq_some_iff.1 hx
  obtain ⟨h2, _⟩ := List.getElem?_eq_some_iff.1 ha
  unfold ordL
  rw [List.take_add_one, hx, List.take_add_one, ha, Option.toList_some, Option.toList_some, List.zipWith_append (by rw [List.length_take, List.length_take]; omega), List.flatten_append]
  simp
theorem ordL_len (xs : List Contract) (am : List Int) (h : am.length = xs.length) : (ordL xs am).length = 2 * xs.length := by
  unfold ordL
  induction xs generalizing am with
  | nil => cases am <;> simp
  | cons x xs ih =>
    cases am with
    | nil => simp at h
    | cons a am =>
      have := ih am (by simpa using h)
      rw [List.zipWith_cons_cons, List.flatten_cons, List.length_append, this]
      simp [ordC2]; omega
/-- what an orders' list returns -/
def RetO (Q : List Order → Prop) (w : World) (e : Ending) (w' : World) : Prop :=
  ∃ v E, e = .returned v ∧ OwnL w' w.heap.size 199 4 Order.cells v E ∧ Hid (Q E) ∧ Ext w w'
theorem new_ord (W : World) (x : Order) {g : Nat} (hg : g = W.heap.size) : SliceOf (W.alloc (.cells #[.int .i64 x.shipper, .int .i64 x.node, .int .i64 x.amount, .int .i64 x.cls] 199)) 4 Order.cells (some ⟨g, 0, none⟩) 1 1 [x] := by
  subst hg; exact new_one order_len W 199 x
theorem ord_bd {a : Int} (h : 0 ≤ a ∧ a ≤ 30000) : IntKind.i64.wrap (-a) = -a := IntWalk.i64_in _ (by omega)
set_option maxHeartbeats 2000000 in
theorem c_l22Orders (A : Option Addr) (n c : Nat) (xs : List Contract) (B : Option Addr) (d : Nat) (am : List Int) (w : World) (hs : SliceOf w 8 Contract.cells A n c xs) (hsa : SliceOf w 1 intC B n d am) (hn : n ≤ 100000) (hb : ∀ z ∈ am, 0 ≤ z ∧ z ≤ 30000) :
    Calls Tryz.prog 194 #[.slice A n c, .slice B n d] w (RetO (fun E => E = ordL xs am) w) := by
  have HB := hide hb
  have HLX := hide hs.len
  have HLA := hide hsa.len
  clear hb
  have hO0 : OwnL (w.alloc (.cells #[] 199)) w.heap.size 199 4 Order.cells (.slice (some ⟨w.heap.size, 0, none⟩) 0 0) [] := own_new w w.heap.size _ _ _ _ rfl (Nat.le_refl _)
  go_enter Tryz.func194, Tryz.ntmps194
  go_wp2_with fail
  go_loopw [5, 6] (fun v i wr => ∃ (k : Nat) (T : List Order), k ≤ n ∧ i = .int .i64 k ∧ T.length = 2 * k ∧ Hid (T = ordL (xs.take k) (am.take k)) ∧ OwnL wr w.heap.size 199 4 Order.cells v T ∧ Ext w wr) (fun _ i _ => n - (intOf i).toNat)
  case atStart => exact ⟨0, [], Nat.zero_le _, rfl, rfl, hide (by simp [ordL]), hO0, Ext.alloc _ _⟩
  case round =>
    clear hO0
    obtain ⟨k, T, hk, rfl, hTk, HT, ho, hx⟩ := hrel
    by_cases hlt : k < n
    · obtain ⟨b, off, x, hA, hb, hxk, hc⟩ := (hs.ext hx).get hlt
      have hc0 := hc 0 _ rfl
      have hc1 := hc 1 _ rfl
      have hc2 := hc 2 _ rfl
      have hc3 := hc 3 _ rfl
      have hc4 := hc 4 _ rfl
      have hc5 := hc 5 _ rfl
      have hc6 := hc 6 _ rfl
      have hc7 := hc 7 _ rfl
      clear hc
      subst hA
      obtain ⟨ba, oa, a, hB, hba, hak, hca⟩ := (hsa.ext hx).get hlt
      have hca0 := hca 0 _ rfl
      clear hca
      subst hB
      simp only [Nat.add_zero, Nat.mul_one] at hca0 hc0
      have hbaw : ba < w.heap.size := hsa.blk (b := ba) (by unfold blkOf; rw [if_neg (by omega)]; rfl)
      have hxw := hx.size
      have e1 := ord_bd (HB.out a (List.mem_of_getElem? hak))
      have HST : Hid (ordL (xs.take (k + 1)) (am.take (k + 1)) = T ++ [⟨x.shipper, x.entry, a, x.cls⟩, ⟨x.shipper, x.exit, -a, x.cls⟩]) := hide (by rw [ordL_step hxk hak, ← HT.out]; rfl)
      have HOB : Hid (∀ j, u5.ownBlock = some j → w.heap.size ≤ j ∧ j < wr.heap.size) := hide (fun j hj => ⟨ho.block_le hj, (ho.ltG hj).2⟩)
      clear hxk hak
      go_wp2_with fail
      have hbx := Row.new wr 153 x.cells
      have hx1 : Ext wr (wr.alloc (.cells x.cells.toArray 153)) := Ext.alloc _ _
      rw [show (Obj.cells #[.int .i64 x.shipper, .int .i64 x.entry, .int .i64 x.exit, .int .i64 x.amount, .int .i64 x.cls, .int .i64 x.start, .int .i64 x.stop, .int .i64 x.price] 153) = .cells x.cells.toArray 153 from rfl]
      obtain ⟨g, hg⟩ : ∃ g, wr.heap.size = g := ⟨_, rfl⟩
      generalize (wr.alloc (.cells x.cells.toArray 153)) = W1 at *
      have hca1 := (hx1.cell _ _ hba).trans hca0
      have q0 := hbx.cell 0
      have q1 := hbx.cell 1
      have q2 := hbx.cell 2
      have q4 := hbx.cell 4
      simp [Contract.cells] at q0 q1 q2 q4
      have hbl := hbx.lt
      have ho1 := ho.ext hx1
      have hX1 := hx.trans hx1
      rw [hg] at hbl q0 q1 q2 q4 HOB ⊢
      clear hx ho hca0 hba hx1 hb hc0 hc1 hc2 hc3 hc4 hc5 hc6 hc7 hbx
      refine wp_region_phC [(g, 0), (g, 1), (ba, oa + k), (g, 4)] [([0, 1, 2, 3, 4, 5, 6, 7, 8, 9, 10, 11], 12), ([], 13)] [14] (by kernel_rfl) (by kernel_rfl) (by intro c a w d v h; cases d <;> exact h) ?_
      simp only [wpPhC, pickL, nthO]
      repeat (go_big_quiet_step (fail))
      refine wpQuiet_nil ?_
      go_wp2_with fail
      obtain ⟨W, HW⟩ : ∃ W, Hid ((W1.alloc (.cells #[.int .i64 x.shipper, .int .i64 x.entry, .int .i64 a, .int .i64 x.cls] 199)).drew = W) := ⟨_, hide rfl⟩
      rw [HW.out]
      have hxa : Ext W1 W := by rw [← HW.out]; exact ((Ext.refl W1).and_alloc _).drew
      have hxz := hxa.size
      have hxz1 := hX1.size
      have hWn : SliceOf W 4 Order.cells (some ⟨W1.heap.size, 0, none⟩) 1 1 [⟨x.shipper, x.entry, a, x.cls⟩] := by rw [← HW.out]; exact (new_ord W1 ⟨x.shipper, x.entry, a, x.cls⟩ rfl).ext (Ext.refl _).drew
      refine ⟨SameC.of_ext hxa (by simp; omega), wpQuiet_nil ?_⟩
      go_wp2_with (at_builtin; go_must (refine wpList_append_where rfl _ _ 25 rfl w.heap.size 199 _ 4 32 Tryz.underlying25 order_info rfl (by decide) Order.cells order_len order_one _ T rfl (ho1.ext hxa) W1.heap.size 0 1 1 [⟨x.shipper, x.entry, a, x.cls⟩] rfl hWn (by omega) (by omega) (by omega) ?_))
      intro v2 w2 ho2 hg2 hb2
      have hx2 := (hX1.trans hxa).grown hg2 (fun k hk => ho1.block_le hk)
      have hsm := same_grown (bs := [(g, 0), (g, 1), (ba, oa + k), (g, 4)]) hxa hg2 (by
        intro p hp
        simp only [List.mem_cons, List.not_mem_nil, or_false] at hp
        rcases hp with rfl | rfl | rfl | rfl <;> exact ⟨by show _ < _; omega, fun j hj => by have := HOB.out j hj; show _ ≠ j; omega⟩)
      have hsm2 := same_grown (bs := [(g, 0), (g, 2), (ba, oa + k), (g, 4)]) hxa hg2 (by
        intro p hp
        simp only [List.mem_cons, List.not_mem_nil, or_false] at hp
        rcases hp with rfl | rfl | rfl | rfl <;> exact ⟨by show _ < _; omega, fun j hj => by have := HOB.out j hj; show _ ≠ j; omega⟩)
      have t0 := (hsm2 (g, 0) (by simp)).trans q0
      have t2 := (hsm2 (g, 2) (by simp)).trans q2
      have t4 := (hsm2 (g, 4) (by simp)).trans q4
      have ta := (hsm2 (ba, oa + k) (by simp)).trans hca1
      simp only at t0 t2 t4 ta
      have HOB2 : Hid (∀ j, v2.ownBlock = some j → w.heap.size ≤ j ∧ j ≠ g) := hide (fun j hj => ⟨ho2.block_le hj, by
        rcases hb2 j hj with h | h
        · have := HOB.out j h; omega
        · omega⟩)
      have hz2 : W.heap.size ≤ w2.heap.size := hg2.size
      clear ho1 hg2 hxa q0 q1 q2 q4 hca1 hsm2 hb2
      go_wp2_with fail
      refine ⟨hsm, ?_⟩
      repeat (go_big_quiet_step (fail))
      refine wpQuiet_nil ?_
      go_wp2_with fail
      refine wp_region_phC [(g, 0), (g, 2), (ba, oa + k), (g, 4)] [([0, 1, 2, 3, 4, 5, 6, 7, 8, 9, 10, 11, 12], 13), ([], 14)] [15] (by kernel_rfl) (by kernel_rfl) (by intro c a w d v h; cases d <;> exact h) ?_
      simp only [wpPhC, pickL, nthO]
      repeat (go_big_quiet_step (fail))
      refine wpQuiet_nil ?_
      go_wp2_with fail
      obtain ⟨W', HW'⟩ : ∃ W', Hid ((w2.alloc (.cells #[.int .i64 x.shipper, .int .i64 x.exit, .int .i64 (-a), .int .i64 x.cls] 199)).drew = W') := ⟨_, hide rfl⟩
      rw [HW'.out]
      have hxa' : Ext w2 W' := by rw [← HW'.out]; exact ((Ext.refl w2).and_alloc _).drew
      have hxz' := hxa'.size
      have hWn' : SliceOf W' 4 Order.cells (some ⟨w2.heap.size, 0, none⟩) 1 1 [⟨x.shipper, x.exit, -a, x.cls⟩] := by rw [← HW'.out]; exact (new_ord w2 ⟨x.shipper, x.exit, -a, x.cls⟩ rfl).ext (Ext.refl _).drew
      refine ⟨SameC.of_ext hxa' (by simp; omega), wpQuiet_nil ?_⟩
      go_wp2_with (at_builtin; go_must (refine wpList_append_where rfl _ _ 25 rfl w.heap.size 199 _ 4 32 Tryz.underlying25 order_info rfl (by decide) Order.cells order_len order_one v2 (T ++ [⟨x.shipper, x.entry, a, x.cls⟩]) rfl (ho2.ext hxa') w2.heap.size 0 1 1 [⟨x.shipper, x.exit, -a, x.cls⟩] rfl hWn' (by simp; omega) (by omega) (by omega) ?_))
      intro v3 w3 ho3 hg3 _
      have hx3 := (hx2.trans hxa').grown hg3 (fun k hk => (HOB2.out k hk).1)
      have hsm3 := same_grown (bs := [(g, 0), (g, 2), (ba, oa + k), (g, 4)]) hxa' hg3 (by
        intro p hp
        simp only [List.mem_cons, List.not_mem_nil, or_false] at hp
        rcases hp with rfl | rfl | rfl | rfl <;> exact ⟨by show _ < _; omega, fun j hj => by have := HOB2.out j hj; show _ ≠ j; omega⟩)
      rw [← HST.out] at ho3
      clear ho2 hg3 hxa' t0 t2 t4 ta
      go_wp2_with fail
      refine ⟨hsm3, ?_⟩
      repeat (go_big_quiet_step (fail))
      refine wpQuiet_nil ?_
      go_wp2_with fail
      go_roundw
      case rel => exact ⟨k + 1, _, by omega, by go_num, by rw [HST.out]; simp; omega, hide rfl, ho3, hx3⟩
      case measure => simp [intOf]; omega
    · go_wp2_with fail
      go_ret
      refine ⟨_, T, rfl, ho, hide ?_, hx⟩
      rw [HT.out, List.take_of_length_le (by rw [← HLX.out]; omega), List.take_of_length_le (by rw [← HLA.out]; omega)]
end Go.Proofs.YtfkpghdmljjegaaGreat

namespace Go.Proofs.YtfkpghdmljjegaaGreat
open Go.RowKit
theorem flat_one {α : Type} {size : Nat} {f : α → List Value} (hf : ∀ x, (f x).length = size) : ∀ (L : List α) (k j : Nat) (u : Value) (x y : α), L[k]? = some x → j < size → f y = (f x).set j u → (L.flatMap f).set (k * size + j) u = (L.set k y).flatMap f
  | [], k, j, u, x, y, h, _, _ => by simp at h
  | e :: L, 0, j, u, x, y, h, hj, hy => by
    simp only [List.getElem?_cons_zero, Option.some.injEq] at h
    subst h
    rw [List.flatMap_cons, Nat.zero_mul, Nat.zero_add, List.set_append_left _ _ (by rw [hf]; exact hj), List.set_cons_zero, List.flatMap_cons, hy]
  | e :: L, k + 1, j, u, x, y, h, hj, hy => by
    have ih := flat_one hf L k j u x y (by simpa using h) hj hy
    rw [List.flatMap_cons, List.set_append_right _ _ (by rw [hf, Nat.add_mul]; omega), hf, show (k + 1) * size + j - size = k * size + j by rw [Nat.add_mul]; omega, ih, List.set_cons_succ, List.flatMap_cons]
theorem OwnL.setOne {α : Type} {w : World} {base : Nat} {e : TypeId} {size : Nat} {f : α → List Value} {A : Option Addr} {n c : Nat} {L : List α} (h : OwnL w base e size f (.slice A n c) L) (hf : ∀ x, (f x).length = size) {k j : Nat} {x y : α} {u : Value} (hk : L[k]? = some x) (hj : j < size) (hy : f y = (f x).set j u) :
    ∃ g, A = some ⟨g, 0, none⟩ ∧ n = L.length ∧ base ≤ g ∧ g < w.heap.size ∧ (∀ i, w.frozen? ⟨g, i, none⟩ = false) ∧ (∀ i v, (f x)[i]? = some v → w.cell? ⟨g, k * size + i, none⟩ = some v) ∧ OwnL (w.setCell ⟨g, k * size + j, none⟩ u) base e size f (.slice A n c) (L.set k y) := by
  have hkl : k < L.length := (List.getElem?_eq_some_iff.1 hk).1
  have hfl := flat_len (xs := L) hf
  obtain ⟨h1, h2⟩ := h
  rcases h2 with ⟨hv, hn⟩ | ⟨g, cap, cur, hv, hb, hh, hnc, hcm, hsz, htk⟩
  · omega
  · simp only [Value.slice.injEq] at hv
    obtain ⟨rfl, rfl, rfl⟩ := hv
    have hR : Row w g e cur.toList := by unfold Row; rw [Array.toArray_toList]; exact hh
    have hlt : ∀ i, i < size → k * size + i < L.length * size := fun i hi => by
      have : (k + 1) * size ≤ L.length * size := Nat.mul_le_mul_right _ hkl
      rw [Nat.add_mul] at this
      omega
    refine ⟨g, rfl, rfl, hb, hR.lt, hR.frozen, fun i v hv => ?_, by rw [flat_len hf, List.length_set], .inr ⟨g, c, (cur.toList.set (k * size + j) u).toArray, by rw [List.length_set], hb, hR.set_ (k * size + j) u, by rw [List.length_set]; exact hnc, hcm, by simpa using hsz, ?_⟩⟩
    · have hi : i < size := by rw [← hf x]; exact (List.getElem?_eq_some_iff.1 hv).1
      have h3 := flat_get hf hk hv
      rw [← htk, List.getElem?_take, if_pos (hlt i hi)] at h3
      rw [hR.cell]; exact h3
    · rw [List.length_set, List.toList_toArray, List.take_set, htk]
      exact flat_one hf L k j u x y hk hj hy
theorem Short.set {ns : List Node} (h : Short ns) (k : Nat) {x : Node} (hx : x.name.size ≤ 100) : Short (ns.set k x) := by
  intro y hy
  rcases List.mem_or_eq_of_mem_set hy with hy | rfl
  · exact h y hy
  · exact hx
/-- a network in a variable's block g, while it is turned -/
structure ASt (w0 w : World) (a : Nat) (A : Option Addr) (n c g : Nat) (v1 v2 : Value) (ns : List Node) (ps : List Pipe) (wr : World) : Prop where
  lt : a < w.heap.size
  src : Src w0 wr a A n c
  only : Only a w wr
  res : Row wr w.heap.size 45 [.slice none 0 0, .slice none 0 0]
  var : Row wr g 45 [v1, v2]
  hg : w.heap.size < g
  o1 : OwnL wr (w.heap.size + 1) 223 3 Node.cells v1 ns
  o2 : OwnL wr (w.heap.size + 1) 181 5 Pipe.cells v2 ps
  nm : Short ns
/-- a network that was drawn; it may be wrong -/
def DrawnNet2 (w0 : World) (a : Nat) (A : Option Addr) (n c : Nat) (w : World) (e : Ending) (w' : World) : Prop :=
  ∃ (v1 v2 : Value) (ns : List Node) (ps : List Pipe), e = .returned (.agg #[v1, v2]) ∧ Src w0 w' a A n c ∧ Only a w w' ∧ OwnL w' (w.heap.size + 1) 223 3 Node.cells v1 ns ∧ OwnL w' (w.heap.size + 1) 181 5 Pipe.cells v2 ps ∧ ns.length ≤ 7 ∧ ps.length ≤ 30 ∧ Short ns
section
variable {w0 w wr wr' : World} {a n c g : Nat} {A : Option Addr} {v1 v2 v' : Value} {ns : List Node} {ps : List Pipe}
theorem ASt.draw (h : ASt w0 w a A n c g v1 v2 ns ps wr) (hs : Src w0 wr' a A n c) (ho : Only a wr wr') : ASt w0 w a A n c g v1 v2 ns ps wr' :=
  have hl := h.lt
  have hg := h.hg
  ⟨h.lt, hs, h.only.trans ho, h.res.only ho (by omega), h.var.only ho (by omega), h.hg, h.o1.only ho (by omega), h.o2.only ho (by omega), h.nm⟩
theorem ASt.more (h : ASt w0 w a A n c g v1 v2 ns ps wr) (hx : Ext wr wr') : ASt w0 w a A n c g v1 v2 ns ps wr' := h.draw (h.src.more hx) (Only.of_ext hx a)
theorem ASt.fin (h : ASt w0 w a A n c g v1 v2 ns ps wr) (h2 : ns.length ≤ 7) (h3 : ps.length ≤ 30) :
    DrawnNet2 w0 a A n c w (.returned (.agg #[v1, v2])) (putCells wr w.heap.size 0 [v1, v2]) := by
  have hl := h.lt
  have hle := h.src.le0
  exact ⟨v1, v2, ns, ps, rfl, h.src.put (by omega) (by omega) _ _, h.only.putNew (Nat.le_refl _) _ _, h.o1.put h.res (by decide) _ _, h.o2.put h.res (by decide) _ _, h2, h3, h.nm⟩
end
end Go.Proofs.YtfkpghdmljjegaaGreat

namespace Go.Proofs.YtfkpghdmljjegaaGreat
open Go.RowKit

def sumI : List Int → Int
  | [] => 0
  | z :: zs => z + sumI zs
theorem sumI_snoc (zs : List Int) (z : Int) : sumI (zs ++ [z]) = sumI zs + z := by
  induction zs with
  | nil => simp [sumI]
  | cons y ys ih => simp only [List.cons_append, sumI, ih]; omega
theorem takeI_snoc {zs : List Int} {k : Nat} {z : Int} (h : zs[k]? = some z) : zs.take (k + 1) = zs.take k ++ [z] := by
  obtain ⟨hk, rfl⟩ := List.getElem?_eq_some_iff.1 h
  rw [List.take_succ_eq_append_getElem hk]
theorem allB_mem {zs : List Int} {lo hi : Int} (h : allB zs lo hi = true) : ∀ z ∈ zs, lo ≤ z ∧ z ≤ hi := fun z hz => inB_true.1 (List.all_eq_true.1 h z hz)

theorem c_sumOf (A : Option Addr) (n c : Nat) (zs : List Int) (w : World) (hs : SliceOf w 1 intC A n c zs) (hz : allB zs (-1000000000) 1000000000 = true) (hn : n ≤ 1048576) :
    Calls Tryz.prog 93 #[.slice A n c] w fun e w' => e = .returned (.int .i64 (sumI zs)) ∧ w = w' := by
  have HZ := hide (allB_mem hz)
  clear hz
  go_enter Tryz.func93, Tryz.ntmps93
  go_wp2_with fail
  go_loop [3, 8] (fun q i => ∃ (k : Nat) (S : Int), k ≤ n ∧ q = .int .i64 S ∧ i = .int .i64 k ∧ -(1000000000 * (k : Int)) ≤ S ∧ S ≤ 1000000000 * (k : Int) ∧ Hid (S = sumI (zs.take k))) (fun _ i => n - (intOf i).toNat)
  case atStart => exact ⟨0, 0, Nat.zero_le _, rfl, rfl, by omega, by omega, hide (by simp [sumI])⟩
  case round =>
    obtain ⟨k, S, hk, rfl, rfl, hS0, hS1, HS⟩ := hrel
    by_cases hlt : k < n
    · obtain ⟨b, off, x, rfl, hb, hxk, hc0⟩ := hs.get1 hlt
      obtain ⟨x0, x1⟩ := HZ.out x (List.mem_of_getElem? hxk)
      have HX := hide (show S + x = sumI (zs.take (k + 1)) by rw [takeI_snoc hxk, sumI_snoc, HS.out])
      clear hxk HS
      go_wp2_with fail
      go_round
      case rel => exact ⟨k + 1, _, by omega, rfl, by go_num, by omega, by omega, HX⟩
      case measure => simp [intOf]; omega
    · go_wp2_with fail
      go_ret
      have := HS.out
      rw [List.take_of_length_le (by have := hs.len; omega)] at this
      exact ⟨by rw [← this]; rfl, rfl⟩

theorem c_l01Sum (A : Option Addr) (n c : Nat) (zs : List Int) (w : World) (hs : SliceOf w 1 intC A n c zs) (hz : allB zs (-1000000000) 1000000000 = true) (hn : n ≤ 1048576) :
    Calls Tryz.prog 96 #[.slice A n c] w fun e w' => e = .returned (.int .i64 (sumI zs)) ∧ w = w' := by
  have HZ := hide (allB_mem hz)
  clear hz
  go_enter Tryz.func96, Tryz.ntmps96
  go_wp2_with fail
  go_loop [3, 4] (fun q i => ∃ (k : Nat) (S : Int), k ≤ n ∧ q = .int .i64 S ∧ i = .int .i64 k ∧ -(1000000000 * (k : Int)) ≤ S ∧ S ≤ 1000000000 * (k : Int) ∧ Hid (S = sumI (zs.take k))) (fun _ i => n - (intOf i).toNat)
  case atStart => exact ⟨0, 0, Nat.zero_le _, rfl, rfl, by omega, by omega, hide (by simp [sumI])⟩
  case round =>
    obtain ⟨k, S, hk, rfl, rfl, hS0, hS1, HS⟩ := hrel
    by_cases hlt : k < n
    · obtain ⟨b, off, x, rfl, hb, hxk, hc0⟩ := hs.get1 hlt
      obtain ⟨x0, x1⟩ := HZ.out x (List.mem_of_getElem? hxk)
      have HX := hide (show S + x = sumI (zs.take (k + 1)) by rw [takeI_snoc hxk, sumI_snoc, HS.out])
      clear hxk HS
      go_wp2_with fail
      go_round
      case rel => exact ⟨k + 1, _, by omega, rfl, by go_num, by omega, by omega, HX⟩
      case measure => simp [intOf]; omega
    · go_wp2_with fail
      go_ret
      have := HS.out
      rw [List.take_of_length_le (by have := hs.len; omega)] at this
      exact ⟨by rw [← this]; rfl, rfl⟩

end Go.Proofs.YtfkpghdmljjegaaGreat
