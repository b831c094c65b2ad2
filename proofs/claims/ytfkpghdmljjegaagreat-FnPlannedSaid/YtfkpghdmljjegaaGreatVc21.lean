/-
  The amounts of an hour, exactly. The transports of an hour, of the reference, exactly. Two orders for each contract, of the reference, exactly. The reference's draws of what hours are planned for.
-/
import Derived.Test.YtfkpghdmljjegaaGreatVc20
import Derived.Test.YtfkpghdmljjegaaGreatVc08
import Derived.Test.YtfkpghdmljjegaaGreatVc09
import Derived.Test.YtfkpghdmljjegaaGreatVc05
import Derived.Test.YtfkpghdmljjegaaGreatVc06
import Derived.Test.YtfkpghdmljjegaaGreatVc17
import Derived.Test.YtfkpghdmljjegaaGreatVc18
namespace Go.Proofs.YtfkpghdmljjegaaGreat
open Go.RowKit
theorem amt_step {nb : Nat} {L : List Nomination} {h : Int} {k : Nat} {x : Nomination} (hk : L[k]? = some x) : amtL nb (L.take (k + 1)) h = if x.hour = h then (amtL nb (L.take k) h).set x.contract.toNat x.amount else amtL nb (L.take k) h := by
  rw [amtL_take hk]; rfl
set_option maxHeartbeats 1000000 in
theorem c_l21Amounts (A : Option Addr) (n c : Nat) (B : Option Addr) (m d : Nat) (L : List Nomination) (w : World) (hL : SliceOf w 4 Nomination.cells B m d L) (hn : n ≤ 100000) (hin : ∀ x ∈ L, 0 ≤ x.contract ∧ x.contract < n) (h : Int) :
    Calls Tryz.prog 177 #[.slice A n c, .slice B m d, .int .i64 h] w (RetI (fun E => E = amtL n L h) w) := by
  have hmk := fun W => run_make_flat (P := Tryz.prog) 24 2 _ _ 1 8 Tryz.underlying24 int_info (f := intC) 0 rfl rfl rfl (by omega) n (by omega) (by omega) W
  have HIN := hide hin
  have hmx := hL.max
  have hcp := hL.cap
  clear hin
  go_enter Tryz.func177, Tryz.ntmps177
  go_wp2_with fail
  go_loopw [8] (fun i wr => ∃ k : Nat, k ≤ m ∧ i = .int .i64 k ∧ RowOf wr w.heap.size 2 intC (amtL n (L.take k) h) ∧ Ext w wr) (fun i _ => m - (intOf i).toNat)
  case atStart => exact ⟨0, Nat.zero_le _, rfl, Row.newG _ _ (by simp), Ext.alloc _ _⟩
  case round =>
    obtain ⟨k, hk, rfl, hR, hx⟩ := hrel
    obtain ⟨E, HE⟩ : ∃ E, Hid (amtL n (L.take k) h = E) := ⟨_, hide rfl⟩
    have hel : E.length = n := by rw [← HE.out]; exact amtL_len _
    rw [HE.out] at hR
    have hle := hR.lt
    by_cases hlt : k < m
    · obtain ⟨b, off, x, rfl, hb, hxk, hc⟩ := (hL.ext hx).get hlt
      have hc0 := hc 0 _ rfl
      have hc1 := hc 1 _ rfl
      have hc2 := hc 2 _ rfl
      have hc3 := hc 3 _ rfl
      clear hc
      simp only [Nat.add_zero] at hc0
      have hxi := HIN.out x (List.mem_of_getElem? hxk)
      obtain ⟨y, hy⟩ : ∃ y : Nat, x.contract = y := ⟨x.contract.toNat, by omega⟩
      have hyn : y < n := by omega
      rw [hy] at hc0
      have HST := hide (amt_step (nb := n) (h := h) hxk)
      clear hxk hxi
      cases e0 : (x.hour == h)
      · have HS1 := hide (show amtL n (L.take (k + 1)) h = E by rw [HST.out, if_neg (by simpa using e0)]; exact HE.out)
        clear HST HE
        go_wp2_with fail
        go_roundw
        case rel => exact ⟨k + 1, by omega, by go_num, by rw [HS1.out]; exact hR, hx⟩
        case measure => simp [intOf]; omega
      · have HS1 := hide (show amtL n (L.take (k + 1)) h = E.set y x.amount by rw [HST.out, if_pos (by simpa using e0), HE.out, hy, Int.toNat_natCast])
        clear HST HE
        obtain ⟨u, hu⟩ := hR.there intC_len (i := y) (by omega) (j := 0) (by omega)
        simp only [Nat.mul_one, Nat.add_zero] at hu
        have hf := hR.frozen y
        have hN := RowOf.set0 (hR.ext (Ext.refl _).drew) (fun x => ⟨_, rfl⟩) (d := y) (by omega) x.amount (.int .i64 x.amount) rfl
        have hx2 := hx.drew.setCell (p := ⟨w.heap.size, y, none⟩) (by simp) (.int .i64 x.amount)
        clear hR hx
        go_wp2_with fail
        refine wp_region_phZ [(b, off + k * 4), (b, off + k * 4 + 3)] [] [0, 1, 2, 3, 4, 5, 6, 7, 8, 9, 10, 11] 12 (by kernel_rfl) (by kernel_rfl) (by intro c a w d v h; cases d <;> exact h) ?_
        simp only [wpPhZ, pickL, nthO]
        repeat (go_big_quiet_step (fail))
        refine wpQuiet_nil ?_
        set_option maxRecDepth 20000 in
        go_wp2_with fail
        go_roundw
        case rel => exact ⟨k + 1, by omega, by go_num, by rw [HS1.out]; exact hN, hx2⟩
        case measure => simp [intOf]; omega
    · have HS1 := hide (show E = amtL n L h by rw [← HE.out, List.take_of_length_le (by rw [← hL.len]; omega)])
      go_wp2_with fail
      go_ret
      have hO := OwnL.of_row hR intC_len (base := w.heap.size) (by omega) (by omega)
      rw [hel] at hO
      exact ⟨_, E, rfl, hO, HS1, hx⟩
set_option maxHeartbeats 1000000 in
theorem c_amountsIn (A : Option Addr) (n c : Nat) (B : Option Addr) (m d : Nat) (L : List Nomination) (w : World) (hL : SliceOf w 4 Nomination.cells B m d L) (hn : n ≤ 100000) (hin : ∀ x ∈ L, 0 ≤ x.contract ∧ x.contract < n) (h : Int) :
    Calls Tryz.prog 217 #[.slice A n c, .slice B m d, .int .i64 h] w (RetI (fun E => E = amtL n L h) w) := by
  have hmk := fun W => run_make_flat (P := Tryz.prog) 24 2 _ _ 1 8 Tryz.underlying24 int_info (f := intC) 0 rfl rfl rfl (by omega) n (by omega) (by omega) W
  have HIN := hide hin
  have hmx := hL.max
  have hcp := hL.cap
  clear hin
  go_enter Tryz.func217, Tryz.ntmps217
  go_wp2_with fail
  go_loopw [15] (fun i wr => ∃ k : Nat, k ≤ m ∧ i = .int .i64 k ∧ RowOf wr w.heap.size 2 intC (amtL n (L.take k) h) ∧ Ext w wr) (fun i _ => m - (intOf i).toNat)
  case atStart => exact ⟨0, Nat.zero_le _, rfl, Row.newG _ _ (by simp), Ext.alloc _ _⟩
  case round =>
    obtain ⟨k, hk, rfl, hR, hx⟩ := hrel
    obtain ⟨E, HE⟩ : ∃ E, Hid (amtL n (L.take k) h = E) := ⟨_, hide rfl⟩
    have hel : E.length = n := by rw [← HE.out]; exact amtL_len _
    rw [HE.out] at hR
    have hle := hR.lt
    by_cases hlt : k < m
    · obtain ⟨b, off, x, rfl, hb, hxk, hc⟩ := (hL.ext hx).get hlt
      have hc0 := hc 0 _ rfl
      have hc1 := hc 1 _ rfl
      have hc2 := hc 2 _ rfl
      have hc3 := hc 3 _ rfl
      clear hc
      simp only [Nat.add_zero] at hc0
      have hxi := HIN.out x (List.mem_of_getElem? hxk)
      obtain ⟨y, hy⟩ : ∃ y : Nat, x.contract = y := ⟨x.contract.toNat, by omega⟩
      have hyn : y < n := by omega
      rw [hy] at hc0
      have HST := hide (amt_step (nb := n) (h := h) hxk)
      clear hxk hxi
      cases e0 : (x.hour == h)
      · have HS1 := hide (show amtL n (L.take (k + 1)) h = E by rw [HST.out, if_neg (by simpa using e0)]; exact HE.out)
        clear HST HE
        go_wp2_with fail
        go_roundw
        case rel => exact ⟨k + 1, by omega, by go_num, by rw [HS1.out]; exact hR.ext (Ext.alloc _ _), hx.and_alloc _⟩
        case measure => simp [intOf]; omega
      · have HS1 := hide (show amtL n (L.take (k + 1)) h = E.set y x.amount by rw [HST.out, if_pos (by simpa using e0), HE.out, hy, Int.toNat_natCast])
        clear HST HE
        obtain ⟨u, hu⟩ := hR.there intC_len (i := y) (by omega) (j := 0) (by omega)
        simp only [Nat.mul_one, Nat.add_zero] at hu
        have hf := hR.frozen y
        go_wp2_with fail
        go_roundw
        case rel => exact ⟨k + 1, by omega, by go_num, by rw [HS1.out]; exact (RowOf.set0 hR (fun x => ⟨_, rfl⟩) (d := y) (by omega) x.amount (.int .i64 x.amount) rfl).ext (Ext.alloc _ _), (hx.setCell (p := ⟨w.heap.size, y, none⟩) (by simp) (.int .i64 x.amount)).and_alloc _⟩
        case measure => simp [intOf]; omega
    · have HS1 := hide (show E = amtL n L h by rw [← HE.out, List.take_of_length_le (by rw [← hL.len]; omega)])
      go_wp2_with fail
      go_ret
      have hO := OwnL.of_row hR intC_len (base := w.heap.size) (by omega) (by omega)
      rw [hel] at hO
      exact ⟨_, E, rfl, hO, HS1, hx⟩
end Go.Proofs.YtfkpghdmljjegaaGreat

namespace Go.Proofs.YtfkpghdmljjegaaGreat
open Go.RowKit
theorem zip_step {α β γ : Type} {f : α → β → γ} {xs : List α} {ys : List β} {k : Nat} {x : α} {y : β} (hx : xs[k]? = some x) (hy : ys[k]? = some y) : (List.zipWith f xs ys).take (k + 1) = (List.zipWith f xs ys).take k ++ [f x y] := by
  rw [List.take_add_one, List.getElem?_zipWith, hx, hy]; rfl
/-- cells that an append leaves -/
theorem same_grown {bs : List (Nat × Nat)} {wr W w2 : World} {v : Value} (hxa : Ext wr W) (hg : W.grownBy w2 v.ownBlock) (h : ∀ p ∈ bs, p.1 < wr.heap.size ∧ ∀ j, v.ownBlock = some j → p.1 ≠ j) : SameC bs wr w2 := by
  intro p hp
  obtain ⟨h1, h2⟩ := h p hp
  have h3 := hxa.size
  exact (World.cell?_of_block (w := W) (hg.block p.1 (by omega) (fun e => h2 p.1 e.symm rfl))).trans (hxa.cell _ _ h1)
set_option maxHeartbeats 1000000 in
theorem c_l31Transports (A : Option Addr) (n c : Nat) (xs : List Contract) (B : Option Addr) (m d : Nat) (L : List Nomination) (w : World) (hs : SliceOf w 8 Contract.cells A n c xs) (hL : SliceOf w 4 Nomination.cells B m d L) (hn : n ≤ 100000) (hin : ∀ x ∈ L, 0 ≤ x.contract ∧ x.contract < n) (h : Int) :
    Calls Tryz.prog 101 #[.slice A n c, .slice B m d, .int .i64 h] w (RetT (fun E => E = trnL xs L h) w) := by
  have HLN := hide hs.len
  go_enter Tryz.func101, Tryz.ntmps101
  go_wp2_with fail
  refine (c_l21Amounts A n c B m d L w hL hn hin h).mono ?_
  rintro e w1 ⟨v1, am, rfl, ho1, HE, hx1⟩
  have hal : am.length = n := by rw [HE.out]; exact amtL_len _
  obtain ⟨A4, c4, rfl, hs4⟩ := ho1.sl intC_len (by omega)
  rw [hal] at hs4
  rw [hal]
  have HTL : Hid (List.zipWith trnOf xs am = trnL xs L h) := hide (by unfold trnL; rw [HE.out, ← HLN.out])
  have hs1 := hs.ext hx1
  have hO0 : OwnL (w1.alloc (.cells #[] 201)) w1.heap.size 201 4 Trn.cells (.slice (some ⟨w1.heap.size, 0, none⟩) 0 0) [] := own_new w1 w1.heap.size _ _ _ _ rfl (Nat.le_refl _)
  have hw1 := hx1.size
  clear ho1 hin hs hL
  go_wp2_with fail
  go_loopw [8, 9] (fun v i wr => ∃ (k : Nat) (T : List Trn), k ≤ n ∧ i = .int .i64 k ∧ T.length = k ∧ Hid (T = (List.zipWith trnOf xs am).take k) ∧ OwnL wr w1.heap.size 201 4 Trn.cells v T ∧ Ext w1 wr) (fun _ i _ => n - (intOf i).toNat)
  case atStart => exact ⟨0, [], Nat.zero_le _, rfl, rfl, hide rfl, hO0, Ext.alloc _ _⟩
  case round =>
    clear hO0
    obtain ⟨k, T, hk, rfl, hTk, HT, ho, hx⟩ := hrel
    by_cases hlt : k < n
    · obtain ⟨b, off, x, hA, hb, hxk, hc⟩ := (hs1.ext hx).get hlt
      have hc1 := hc 1 _ rfl
      have hc2 := hc 2 _ rfl
      have hc4 := hc 4 _ rfl
      clear hc
      subst hA
      obtain ⟨ba, oa, a, hB, hba, hak, hca⟩ := (hs4.ext hx).get hlt
      have hca0 := hca 0 _ rfl
      clear hca
      subst hB
      simp only [Nat.add_zero, Nat.mul_one] at hca0
      have hbw : b < w1.heap.size := hs1.blk (b := b) (by unfold blkOf; rw [if_neg (by omega)]; rfl)
      have hbaw : ba < w1.heap.size := hs4.blk (b := ba) (by unfold blkOf; rw [if_neg (by omega)]; rfl)
      have hxw := hx.size
      have HST : Hid ((List.zipWith trnOf xs am).take (k + 1) = T ++ [⟨x.entry, x.exit, a, x.cls⟩]) := hide (by rw [zip_step hxk hak, ← HT.out]; rfl)
      have HOB : Hid (∀ j, u8.ownBlock = some j → w1.heap.size ≤ j) := hide (fun j hj => ho.block_le hj)
      clear hxk hak
      go_wp2_with fail
      refine wp_region_phC [(b, off + k * 8 + 1), (b, off + k * 8 + 2), (ba, oa + k), (b, off + k * 8 + 4)] [([0, 1, 2, 3, 4, 5, 6, 7, 8, 9, 10, 11, 12, 13, 14, 15, 16, 17, 18, 19, 20], 21), ([], 22)] [23] (by kernel_rfl) (by kernel_rfl) (by intro c a w d v h; cases d <;> exact h) ?_
      simp only [wpPhC, pickL, nthO]
      repeat (go_big_quiet_step (fail))
      refine wpQuiet_nil ?_
      go_wp2_with fail
      obtain ⟨W, HW⟩ : ∃ W, Hid ((wr.alloc (.cells #[.int .i64 x.entry, .int .i64 x.exit, .int .i64 a, .int .i64 x.cls] 201)).drew = W) := ⟨_, hide rfl⟩
      rw [HW.out]
      have hxa : Ext wr W := by rw [← HW.out]; exact ((Ext.refl wr).and_alloc _).drew
      have hxz := hxa.size
      have hWn : SliceOf W 4 Trn.cells (some ⟨wr.heap.size, 0, none⟩) 1 1 [⟨x.entry, x.exit, a, x.cls⟩] := by rw [← HW.out]; exact (new_trn wr ⟨x.entry, x.exit, a, x.cls⟩ rfl).ext (Ext.refl _).drew
      refine ⟨SameC.of_ext hxa (by simp; omega), wpQuiet_nil ?_⟩
      go_wp2_with (at_builtin; go_must (refine wpList_append_where rfl _ _ 118 rfl w1.heap.size 201 _ 4 32 Tryz.underlying118 trn_info rfl (by decide) Trn.cells trn_len trn_one _ T rfl (ho.ext hxa) wr.heap.size 0 1 1 [⟨x.entry, x.exit, a, x.cls⟩] rfl hWn (by omega) (by omega) (by omega) ?_))
      intro v2 w2 ho2 hg2 _
      have hx2 := (hx.trans hxa).grown hg2 (fun k hk => ho.block_le hk)
      have hsm := same_grown (bs := [(b, off + k * 8 + 1), (b, off + k * 8 + 2), (ba, oa + k), (b, off + k * 8 + 4)]) hxa hg2 (by
        intro p hp
        simp only [List.mem_cons, List.not_mem_nil, or_false] at hp
        rcases hp with rfl | rfl | rfl | rfl <;> exact ⟨by show _ < _; omega, fun j hj => by have := HOB.out j hj; show _ ≠ j; omega⟩)
      rw [← HST.out] at ho2
      clear ho hg2 hxa hc1 hc2 hc4 hca0
      go_wp2_with fail
      refine ⟨hsm, ?_⟩
      repeat (go_big_quiet_step (fail))
      refine wpQuiet_nil ?_
      go_wp2_with fail
      go_roundw
      case rel => exact ⟨k + 1, _, by omega, by go_num, by rw [HST.out]; simp; omega, hide rfl, ho2, hx2⟩
      case measure => simp [intOf]; omega
    · go_wp2_with fail
      go_ret
      refine ⟨_, T, rfl, ho.lowG (by omega), hide ?_, hx1.trans hx⟩
      rw [HT.out, List.take_of_length_le (by rw [List.length_zipWith, ← HLN.out, hal]; omega)]
      exact HTL.out
end Go.Proofs.YtfkpghdmljjegaaGreat

namespace Go.Proofs.YtfkpghdmljjegaaGreat
open Go.RowKit
def ordC2 (c : Contract) (a : Int) : List Order := [⟨c.shipper, c.entry, a, c.cls⟩, ⟨c.shipper, c.exit, -a, c.cls⟩]
def ordL (xs : List Contract) (am : List Int) : List Order := (List.zipWith ordC2 xs am).flatten
theorem ordL_step {xs : List Contract} {am : List Int} {k : Nat} {x : Contract} {a : Int} (hx : xs[k]? = some x) (ha : am[k]? = some a) : ordL (xs.take (k + 1)) (am.take (k + 1)) = ordL (xs.take k) (am.take k) ++ ordC2 x a := by
  obtain ⟨h1, _⟩ := List.getElem?_eq_some_iff.1 hx
  obtain ⟨h2, _⟩ := List.getElem?_eq_some_iff.1 ha
  unfold ordL
  rw [List.take_add_one, hx, List.take_add_one, ha, Option.toList_some, Option.toList_some, List.zipWith_append (by rw [List.length_take, List.length_take]; omega), List.flatten_append]
  simp
theorem ordL_len (xs : List Contract) (am : List Int) (h : am.length = xs.length) : (ordL xs am).length = 2 * xs.length := by
  unfold ordL
  induction xs generalizing am with
  | nil => cases am <;> simp
  | cons x xs ih =>
    cases am with
    | nil => simp at h
    | cons a am =>
      have := ih am (by simpa using h)
      rw [List.zipWith_cons_cons, List.flatten_cons, List.length_append, this]
      simp [ordC2]; omega
/-- what an orders' list returns -/
def RetO (Q : List Order → Prop) (w : World) (e : Ending) (w' : World) : Prop :=
  ∃ v E, e = .returned v ∧ OwnL w' w.heap.size 199 4 Order.cells v E ∧ Hid (Q E) ∧ Ext w w'
theorem new_ord (W : World) (x : Order) {g : Nat} (hg : g = W.heap.size) : SliceOf (W.alloc (.cells #[.int .i64 x.shipper, .int .i64 x.node, .int .i64 x.amount, .int .i64 x.cls] 199)) 4 Order.cells (some ⟨g, 0, none⟩) 1 1 [x] := by
  subst hg; exact new_one order_len W 199 x
theorem ord_bd {a : Int} (h : 0 ≤ a ∧ a ≤ 30000) : IntKind.i64.wrap (-a) = -a := IntWalk.i64_in _ (by omega)
set_option maxHeartbeats 2000000 in
theorem c_l22Orders (A : Option Addr) (n c : Nat) (xs : List Contract) (B : Option Addr) (d : Nat) (am : List Int) (w : World) (hs : SliceOf w 8 Contract.cells A n c xs) (hsa : SliceOf w 1 intC B n d am) (hn : n ≤ 100000) (hb : ∀ z ∈ am, 0 ≤ z ∧ z ≤ 30000) :
    Calls Tryz.prog 194 #[.slice A n c, .slice B n d] w (RetO (fun E => E = ordL xs am) w) := by
  have HB := hide hb
  have HLX := hide hs.len
  have HLA := hide hsa.len
  clear hb
  have hO0 : OwnL (w.alloc (.cells #[] 199)) w.heap.size 199 4 Order.cells (.slice (some ⟨w.heap.size, 0, none⟩) 0 0) [] := own_new w w.heap.size _ _ _ _ rfl (Nat.le_refl _)
  go_enter Tryz.func194, Tryz.ntmps194
  go_wp2_with fail
  go_loopw [5, 6] (fun v i wr => ∃ (k : Nat) (T : List Order), k ≤ n ∧ i = .int .i64 k ∧ T.length = 2 * k ∧ Hid (T = ordL (xs.take k) (am.take k)) ∧ OwnL wr w.heap.size 199 4 Order.cells v T ∧ Ext w wr) (fun _ i _ => n - (intOf i).toNat)
  case atStart => exact ⟨0, [], Nat.zero_le _, rfl, rfl, hide (by simp [ordL]), hO0, Ext.alloc _ _⟩
  case round =>
    clear hO0
    obtain ⟨k, T, hk, rfl, hTk, HT, ho, hx⟩ := hrel
    by_cases hlt : k < n
    · obtain ⟨b, off, x, hA, hb, hxk, hc⟩ := (hs.ext hx).get hlt
      have hc0 := hc 0 _ rfl
      have hc1 := hc 1 _ rfl
      have hc2 := hc 2 _ rfl
      have hc3 := hc 3 _ rfl
      have hc4 := hc 4 _ rfl
      have hc5 := hc 5 _ rfl
      have hc6 := hc 6 _ rfl
      have hc7 := hc 7 _ rfl
      clear hc
      subst hA
      obtain ⟨ba, oa, a, hB, hba, hak, hca⟩ := (hsa.ext hx).get hlt
      have hca0 := hca 0 _ rfl
      clear hca
      subst hB
      simp only [Nat.add_zero, Nat.mul_one] at hca0 hc0
      have hbaw : ba < w.heap.size := hsa.blk (b := ba) (by unfold blkOf; rw [if_neg (by omega)]; rfl)
      have hxw := hx.size
      have e1 := ord_bd (HB.out a (List.mem_of_getElem? hak))
      have HST : Hid (ordL (xs.take (k + 1)) (am.take (k + 1)) = T ++ [⟨x.shipper, x.entry, a, x.cls⟩, ⟨x.shipper, x.exit, -a, x.cls⟩]) := hide (by rw [ordL_step hxk hak, ← HT.out]; rfl)
      have HOB : Hid (∀ j, u5.ownBlock = some j → w.heap.size ≤ j ∧ j < wr.heap.size) := hide (fun j hj => ⟨ho.block_le hj, (ho.ltG hj).2⟩)
      clear hxk hak
      go_wp2_with fail
      have hbx := Row.new wr 153 x.cells
      have hx1 : Ext wr (wr.alloc (.cells x.cells.toArray 153)) := Ext.alloc _ _
      rw [show (Obj.cells #[.int .i64 x.shipper, .int .i64 x.entry, .int .i64 x.exit, .int .i64 x.amount, .int .i64 x.cls, .int .i64 x.start, .int .i64 x.stop, .int .i64 x.price] 153) = .cells x.cells.toArray 153 from rfl]
      obtain ⟨g, hg⟩ : ∃ g, wr.heap.size = g := ⟨_, rfl⟩
      generalize (wr.alloc (.cells x.cells.toArray 153)) = W1 at *
      have hca1 := (hx1.cell _ _ hba).trans hca0
      have q0 := hbx.cell 0
      have q1 := hbx.cell 1
      have q2 := hbx.cell 2
      have q4 := hbx.cell 4
      simp [Contract.cells] at q0 q1 q2 q4
      have hbl := hbx.lt
      have ho1 := ho.ext hx1
      have hX1 := hx.trans hx1
      rw [hg] at hbl q0 q1 q2 q4 HOB ⊢
      clear hx ho hca0 hba hx1 hb hc0 hc1 hc2 hc3 hc4 hc5 hc6 hc7 hbx
      refine wp_region_phC [(g, 0), (g, 1), (ba, oa + k), (g, 4)] [([0, 1, 2, 3, 4, 5, 6, 7, 8, 9, 10, 11], 12), ([], 13)] [14] (by kernel_rfl) (by kernel_rfl) (by intro c a w d v h; cases d <;> exact h) ?_
      simp only [wpPhC, pickL, nthO]
      repeat (go_big_quiet_step (fail))
      refine wpQuiet_nil ?_
      go_wp2_with fail
      obtain ⟨W, HW⟩ : ∃ W, Hid ((W1.alloc (.cells #[.int .i64 x.shipper, .int .i64 x.entry, .int .i64 a, .int .i64 x.cls] 199)).drew = W) := ⟨_, hide rfl⟩
      rw [HW.out]
      have hxa : Ext W1 W := by rw [← HW.out]; exact ((Ext.refl W1).and_alloc _).drew
      have hxz := hxa.size
      have hxz1 := hX1.size
      have hWn : SliceOf W 4 Order.cells (some ⟨W1.heap.size, 0, none⟩) 1 1 [⟨x.shipper, x.entry, a, x.cls⟩] := by rw [← HW.out]; exact (new_ord W1 ⟨x.shipper, x.entry, a, x.cls⟩ rfl).ext (Ext.refl _).drew
      refine ⟨SameC.of_ext hxa (by simp; omega), wpQuiet_nil ?_⟩
      go_wp2_with (at_builtin; go_must (refine wpList_append_where rfl _ _ 25 rfl w.heap.size 199 _ 4 32 Tryz.underlying25 order_info rfl (by decide) Order.cells order_len order_one _ T rfl (ho1.ext hxa) W1.heap.size 0 1 1 [⟨x.shipper, x.entry, a, x.cls⟩] rfl hWn (by omega) (by omega) (by omega) ?_))
      intro v2 w2 ho2 hg2 hb2
      have hx2 := (hX1.trans hxa).grown hg2 (fun k hk => ho1.block_le hk)
      have hsm := same_grown (bs := [(g, 0), (g, 1), (ba, oa + k), (g, 4)]) hxa hg2 (by
        intro p hp
        simp only [List.mem_cons, List.not_mem_nil, or_false] at hp
        rcases hp with rfl | rfl | rfl | rfl <;> exact ⟨by show _ < _; omega, fun j hj => by have := HOB.out j hj; show _ ≠ j; omega⟩)
      have hsm2 := same_grown (bs := [(g, 0), (g, 2), (ba, oa + k), (g, 4)]) hxa hg2 (by
        intro p hp
        simp only [List.mem_cons, List.not_mem_nil, or_false] at hp
        rcases hp with rfl | rfl | rfl | rfl <;> exact ⟨by show _ < _; omega, fun j hj => by have := HOB.out j hj; show _ ≠ j; omega⟩)
      have t0 := (hsm2 (g, 0) (by simp)).trans q0
      have t2 := (hsm2 (g, 2) (by simp)).trans q2
      have t4 := (hsm2 (g, 4) (by simp)).trans q4
      have ta := (hsm2 (ba, oa + k) (by simp)).trans hca1
      simp only at t0 t2 t4 ta
      have HOB2 : Hid (∀ j, v2.ownBlock = some j → w.heap.size ≤ j ∧ j ≠ g) := hide (fun j hj => ⟨ho2.block_le hj, by
        rcases hb2 j hj with h | h
        · have := HOB.out j h; omega
        · omega⟩)
      have hz2 : W.heap.size ≤ w2.heap.size := hg2.size
      clear ho1 hg2 hxa q0 q1 q2 q4 hca1 hsm2 hb2
      go_wp2_with fail
      refine ⟨hsm, ?_⟩
      repeat (go_big_quiet_step (fail))
      refine wpQuiet_nil ?_
      go_wp2_with fail
      refine wp_region_phC [(g, 0), (g, 2), (ba, oa + k), (g, 4)] [([0, 1, 2, 3, 4, 5, 6, 7, 8, 9, 10, 11, 12], 13), ([], 14)] [15] (by kernel_rfl) (by kernel_rfl) (by intro c a w d v h; cases d <;> exact h) ?_
      simp only [wpPhC, pickL, nthO]
      repeat (go_big_quiet_step (fail))
      refine wpQuiet_nil ?_
      go_wp2_with fail
      obtain ⟨W', HW'⟩ : ∃ W', Hid ((w2.alloc (.cells #[.int .i64 x.shipper, .int .i64 x.exit, .int .i64 (-a), .int .i64 x.cls] 199)).drew = W') := ⟨_, hide rfl⟩
      rw [HW'.out]
      have hxa' : Ext w2 W' := by rw [← HW'.out]; exact ((Ext.refl w2).and_alloc _).drew
      have hxz' := hxa'.size
      have hWn' : SliceOf W' 4 Order.cells (some ⟨w2.heap.size, 0, none⟩) 1 1 [⟨x.shipper, x.exit, -a, x.cls⟩] := by rw [← HW'.out]; exact (new_ord w2 ⟨x.shipper, x.exit, -a, x.cls⟩ rfl).ext (Ext.refl _).drew
      refine ⟨SameC.of_ext hxa' (by simp; omega), wpQuiet_nil ?_⟩
      go_wp2_with (at_builtin; go_must (refine wpList_append_where rfl _ _ 25 rfl w.heap.size 199 _ 4 32 Tryz.underlying25 order_info rfl (by decide) Order.cells order_len order_one v2 (T ++ [⟨x.shipper, x.entry, a, x.cls⟩]) rfl (ho2.ext hxa') w2.heap.size 0 1 1 [⟨x.shipper, x.exit, -a, x.cls⟩] rfl hWn' (by simp; omega) (by omega) (by omega) ?_))
      intro v3 w3 ho3 hg3 _
      have hx3 := (hx2.trans hxa').grown hg3 (fun k hk => (HOB2.out k hk).1)
      have hsm3 := same_grown (bs := [(g, 0), (g, 2), (ba, oa + k), (g, 4)]) hxa' hg3 (by
        intro p hp
        simp only [List.mem_cons, List.not_mem_nil, or_false] at hp
        rcases hp with rfl | rfl | rfl | rfl <;> exact ⟨by show _ < _; omega, fun j hj => by have := HOB2.out j hj; show _ ≠ j; omega⟩)
      rw [← HST.out] at ho3
      clear ho2 hg3 hxa' t0 t2 t4 ta
      go_wp2_with fail
      refine ⟨hsm3, ?_⟩
      repeat (go_big_quiet_step (fail))
      refine wpQuiet_nil ?_
      go_wp2_with fail
      go_roundw
      case rel => exact ⟨k + 1, _, by omega, by go_num, by rw [HST.out]; simp; omega, hide rfl, ho3, hx3⟩
      case measure => simp [intOf]; omega
    · go_wp2_with fail
      go_ret
      refine ⟨_, T, rfl, ho, hide ?_, hx⟩
      rw [HT.out, List.take_of_length_le (by rw [← HLX.out]; omega), List.take_of_length_le (by rw [← HLA.out]; omega)]
end Go.Proofs.YtfkpghdmljjegaaGreat

namespace Go.Proofs.YtfkpghdmljjegaaGreat
open Go.RowKit
/-- a network, a book, nominations and an hour that were drawn, read -/
structure HrAt (A1 A2 : Option Addr) (n1 c1 n2 c2 : Nat) (ns : List Node) (ps : List Pipe) (A3 : Option Addr) (n3 c3 : Nat) (xs : List Contract) (A4 : Option Addr) (n4 c4 : Nat) (L : List Nomination) (w : World) : Prop where
  s1 : SliceOf w 3 Node.cells A1 n1 c1 ns
  s2 : SliceOf w 5 Pipe.cells A2 n2 c2 ps
  s3 : SliceOf w 8 Contract.cells A3 n3 c3 xs
  s4 : SliceOf w 4 Nomination.cells A4 n4 c4 L
  nm : ∀ x ∈ ns, x.name.size ≤ 1048576
  b1 : ns.length ≤ 7
  b2 : ps.length ≤ 30
  b3 : xs.length ≤ 40
  b4 : L.length ≤ 210
def DrawnPR (w : World) (e : Ending) (w' : World) : Prop :=
  ∃ (A1 A2 : Option Addr) (n1 c1 n2 c2 : Nat) (ns : List Node) (ps : List Pipe) (A3 : Option Addr) (n3 c3 : Nat) (xs : List Contract) (A4 : Option Addr) (n4 c4 : Nat) (L : List Nomination) (h : Int),
    e = .returned (.tuple #[.agg #[.slice A1 n1 c1, .slice A2 n2 c2], .slice A3 n3 c3, .slice A4 n4 c4, .int .i64 h]) ∧ HrAt A1 A2 n1 c1 n2 c2 ns ps A3 n3 c3 xs A4 n4 c4 L w' ∧ Ext w w'
set_option maxHeartbeats 2000000 in
theorem c_DrawPlannedReadings (A : Option Addr) (n c : Nat) (bs : List Int) (w : World) (hbs : SliceOf w 1 byteC A n c bs) (hbd : ∀ z ∈ bs, 0 ≤ z ∧ z ≤ 255) (hn : n ≤ 1048576) :
    Calls Tryz.prog 40 #[.slice A n c] w (DrawnPR w) := by
  have HD := hide hbd
  clear hbd
  have hR := Row.new w 45 [.slice none 0 0, .slice none 0 0]
  have hx0 : Ext w (w.alloc (.cells #[.slice none 0 0, .slice none 0 0] 45)) := Ext.alloc _ _
  go_enter Tryz.func40, Tryz.ntmps40
  go_wp2_with fail
  refine (c_l01From A n c bs _ (hbs.ext hx0) HD.out).mono ?_
  rintro e w1 ⟨a, rfl, ha, ha1, hs1, hx1⟩
  have hX1 := hx0.trans hx1
  have hz : w.heap.size + 1 ≤ a := by simp at ha; omega
  have hS : Src w w1 a A n c := ⟨⟨bs, hbs, HD.out⟩, hn, by omega, hX1, hs1⟩
  have hR1 := hR.ext hx1
  have hrl1 := hR1.lt
  go_wp2_with fail
  refine (c_l31Draw hS).mono ?_
  rintro e w2 ⟨v1, v2, v3, v4, ns, ps, xs, L, h, rfl, hO⟩
  have hR2 := hR1.only hO.only (by omega)
  obtain ⟨A1, c1, rfl, -⟩ := hO.o1.sl node_len (by have := hO.b1; omega)
  obtain ⟨A2, c2, rfl, -⟩ := hO.o2.sl pipe_len (by have := hO.b2; omega)
  obtain ⟨A3, c3, rfl, -⟩ := hO.o3.sl contract_len (by have := hO.b3; omega)
  obtain ⟨A4, c4, rfl, -⟩ := hO.o4.sl nomination_len (by have := hO.b4; omega)
  have q0 := hR2.cell 0
  have q1 := hR2.cell 1
  simp at q0 q1
  have qf := hR2.frozen
  have ql := hR2.lt
  have HRES : Hid (HrAt A1 A2 ns.length c1 ps.length c2 ns ps A3 xs.length c3 xs A4 L.length c4 L (putCells w2 w.heap.size 0 [.slice A1 ns.length c1, .slice A2 ps.length c2]) ∧ Ext w (putCells w2 w.heap.size 0 [.slice A1 ns.length c1, .slice A2 ps.length c2])) := hide ⟨⟨(hO.o1.put hR2 (by decide) _ _).slE node_len (by have := hO.b1; omega), (hO.o2.put hR2 (by decide) _ _).slE pipe_len (by have := hO.b2; omega), (hO.o3.put hR2 (by decide) _ _).slE contract_len (by have := hO.b3; omega), (hO.o4.put hR2 (by decide) _ _).slE nomination_len (by have := hO.b4; omega), fun x hx => Nat.le_trans (hO.nm x hx) (by omega), hO.b1, hO.b2, hO.b3, hO.b4⟩, hO.src.ext.put (Nat.le_refl _) _ _⟩
  clear hO hR2 hR1 hR hbs hs1 hS
  go_wp2_with fail
  refine bodyPost_ret (v := .tuple #[.agg #[.slice A1 ns.length c1, .slice A2 ps.length c2], .slice A3 xs.length c3, .slice A4 L.length c4, .int .i64 h]) (by simp [results, Tryz.results40, go_sem, q0, q1]) rfl ?_
  exact ⟨_, _, _, _, _, _, ns, ps, _, _, _, xs, _, _, _, L, h, rfl, HRES.out.1, HRES.out.2⟩
end Go.Proofs.YtfkpghdmljjegaaGreat
