/-
  The amounts of an hour, exactly. The transports of an hour, of the reference, exactly. Two orders for each contract, of the reference, exactly. The reference's draw of a network that may be wrong.
-/
import Derived.Test.YtpgbmhpddgjccaaGreatSa13
import Derived.Test.YtpgbmhpddgjccaaGreatSa14
import Derived.Test.YtpgbmhpddgjccaaGreatSa15
import Derived.Test.YtpgbmhpddgjccaaGreatSa04
import Derived.Test.YtpgbmhpddgjccaaGreatSa05
import Derived.Test.YtpgbmhpddgjccaaGreatSa16
import Derived.Test.YtpgbmhpddgjccaaGreatSa19
import Derived.Test.YtpgbmhpddgjccaaGreatSa26
import Derived.Test.YtpgbmhpddgjccaaGreatSa18
namespace Go.Proofs.YtpgbmhpddgjccaaGreat
open Go.RowKit
theorem amt_step {nb : Nat} {L : List Nomination} {h : Int} {k : Nat} {x : Nomination} (hk : L[k]? = some x) : amtL nb (L.take (k + 1)) h = if x.hour = h then (amtL nb (L.take k) h).set x.contract.toNat x.amount else amtL nb (L.take k) h := by
  rw [amtL_take hk]; rfl
set_option maxHeartbeats 1000000 in
theorem c_l21Amounts (A : Option Addr) (n c : Nat) (B : Option Addr) (m d : Nat) (L : List Nomination) (w : World) (hL : SliceOf w 4 Nomination.cells B m d L) (hn : n ≤ 100000) (hin : ∀ x ∈ L, 0 ≤ x.contract ∧ x.contract < n) (h : Int) :
    Calls Tryz.prog 160 #[.slice A n c, .slice B m d, .int .i64 h] w (RetI (fun E => E = amtL n L h) w) := by
  have hmk := fun W => run_make_flat (P := Tryz.prog) 24 2 _ _ 1 8 Tryz.underlying24 int_info (f := intC) 0 rfl rfl rfl (by omega) n (by omega) (by omega) W
  have HIN := hide hin
  have hmx := hL.max
  have hcp := hL.cap
  clear hin
  go_enter Tryz.func160, Tryz.ntmps160
  go_wp2_with fail
  go_loopw [8] (fun i wr => ∃ k : Nat, k ≤ m ∧ i = .int .i64 k ∧ RowOf wr w.heap.size 2 intC (amtL n (L.take k) h) ∧ Ext w wr) (fun i _ => m - (intOf i).toNat)
  case atStart => exact ⟨0, Nat.zero_le _, rfl, Row.newG _ _ (by simp), Ext.alloc _ _⟩
  case round =>
    obtain ⟨k, hk, rfl, hR, hx⟩ := hrel
    obtain ⟨E, HE⟩ : ∃ E, Hid (amtL n (L.take k) h = E) := ⟨_, hide rfl⟩
    have hel : E.length = n := by rw [← HE.out]; exact amtL_len _
    rw [HE.out] at hR
    have hle := hR.lt
    by_cases hlt : k < m
    · obtain ⟨b, off, x, rfl, hb, hxk, hc⟩ := (hL.ext hx).get hlt
      have hc0 := hc 0 _ rfl
      have hc1 := hc 1 _ rfl
      have hc2 := hc 2 _ rfl
      have hc3 := hc 3 _ rfl
      clear hc
      simp only [Nat.add_zero] at hc0
      have hxi := HIN.out x (List.mem_of_getElem? hxk)
      obtain ⟨y, hy⟩ : ∃ y : Nat, x.contract = y := ⟨x.contract.toNat, by omega⟩
      have hyn : y < n := by omega
      rw [hy] at hc0
      have HST := hide (amt_step (nb := n) (h := h) hxk)
      clear hxk hxi
      cases e0 : (x.hour == h)
      · have HS1 := hide (show amtL n (L.take (k + 1)) h = E by rw [HST.out, if_neg (by simpa using e0)]; exact HE.out)
        clear HST HE
        go_wp2_with fail
        go_roundw
        case rel => exact ⟨k + 1, by omega, by go_num, by rw [HS1.out]; exact hR, hx⟩
        case measure => simp [intOf]; omega
      · have HS1 := hide (show amtL n (L.take (k + 1)) h = E.set y x.amount by rw [HST.out, if_pos (by simpa using e0), HE.out, hy, Int.toNat_natCast])
        clear HST HE
        obtain ⟨u, hu⟩ := hR.there intC_len (i := y) (by omega) (j := 0) (by omega)
        simp only [Nat.mul_one, Nat.add_zero] at hu
        have hf := hR.frozen y
        have hN := RowOf.set0 (hR.ext (Ext.refl _).drew) (fun x => ⟨_, rfl⟩) (d := y) (by omega) x.amount (.int .i64 x.amount) rfl
        have hx2 := hx.drew.setCell (p := ⟨w.heap.size, y, none⟩) (by simp) (.int .i64 x.amount)
        clear hR hx
        go_wp2_with fail
        refine wp_region_phZ [(b, off + k * 4), (b, off + k * 4 + 3)] [] [0, 1, 2, 3, 4, 5, 6, 7, 8, 9, 10, 11] 12 (by kernel_rfl) (by kernel_rfl) (by intro c a w d v h; cases d <;> exact h) ?_
        simp only [wpPhZ, pickL, nthO]
        repeat (go_big_quiet_step (fail))
        refine wpQuiet_nil ?_
        set_option maxRecDepth 20000 in
        go_wp2_with fail
        go_roundw
        case rel => exact ⟨k + 1, by omega, by go_num, by rw [HS1.out]; exact hN, hx2⟩
        case measure => simp [intOf]; omega
    · have HS1 := hide (show E = amtL n L h by rw [← HE.out, List.take_of_length_le (by rw [← hL.len]; omega)])
      go_wp2_with fail
      go_ret
      have hO := OwnL.of_row hR intC_len (base := w.heap.size) (by omega) (by omega)
      rw [hel] at hO
      exact ⟨_, E, rfl, hO, HS1, hx⟩
set_option maxHeartbeats 1000000 in
theorem c_amountsIn (A : Option Addr) (n c : Nat) (B : Option Addr) (m d : Nat) (L : List Nomination) (w : World) (hL : SliceOf w 4 Nomination.cells B m d L) (hn : n ≤ 100000) (hin : ∀ x ∈ L, 0 ≤ x.contract ∧ x.contract < n) (h : Int) :
    Calls Tryz.prog 209 #[.slice A n c, .slice B m d, .int .i64 h] w (RetI (fun E => E = amtL n L h) w) := by
  have hmk := fun W => run_make_flat (P := Tryz.prog) 24 2 _ _ 1 8 Tryz.underlying24 int_info (f := intC) 0 rfl rfl rfl (by omega) n (by omega) (by omega) W
  have HIN := hide hin
  have hmx := hL.max
  have hcp := hL.cap
  clear hin
  go_enter Tryz.func209, Tryz.ntmps209
  go_wp2_with fail
  go_loopw [15] (fun i wr => ∃ k : Nat, k ≤ m ∧ i = .int .i64 k ∧ RowOf wr w.heap.size 2 intC (amtL n (L.take k) h) ∧ Ext w wr) (fun i _ => m - (intOf i).toNat)
  case atStart => exact ⟨0, Nat.zero_le _, rfl, Row.newG _ _ (by simp), Ext.alloc _ _⟩
  case round =>
    obtain ⟨k, hk, rfl, hR, hx⟩ := hrel
    obtain ⟨E, HE⟩ : ∃ E, Hid (amtL n (L.take k) h = E) := ⟨_, hide rfl⟩
    have hel : E.length = n := by rw [← HE.out]; exact amtL_len _
    rw [HE.out] at hR
    have hle := hR.lt
    by_cases hlt : k < m
    · obtain ⟨b, off, x, rfl, hb, hxk, hc⟩ := (hL.ext hx).get hlt
      have hc0 := hc 0 _ rfl
      have hc1 := hc 1 _ rfl
      have hc2 := hc 2 _ rfl
      have hc3 := hc 3 _ rfl
      clear hc
      simp only [Nat.add_zero] at hc0
      have hxi := HIN.out x (List.mem_of_getElem? hxk)
      obtain ⟨y, hy⟩ : ∃ y : Nat, x.contract = y := ⟨x.contract.toNat, by omega⟩
      have hyn : y < n := by omega
      rw [hy] at hc0
      have HST := hide (amt_step (nb := n) (h := h) hxk)
      clear hxk hxi
      cases e0 : (x.hour == h)
      · have HS1 := hide (show amtL n (L.take (k + 1)) h = E by rw [HST.out, if_neg (by simpa using e0)]; exact HE.out)
        clear HST HE
        go_wp2_with fail
        go_roundw
        case rel => exact ⟨k + 1, by omega, by go_num, by rw [HS1.out]; exact hR.ext (Ext.alloc _ _), hx.and_alloc _⟩
        case measure => simp [intOf]; omega
      · have HS1 := hide (show amtL n (L.take (k + 1)) h = E.set y x.amount by rw [HST.out, if_pos (by simpa using e0), HE.out, hy, Int.toNat_natCast])
        clear HST HE
        obtain ⟨u, hu⟩ := hR.there intC_len (i := y) (by omega) (j := 0) (by omega)
        simp only [Nat.mul_one, Nat.add_zero] at hu
        have hf := hR.frozen y
        go_wp2_with fail
        go_roundw
        case rel => exact ⟨k + 1, by omega, by go_num, by rw [HS1.out]; exact (RowOf.set0 hR (fun x => ⟨_, rfl⟩) (d := y) (by omega) x.amount (.int .i64 x.amount) rfl).ext (Ext.alloc _ _), (hx.setCell (p := ⟨w.heap.size, y, none⟩) (by simp) (.int .i64 x.amount)).and_alloc _⟩
        case measure => simp [intOf]; omega
    · have HS1 := hide (show E = amtL n L h by rw [← HE.out, List.take_of_length_le (by rw [← hL.len]; omega)])
      go_wp2_with fail
      go_ret
      have hO := OwnL.of_row hR intC_len (base := w.heap.size) (by omega) (by omega)
      rw [hel] at hO
      exact ⟨_, E, rfl, hO, HS1, hx⟩
end Go.Proofs.YtpgbmhpddgjccaaGreat

namespace Go.Proofs.YtpgbmhpddgjccaaGreat
open Go.RowKit
theorem zip_step {α β γ : Type} {f : α → β → γ} {xs : List α} {ys : List β} {k : Nat} {x : α} {y : β} (hx : xs[k]? = some x) (hy : ys[k]? = some y) : (List.zipWith f xs ys).take (k + 1) = (List.zipWith f xs ys).take k ++ [f x y] := by
  rw [List.take_add_one, List.getElem?_zipWith, hx, hy]; rfl
/-- cells that an append leaves -/
theorem same_grown {bs : List (Nat × Nat)} {wr W w2 : World} {v : Value} (hxa : Ext wr W) (hg : W.grownBy w2 v.ownBlock) (h : ∀ p ∈ bs, p.1 < wr.heap.size ∧ ∀ j, v.ownBlock = some j → p.1 ≠ j) : SameC bs wr w2 := by
  intro p hp
  obtain ⟨h1, h2⟩ := h p hp
  have h3 := hxa.size
  exact (World.cell?_of_block (w := W) (hg.block p.1 (by omega) (fun e => h2 p.1 e.symm rfl))).trans (hxa.cell _ _ h1)
set_option maxHeartbeats 1000000 in
theorem c_l31Transports (A : Option Addr) (n c : Nat) (xs : List Contract) (B : Option Addr) (m d : Nat) (L : List Nomination) (w : World) (hs : SliceOf w 8 Contract.cells A n c xs) (hL : SliceOf w 4 Nomination.cells B m d L) (hn : n ≤ 100000) (hin : ∀ x ∈ L, 0 ≤ x.contract ∧ x.contract < n) (h : Int) :
    Calls Tryz.prog 94 #[.slice A n c, .slice B m d, .int .i64 h] w (RetT (fun E => E = trnL xs L h) w) := by
  have HLN := hide hs.len
  go_enter Tryz.func94, Tryz.ntmps94
  go_wp2_with fail
  refine (c_l21Amounts A n c B m d L w hL hn hin h).mono ?_
  rintro e w1 ⟨v1, am, rfl, ho1, HE, hx1⟩
  have hal : am.length = n := by rw [HE.out]; exact amtL_len _
  obtain ⟨A4, c4, rfl, hs4⟩ := ho1.sl intC_len (by omega)
  rw [hal] at hs4
  rw [hal]
  have HTL : Hid (List.zipWith trnOf xs am = trnL xs L h) := hide (by unfold trnL; rw [HE.out, ← HLN.out])
  have hs1 := hs.ext hx1
  have hO0 : OwnL (w1.alloc (.cells #[] 195)) w1.heap.size 195 4 Trn.cells (.slice (some ⟨w1.heap.size, 0, none⟩) 0 0) [] := own_new w1 w1.heap.size _ _ _ _ rfl (Nat.le_refl _)
  have hw1 := hx1.size
  clear ho1 hin hs hL
  go_wp2_with fail
  go_loopw [8, 9] (fun v i wr => ∃ (k : Nat) (T : List Trn), k ≤ n ∧ i = .int .i64 k ∧ T.length = k ∧ Hid (T = (List.zipWith trnOf xs am).take k) ∧ OwnL wr w1.heap.size 195 4 Trn.cells v T ∧ Ext w1 wr) (fun _ i _ => n - (intOf i).toNat)
  case atStart => exact ⟨0, [], Nat.zero_le _, rfl, rfl, hide rfl, hO0, Ext.alloc _ _⟩
  case round =>
    clear hO0
    obtain ⟨k, T, hk, rfl, hTk, HT, ho, hx⟩ := hrel
    by_cases hlt : k < n
    · obtain ⟨b, off, x, hA, hb, hxk, hc⟩ := (hs1.ext hx).get hlt
      have hc1 := hc 1 _ rfl
      have hc2 := hc 2 _ rfl
      have hc4 := hc 4 _ rfl
      clear hc
      subst hA
      obtain ⟨ba, oa, a, hB, hba, hak, hca⟩ := (hs4.ext hx).get hlt
      have hca0 := hca 0 _ rfl
      clear hca
      subst hB
      simp only [Nat.add_zero, Nat.mul_one] at hca0
      have hbw : b < w1.heap.size := hs1.blk (b := b) (by unfold blkOf; rw [if_neg (by omega)]; rfl)
      have hbaw : ba < w1.heap.size := hs4.blk (b := ba) (by unfold blkOf; rw [if_neg (by omega)]; rfl)
      have hxw := hx.size
      have HST : Hid ((List.zipWith trnOf xs am).take (k + 1) = T ++ [⟨x.entry, x.exit, a, x.cls⟩]) := hide (by rw [zip_step hxk hak, ← HT.out]; rfl)
      have HOB : Hid (∀ j, u8.ownBlock = some j → w1.heap.size ≤ j) := hide (fun j hj => ho.block_le hj)
      clear hxk hak
      go_wp2_with fail
      refine wp_region_phC [(b, off + k * 8 + 1), (b, off + k * 8 + 2), (ba, oa + k), (b, off + k * 8 + 4)] [([0, 1, 2, 3, 4, 5, 6, 7, 8, 9, 10, 11, 12, 13, 14, 15, 16, 17, 18, 19, 20], 21), ([], 22)] [23] (by kernel_rfl) (by kernel_rfl) (by intro c a w d v h; cases d <;> exact h) ?_
      simp only [wpPhC, pickL, nthO]
      repeat (go_big_quiet_step (fail))
      refine wpQuiet_nil ?_
      go_wp2_with fail
      obtain ⟨W, HW⟩ : ∃ W, Hid ((wr.alloc (.cells #[.int .i64 x.entry, .int .i64 x.exit, .int .i64 a, .int .i64 x.cls] 195)).drew = W) := ⟨_, hide rfl⟩
      rw [HW.out]
      have hxa : Ext wr W := by rw [← HW.out]; exact ((Ext.refl wr).and_alloc _).drew
      have hxz := hxa.size
      have hWn : SliceOf W 4 Trn.cells (some ⟨wr.heap.size, 0, none⟩) 1 1 [⟨x.entry, x.exit, a, x.cls⟩] := by rw [← HW.out]; exact (new_trn wr ⟨x.entry, x.exit, a, x.cls⟩ rfl).ext (Ext.refl _).drew
      refine ⟨SameC.of_ext hxa (by simp; omega), wpQuiet_nil ?_⟩
      go_wp2_with (at_builtin; go_must (refine wpList_append_where rfl _ _ 118 rfl w1.heap.size 195 _ 4 32 Tryz.underlying118 trn_info rfl (by decide) Trn.cells trn_len trn_one _ T rfl (ho.ext hxa) wr.heap.size 0 1 1 [⟨x.entry, x.exit, a, x.cls⟩] rfl hWn (by omega) (by omega) (by omega) ?_))
      intro v2 w2 ho2 hg2 _
      have hx2 := (hx.trans hxa).grown hg2 (fun k hk => ho.block_le hk)
      have hsm := same_grown (bs := [(b, off + k * 8 + 1), (b, off + k * 8 + 2), (ba, oa + k), (b, off + k * 8 + 4)]) hxa hg2 (by
        intro p hp
        simp only [List.mem_cons, List.not_mem_nil, or_false] at hp
        rcases hp with rfl | rfl | rfl | rfl <;> exact ⟨by show _ < _; omega, fun j hj => by have := HOB.out j hj; show _ ≠ j; omega⟩)
      rw [← HST.out] at ho2
      clear ho hg2 hxa hc1 hc2 hc4 hca0
      go_wp2_with fail
      refine ⟨hsm, ?_⟩
      repeat (go_big_quiet_step (fail))
      refine wpQuiet_nil ?_
      go_wp2_with fail
      go_roundw
      case rel => exact ⟨k + 1, _, by omega, by go_num, by rw [HST.out]; simp; omega, hide rfl, ho2, hx2⟩
      case measure => simp [intOf]; omega
    · go_wp2_with fail
      go_ret
      refine ⟨_, T, rfl, ho.lowG (by omega), hide ?_, hx1.trans hx⟩
      rw [HT.out, List.take_of_length_le (by rw [List.length_zipWith, ← HLN.out, hal]; omega)]
      exact HTL.out
end Go.Proofs.YtpgbmhpddgjccaaGreat

namespace Go.Proofs.YtpgbmhpddgjccaaGreat
open Go.RowKit
def ordC2 (c : Contract) (a : Int) : List Order := [⟨c.shipper, c.entry, a, c.cls⟩, ⟨c.shipper, c.exit, -a, c.cls⟩]
def ordL (xs : List Contract) (am : List Int) : List Order := (List.zipWith ordC2 xs am).flatten
theorem ordL_step {xs : List Contract} {am : List Int} {k : Nat} {x : Contract} {a : Int} (hx : xs[k]? = some x) (ha : am[k]? = some a) : ordL (xs.take (k + 1)) (am.take (k + 1)) = ordL (xs.take k) (am.take k) ++ ordC2 x a := by
  obtain ⟨h1, _⟩ := List.getElem?_eq_some_iff.1 hx
  obtain ⟨h2, _⟩ := List.getElem?_eq_some_iff.1 ha
  unfold ordL
  rw [List.take_add_one, hx, List.take_add_one, ha, Option.toList_some, Option.toList_some, List.zipWith_append (by rw [List.length_take, List.length_take]; omega), List.flatten_append]
  simp
theorem ordL_len (xs : List Contract) (am : List Int) (h : am.length = xs.length) : (ordL xs am).length = 2 * xs.length := by
  unfold ordL
  induction xs generalizing am with
  | nil => cases am <;> simp
  | cons x xs ih =>
    cases am with
    | nil => simp at h
    | cons a am =>
      have := ih am (by simpa using h)
      rw [List.zipWith_cons_cons, List.flatten_cons, List.length_append, this]
      simp [ordC2]; omega
/-- what an orders' list returns -/
def RetO (Q : List Order → Prop) (w : World) (e : Ending) (w' : World) : Prop :=
  ∃ v E, e = .returned v ∧ OwnL w' w.heap.size 193 4 Order.cells v E ∧ Hid (Q E) ∧ Ext w w'
theorem new_ord (W : World) (x : Order) {g : Nat} (hg : g = W.heap.size) : SliceOf (W.alloc (.cells #[.int .i64 x.shipper, .int .i64 x.node, .int .i64 x.amount, .int .i64 x.cls] 193)) 4 Order.cells (some ⟨g, 0, none⟩) 1 1 [x] := by
  subst hg; exact new_one order_len W 193 x
theorem ord_bd {a : Int} (h : 0 ≤ a ∧ a ≤ 30000) : IntKind.i64.wrap (-a) = -a := IntWalk.i64_in _ (by omega)
set_option maxHeartbeats 2000000 in
theorem c_l22Orders (A : Option Addr) (n c : Nat) (xs : List Contract) (B : Option Addr) (d : Nat) (am : List Int) (w : World) (hs : SliceOf w 8 Contract.cells A n c xs) (hsa : SliceOf w 1 intC B n d am) (hn : n ≤ 100000) (hb : ∀ z ∈ am, 0 ≤ z ∧ z ≤ 30000) :
    Calls Tryz.prog 179 #[.slice A n c, .slice B n d] w (RetO (fun E => E = ordL xs am) w) := by
  have HB := hide hb
  have HLX := hide hs.len
  have HLA := hide hsa.len
  clear hb
  have hO0 : OwnL (w.alloc (.cells #[] 193)) w.heap.size 193 4 Order.cells (.slice (some ⟨w.heap.size, 0, none⟩) 0 0) [] := own_new w w.heap.size _ _ _ _ rfl (Nat.le_refl _)
  go_enter Tryz.func179, Tryz.ntmps179
  go_wp2_with fail
  go_loopw [5, 6] (fun v i wr => ∃ (k : Nat) (T : List Order), k ≤ n ∧ i = .int .i64 k ∧ T.length = 2 * k ∧ Hid (T = ordL (xs.take k) (am.take k)) ∧ OwnL wr w.heap.size 193 4 Order.cells v T ∧ Ext w wr) (fun _ i _ => n - (intOf i).toNat)
  case atStart => exact ⟨0, [], Nat.zero_le _, rfl, rfl, hide (by simp [ordL]), hO0, Ext.alloc _ _⟩
  case round =>
    clear hO0
    obtain ⟨k, T, hk, rfl, hTk, HT, ho, hx⟩ := hrel
    by_cases hlt : k < n
    · obtain ⟨b, off, x, hA, hb, hxk, hc⟩ := (hs.ext hx).get hlt
      have hc0 := hc 0 _ rfl
      have hc1 := hc 1 _ rfl
      have hc2 := hc 2 _ rfl
      have hc3 := hc 3 _ rfl
      have hc4 := hc 4 _ rfl
      have hc5 := hc 5 _ rfl
      have hc6 := hc 6 _ rfl
      have hc7 := hc 7 _ rfl
      clear hc
      subst hA
      obtain ⟨ba, oa, a, hB, hba, hak, hca⟩ := (hsa.ext hx).get hlt
      have hca0 := hca 0 _ rfl
      clear hca
      subst hB
      simp only [Nat.add_zero, Nat.mul_one] at hca0 hc0
      have hbaw : ba < w.heap.size := hsa.blk (b := ba) (by unfold blkOf; rw [if_neg (by omega)]; rfl)
      have hxw := hx.size
      have e1 := ord_bd (HB.out a (List.mem_of_getElem? hak))
      have HST : Hid (ordL (xs.take (k + 1)) (am.take (k + 1)) = T ++ [⟨x.shipper, x.entry, a, x.cls⟩, ⟨x.shipper, x.exit, -a, x.cls⟩]) := hide (by rw [ordL_step hxk hak, ← HT.out]; rfl)
      have HOB : Hid (∀ j, u5.ownBlock = some j → w.heap.size ≤ j ∧ j < wr.heap.size) := hide (fun j hj => ⟨ho.block_le hj, (ho.ltG hj).2⟩)
      clear hxk hak
      go_wp2_with fail
      have hbx := Row.new wr 146 x.cells
      have hx1 : Ext wr (wr.alloc (.cells x.cells.toArray 146)) := Ext.alloc _ _
      rw [show (Obj.cells #[.int .i64 x.shipper, .int .i64 x.entry, .int .i64 x.exit, .int .i64 x.amount, .int .i64 x.cls, .int .i64 x.start, .int .i64 x.stop, .int .i64 x.price] 146) = .cells x.cells.toArray 146 from rfl]
      obtain ⟨g, hg⟩ : ∃ g, wr.heap.size = g := ⟨_, rfl⟩
      generalize (wr.alloc (.cells x.cells.toArray 146)) = W1 at *
      have hca1 := (hx1.cell _ _ hba).trans hca0
      have q0 := hbx.cell 0
      have q1 := hbx.cell 1
      have q2 := hbx.cell 2
      have q4 := hbx.cell 4
      simp [Contract.cells] at q0 q1 q2 q4
      have hbl := hbx.lt
      have ho1 := ho.ext hx1
      have hX1 := hx.trans hx1
      rw [hg] at hbl q0 q1 q2 q4 HOB ⊢
      clear hx ho hca0 hba hx1 hb hc0 hc1 hc2 hc3 hc4 hc5 hc6 hc7 hbx
      refine wp_region_phC [(g, 0), (g, 1), (ba, oa + k), (g, 4)] [([0, 1, 2, 3, 4, 5, 6, 7, 8, 9, 10, 11], 12), ([], 13)] [14] (by kernel_rfl) (by kernel_rfl) (by intro c a w d v h; cases d <;> exact h) ?_
      simp only [wpPhC, pickL, nthO]
      repeat (go_big_quiet_step (fail))
      refine wpQuiet_nil ?_
      go_wp2_with fail
      obtain ⟨W, HW⟩ : ∃ W, Hid ((W1.alloc (.cells #[.int .i64 x.shipper, .int .i64 x.entry, .int .i64 a, .int .i64 x.cls] 193)).drew = W) := ⟨_, hide rfl⟩
      rw [HW.out]
      have hxa : Ext W1 W := by rw [← HW.out]; exact ((Ext.refl W1).and_alloc _).drew
      have hxz := hxa.size
      have hxz1 := hX1.size
      have hWn : SliceOf W 4 Order.cells (some ⟨W1.heap.size, 0, none⟩) 1 1 [⟨x.shipper, x.entry, a, x.cls⟩] := by rw [← HW.out]; exact (new_ord W1 ⟨x.shipper, x.entry, a, x.cls⟩ rfl).ext (Ext.refl _).drew
      refine ⟨SameC.of_ext hxa (by simp; omega), wpQuiet_nil ?_⟩
      go_wp2_with (at_builtin; go_must (refine wpList_append_where rfl _ _ 25 rfl w.heap.size 193 _ 4 32 Tryz.underlying25 order_info rfl (by decide) Order.cells order_len order_one _ T rfl (ho1.ext hxa) W1.heap.size 0 1 1 [⟨x.shipper, x.entry, a, x.cls⟩] rfl hWn (by omega) (by omega) (by omega) ?_))
      intro v2 w2 ho2 hg2 hb2
      have hx2 := (hX1.trans hxa).grown hg2 (fun k hk => ho1.block_le hk)
      have hsm := same_grown (bs := [(g, 0), (g, 1), (ba, oa + k), (g, 4)]) hxa hg2 (by
        intro p hp
        simp only [List.mem_cons, List.not_mem_nil, or_false] at hp
        rcases hp with rfl | rfl | rfl | rfl <;> exact ⟨by show _ < _; omega, fun j hj => by have := HOB.out j hj; show _ ≠ j; omega⟩)
      have hsm2 := same_grown (bs := [(g, 0), (g, 2), (ba, oa + k), (g, 4)]) hxa hg2 (by
        intro p hp
        simp only [List.mem_cons, List.not_mem_nil, or_false] at hp
        rcases hp with rfl | rfl | rfl | rfl <;> exact ⟨by show _ < _; omega, fun j hj => by have := HOB.out j hj; show _ ≠ j; omega⟩)
      have t0 := (hsm2 (g, 0) (by simp)).trans q0
      have t2 := (hsm2 (g, 2) (by simp)).trans q2
      have t4 := (hsm2 (g, 4) (by simp)).trans q4
      have ta := (hsm2 (ba, oa + k) (by simp)).trans hca1
      simp only at t0 t2 t4 ta
      have HOB2 : Hid (∀ j, v2.ownBlock = some j → w.heap.size ≤ j ∧ j ≠ g) := hide (fun j hj => ⟨ho2.block_le hj, by
        rcases hb2 j hj with h | h
        · have := HOB.out j h; omega
        · omega⟩)
      have hz2 : W.heap.size ≤ w2.heap.size := hg2.size
      clear ho1 hg2 hxa q0 q1 q2 q4 hca1 hsm2 hb2
      go_wp2_with fail
      refine ⟨hsm, ?_⟩
      repeat (go_big_quiet_step (fail))
      refine wpQuiet_nil ?_
      go_wp2_with fail
      refine wp_region_phC [(g, 0), (g, 2), (ba, oa + k), (g, 4)] [([0, 1, 2, 3, 4, 5, 6, 7, 8, 9, 10, 11, 12], 13), ([], 14)] [15] (by kernel_rfl) (by kernel_rfl) (by intro c a w d v h; cases d <;> exact h) ?_
      simp only [wpPhC, pickL, nthO]
      repeat (go_big_quiet_step (fail))
      refine wpQuiet_nil ?_
      go_wp2_with fail
      obtain ⟨W', HW'⟩ : ∃ W', Hid ((w2.alloc (.cells #[.int .i64 x.shipper, .int .i64 x.exit, .int .i64 (-a), .int .i64 x.cls] 193)).drew = W') := ⟨_, hide rfl⟩
      rw [HW'.out]
      have hxa' : Ext w2 W' := by rw [← HW'.out]; exact ((Ext.refl w2).and_alloc _).drew
      have hxz' := hxa'.size
      have hWn' : SliceOf W' 4 Order.cells (some ⟨w2.heap.size, 0, none⟩) 1 1 [⟨x.shipper, x.exit, -a, x.cls⟩] := by rw [← HW'.out]; exact (new_ord w2 ⟨x.shipper, x.exit, -a, x.cls⟩ rfl).ext (Ext.refl _).drew
      refine ⟨SameC.of_ext hxa' (by simp; omega), wpQuiet_nil ?_⟩
      go_wp2_with (at_builtin; go_must (refine wpList_append_where rfl _ _ 25 rfl w.heap.size 193 _ 4 32 Tryz.underlying25 order_info rfl (by decide) Order.cells order_len order_one v2 (T ++ [⟨x.shipper, x.entry, a, x.cls⟩]) rfl (ho2.ext hxa') w2.heap.size 0 1 1 [⟨x.shipper, x.exit, -a, x.cls⟩] rfl hWn' (by simp; omega) (by omega) (by omega) ?_))
      intro v3 w3 ho3 hg3 _
      have hx3 := (hx2.trans hxa').grown hg3 (fun k hk => (HOB2.out k hk).1)
      have hsm3 := same_grown (bs := [(g, 0), (g, 2), (ba, oa + k), (g, 4)]) hxa' hg3 (by
        intro p hp
        simp only [List.mem_cons, List.not_mem_nil, or_false] at hp
        rcases hp with rfl | rfl | rfl | rfl <;> exact ⟨by show _ < _; omega, fun j hj => by have := HOB2.out j hj; show _ ≠ j; omega⟩)
      rw [← HST.out] at ho3
      clear ho2 hg3 hxa' t0 t2 t4 ta
      go_wp2_with fail
      refine ⟨hsm3, ?_⟩
      repeat (go_big_quiet_step (fail))
      refine wpQuiet_nil ?_
      go_wp2_with fail
      go_roundw
      case rel => exact ⟨k + 1, _, by omega, by go_num, by rw [HST.out]; simp; omega, hide rfl, ho3, hx3⟩
      case measure => simp [intOf]; omega
    · go_wp2_with fail
      go_ret
      refine ⟨_, T, rfl, ho, hide ?_, hx⟩
      rw [HT.out, List.take_of_length_le (by rw [← HLX.out]; omega), List.take_of_length_le (by rw [← HLA.out]; omega)]
end Go.Proofs.YtpgbmhpddgjccaaGreat

namespace Go.Proofs.YtpgbmhpddgjccaaGreat
open Go.RowKit
theorem flat_one {α : Type} {size : Nat} {f : α → List Value} (hf : ∀ x, (f x).length = size) : ∀ (L : List α) (k j : Nat) (u : Value) (x y : α), L[k]? = some x → j < size → f y = (f x).set j u → (L.flatMap f).set (k * size + j) u = (L.set k y).flatMap f
  | [], k, j, u, x, y, h, _, _ => by simp at h
  | e :: L, 0, j, u, x, y, h, hj, hy => by
    simp only [List.getElem?_cons_zero, Option.some.injEq] at h
    subst h
    rw [List.flatMap_cons, Nat.zero_mul, Nat.zero_add, List.set_append_left _ _ (by rw [hf]; exact hj), List.set_cons_zero, List.flatMap_cons, hy]
  | e :: L, k + 1, j, u, x, y, h, hj, hy => by
    have ih := flat_one hf L k j u x y (by simpa using h) hj hy
    rw [List.flatMap_cons, List.set_append_right _ _ (by rw [hf, Nat.add_mul]; omega), hf, show (k + 1) * size + j - size = k * size + j by rw [Nat.add_mul]; omega, ih, List.set_cons_succ, List.flatMap_cons]
theorem OwnL.setOne {α : Type} {w : World} {base : Nat} {e : TypeId} {size : Nat} {f : α → List Value} {A : Option Addr} {n c : Nat} {L : List α} (h : OwnL w base e size f (.slice A n c) L) (hf : ∀ x, (f x).length = size) {k j : Nat} {x y : α} {u : Value} (hk : L[k]? = some x) (hj : j < size) (hy : f y = (f x).set j u) :
    ∃ g, A = some ⟨g, 0, none⟩ ∧ n = L.length ∧ base ≤ g ∧ g < w.heap.size ∧ (∀ i, w.frozen? ⟨g, i, none⟩ = false) ∧ (∀ i v, (f x)[i]? = some v → w.cell? ⟨g, k * size + i, none⟩ = some v) ∧ OwnL (w.setCell ⟨g, k * size + j, none⟩ u) base e size f (.slice A n c) (L.set k y) := by
  have hkl : k < L.length := (List.getElem?_eq_some_iff.1 hk).1
  have hfl := flat_len (xs := L) hf
  obtain ⟨h1, h2⟩ := h
  rcases h2 with ⟨hv, hn⟩ | ⟨g, cap, cur, hv, hb, hh, hnc, hcm, hsz, htk⟩
  · omega
  · simp only [Value.slice.injEq] at hv
    obtain ⟨rfl, rfl, rfl⟩ := hv
    have hR : Row w g e cur.toList := by unfold Row; rw [Array.toArray_toList]; exact hh
    have hlt : ∀ i, i < size → k * size + i < L.length * size := fun i hi => by
      have : (k + 1) * size ≤ L.length * size := Nat.mul_le_mul_right _ hkl
      rw [Nat.add_mul] at this
      omega
    refine ⟨g, rfl, rfl, hb, hR.lt, hR.frozen, fun i v hv => ?_, by rw [flat_len hf, List.length_set], .inr ⟨g, c, (cur.toList.set (k * size + j) u).toArray, by rw [List.length_set], hb, hR.set_ (k * size + j) u, by rw [List.length_set]; exact hnc, hcm, by simpa using hsz, ?_⟩⟩
    · have hi : i < size := by rw [← hf x]; exact (List.getElem?_eq_some_iff.1 hv).1
      have h3 := flat_get hf hk hv
      rw [← htk, List.getElem?_take, if_pos (hlt i hi)] at h3
      rw [hR.cell]; exact h3
    · rw [List.length_set, List.toList_toArray, List.take_set, htk]
      exact flat_one hf L k j u x y hk hj hy
theorem Short.set {ns : List Node} (h : Short ns) (k : Nat) {x : Node} (hx : x.name.size ≤ 100) : Short (ns.set k x) := by
  intro y hy
  rcases List.mem_or_eq_of_mem_set hy with hy | rfl
  · exact h y hy
  · exact hx
/-- a network in a variable's block g, while it is turned -/
structure ASt (w0 w : World) (a : Nat) (A : Option Addr) (n c g : Nat) (v1 v2 : Value) (ns : List Node) (ps : List Pipe) (wr : World) : Prop where
  lt : a < w.heap.size
  src : Src w0 wr a A n c
  only : Only a w wr
  res : Row wr w.heap.size 45 [.slice none 0 0, .slice none 0 0]
  var : Row wr g 45 [v1, v2]
  hg : w.heap.size < g
  o1 : OwnL wr (w.heap.size + 1) 210 3 Node.cells v1 ns
  o2 : OwnL wr (w.heap.size + 1) 174 5 Pipe.cells v2 ps
  nm : Short ns
/-- a network that was drawn; it may be wrong -/
def DrawnNet2 (w0 : World) (a : Nat) (A : Option Addr) (n c : Nat) (w : World) (e : Ending) (w' : World) : Prop :=
  ∃ (v1 v2 : Value) (ns : List Node) (ps : List Pipe), e = .returned (.agg #[v1, v2]) ∧ Src w0 w' a A n c ∧ Only a w w' ∧ OwnL w' (w.heap.size + 1) 210 3 Node.cells v1 ns ∧ OwnL w' (w.heap.size + 1) 174 5 Pipe.cells v2 ps ∧ ns.length ≤ 7 ∧ ps.length ≤ 30 ∧ Short ns
section
variable {w0 w wr wr' : World} {a n c g : Nat} {A : Option Addr} {v1 v2 v' : Value} {ns : List Node} {ps : List Pipe}
theorem ASt.draw (h : ASt w0 w a A n c g v1 v2 ns ps wr) (hs : Src w0 wr' a A n c) (ho : Only a wr wr') : ASt w0 w a A n c g v1 v2 ns ps wr' :=
  have hl := h.lt
  have hg := h.hg
  ⟨h.lt, hs, h.only.trans ho, h.res.only ho (by omega), h.var.only ho (by omega), h.hg, h.o1.only ho (by omega), h.o2.only ho (by omega), h.nm⟩
theorem ASt.more (h : ASt w0 w a A n c g v1 v2 ns ps wr) (hx : Ext wr wr') : ASt w0 w a A n c g v1 v2 ns ps wr' := h.draw (h.src.more hx) (Only.of_ext hx a)
theorem ASt.setCellA (h : ASt w0 w a A n c g v1 v2 ns ps wr) {p : Addr} (hp : w.heap.size ≤ p.block) (u : Value) : Src w0 (wr.setCell p u) a A n c ∧ Only a w (wr.setCell p u) := by
  have hl := h.lt
  have hle := h.src.le0
  refine ⟨h.src.set (by omega) (by omega) u, ?_⟩
  exact h.only.grown ((Only.refl p.block wr).setCell rfl u) (fun k hk => by simp at hk; omega)
theorem ASt.setNode (h : ASt w0 w a A n c g v1 v2 ns ps wr) {k j : Nat} {x y : Node} {u : Value} (hk : ns[k]? = some x) (hj : j < 3) (hy : y.cells = x.cells.set j u) (hn : y.name.size ≤ 100) :
    ∃ b c', v1 = .slice (some ⟨b, 0, none⟩) ns.length c' ∧ b < wr.heap.size ∧ b ≠ g ∧ (∀ i, wr.frozen? ⟨b, i, none⟩ = false) ∧ (∀ i v, x.cells[i]? = some v → wr.cell? ⟨b, k * 3 + i, none⟩ = some v) ∧ ASt w0 w a A n c g v1 v2 (ns.set k y) ps (wr.setCell ⟨b, k * 3 + j, none⟩ u) := by
  obtain ⟨A1, c1, rfl, _⟩ := h.o1.form
  obtain ⟨b, rfl, _, hb, hlt, hf, hc, ho⟩ := h.o1.setOne node_len hk hj hy
  have hne : b ≠ g := fun e => h.o1.not_row h.var (by decide) b rfl (by rw [e])
  obtain ⟨hs, hon⟩ := h.setCellA (p := ⟨b, k * 3 + j, none⟩) (by show w.heap.size ≤ b; omega) u
  have hne2 : ∀ q, v2.ownBlock = some q → q ≠ b := fun q hq e => OwnL.apart h.o1 h.o2 (by decide) q hq (by rw [e]; rfl)
  refine ⟨b, c1, rfl, hlt, hne, hf, hc, h.lt, hs, hon, h.res.far (by show w.heap.size ≠ b; omega) u, h.var.far (by show g ≠ b; omega) u, h.hg, ho, ?_, h.nm.set k hn⟩
  exact h.o2.grown ((Only.refl b wr).setCell rfl u) (fun q hq e => hne2 q hq (by simpa using e.symm))
theorem ASt.setPipe (h : ASt w0 w a A n c g v1 v2 ns ps wr) {k j : Nat} {x y : Pipe} {u : Value} (hk : ps[k]? = some x) (hj : j < 5) (hy : y.cells = x.cells.set j u) :
    ∃ b c', v2 = .slice (some ⟨b, 0, none⟩) ps.length c' ∧ b < wr.heap.size ∧ b ≠ g ∧ (∀ i, wr.frozen? ⟨b, i, none⟩ = false) ∧ (∀ i v, x.cells[i]? = some v → wr.cell? ⟨b, k * 5 + i, none⟩ = some v) ∧ ASt w0 w a A n c g v1 v2 ns (ps.set k y) (wr.setCell ⟨b, k * 5 + j, none⟩ u) := by
  obtain ⟨A1, c1, rfl, _⟩ := h.o2.form
  obtain ⟨b, rfl, _, hb, hlt, hf, hc, ho⟩ := h.o2.setOne pipe_len hk hj hy
  have hne : b ≠ g := fun e => h.o2.not_row h.var (by decide) b rfl (by rw [e])
  obtain ⟨hs, hon⟩ := h.setCellA (p := ⟨b, k * 5 + j, none⟩) (by show w.heap.size ≤ b; omega) u
  have hne2 : ∀ q, v1.ownBlock = some q → q ≠ b := fun q hq e => OwnL.apart h.o2 h.o1 (by decide) q hq (by rw [e]; rfl)
  refine ⟨b, c1, rfl, hlt, hne, hf, hc, h.lt, hs, hon, h.res.far (by show w.heap.size ≠ b; omega) u, h.var.far (by show g ≠ b; omega) u, h.hg, ?_, ho, h.nm⟩
  exact h.o1.grown ((Only.refl b wr).setCell rfl u) (fun q hq e => hne2 q hq (by simpa using e.symm))
theorem ASt.app2 (h : ASt w0 w a A n c g v1 v2 ns ps wr) (hgr : wr.grownBy wr' v2.ownBlock) {ps' : List Pipe} (ho : OwnL wr' (w.heap.size + 1) 174 5 Pipe.cells v' ps') : ASt w0 w a A n c g v1 v' ns ps' (wr'.setCell ⟨g, 1, none⟩ v') := by
  have hl := h.lt
  have hle := h.src.le0
  have hgg := h.hg
  have hb := fun k (hk : v2.ownBlock = some k) => h.o2.block_le hk
  have hne : ∀ k, v2.ownBlock = some k → k ≠ g := fun k hk e => h.o2.not_row h.var (by decide) k hk (by rw [e])
  have s1 : Src w0 wr' a A n c := h.src.grow hgr (fun k hk => by have := hb k hk; omega)
  have r1 : Row wr' g 45 [v1, v2] := h.var.grown hgr (fun e => hne g e rfl)
  have o1 : OwnL wr' (w.heap.size + 1) 210 3 Node.cells v1 ns := h.o1.grown hgr (fun k hk => fun e => OwnL.apart h.o2 h.o1 (by decide) k hk e)
  have nb1 : ∀ k, v1.ownBlock = some k → k ≠ g := fun k hk e => o1.not_row r1 (by decide) k hk (by rw [e])
  have nb2 : ∀ k, v'.ownBlock = some k → k ≠ g := fun k hk e => ho.not_row r1 (by decide) k hk (by rw [e])
  refine ⟨h.lt, s1.set (by show w0.heap.size ≤ g; omega) (by show g ≠ a; omega) _, ?_, ?_, r1.set_ 1 v', h.hg, ?_, ?_, h.nm⟩
  · exact (h.only.grown hgr (fun k hk => .inl (by have := hb k hk; omega))).grown ((Only.refl g wr').setCell rfl v') (fun k hk => by simp at hk; omega)
  · exact (h.res.grown hgr (fun e => by have := hb _ e; omega)).far (by show w.heap.size ≠ g; omega) _
  · exact o1.grown ((Only.refl g wr').setCell rfl v') (fun q hq e => nb1 q hq (by simpa using e.symm))
  · exact ho.grown ((Only.refl g wr').setCell rfl v') (fun q hq e => nb2 q hq (by simpa using e.symm))
theorem ASt.none1 (h : ASt w0 w a A n c g v1 v2 ns ps wr) : ASt w0 w a A n c g (.slice none 0 0) v2 [] ps (wr.setCell ⟨g, 0, none⟩ (.slice none 0 0)) := by
  have hl := h.lt
  have hgg := h.hg
  have nb2 : ∀ k, v2.ownBlock = some k → k ≠ g := fun k hk e => h.o2.not_row h.var (by decide) k hk (by rw [e])
  obtain ⟨hs, hon⟩ := h.setCellA (p := ⟨g, 0, none⟩) (by show w.heap.size ≤ g; omega) (.slice none 0 0)
  refine ⟨h.lt, hs, hon, h.res.far (by show w.heap.size ≠ g; omega) _, h.var.set_ 0 _, h.hg, OwnL.nil_ _ _ _ _ _, ?_, fun x hx => by cases hx⟩
  exact h.o2.grown ((Only.refl g wr).setCell rfl _) (fun q hq e => nb2 q hq (by simpa using e.symm))
theorem ASt.fin (h : ASt w0 w a A n c g v1 v2 ns ps wr) (h2 : ns.length ≤ 7) (h3 : ps.length ≤ 30) :
    DrawnNet2 w0 a A n c w (.returned (.agg #[v1, v2])) (putCells wr w.heap.size 0 [v1, v2]) := by
  have hl := h.lt
  have hle := h.src.le0
  exact ⟨v1, v2, ns, ps, rfl, h.src.put (by omega) (by omega) _ _, h.only.putNew (Nat.le_refl _) _ _, h.o1.put h.res (by decide) _ _, h.o2.put h.res (by decide) _ _, h2, h3, h.nm⟩
end
end Go.Proofs.YtpgbmhpddgjccaaGreat
