
/-
  RollBalance of the program and of the reference.
-/
import Derived.Test.YtbkmnoedhilopaaTermsK
import Derived.Test.YtbkmnoedhilopaaInts
namespace Go.Proofs.Ytbkmnoedhilopaa
open Go.RowKit

theorem chg_bd {ex : Int} (l : List Tier) (hl : ∀ x ∈ l, 0 ≤ x.factor ∧ x.factor ≤ 1000) (b : Int) (hb : b ≤ ex) : 0 ≤ chg ex l b ∧ chg ex l b ≤ (ex - b) * 1000 := by
  induction l generalizing b with
  | nil => rw [chg_nil]; omega
  | cons x l ih =>
    obtain ⟨f0, f1⟩ := hl x (by simp)
    have ih' := fun b hb => ih (fun y hy => hl y (by simp [hy])) b hb
    by_cases e : l = []
    · subst e
      rw [chg_last]
      split
      · exact ⟨Int.mul_nonneg (by omega) f0, Int.mul_le_mul_of_nonneg_left f1 (by omega)⟩
      · omega
    · rw [chg_cons _ _ _ _ e]
      split
      · have h1 := ih' (min ex x.upto) (by omega)
        have h2 : 0 ≤ (min ex x.upto - b) * x.factor := Int.mul_nonneg (by omega) f0
        have h3 : (min ex x.upto - b) * x.factor ≤ (min ex x.upto - b) * 1000 := Int.mul_le_mul_of_nonneg_left f1 (by omega)
        omega
      · exact ih' b hb
theorem chargeF_bd {band percent price ex : Int} {ts : List Tier} (V : Valid band percent price ts) (h0 : 0 ≤ ex) (h1 : ex ≤ 1000000000) : 0 ≤ chargeF price ts ex ∧ chargeF price ts ex ≤ 10000000000000001 := by
  have h := chg_bd (ex := ex) ts (fun x hx => by
    obtain ⟨j, hj, rfl⟩ := List.mem_iff_getElem.1 hx
    have := V.at_ j _ (List.getElem?_eq_getElem hj)
    omega) 0 h0
  have h2 := mul_bd (a := price) (b := chg ex ts 0) 1000000 1000000000000 V.pr0 V.pr1 h.1 (by omega)
  unfold chargeF
  omega
theorem excF_rest {band percent bal thr m : Int} (h : 0 ≤ tolF band percent thr) (h4 : -m ≤ bal) (h4' : bal ≤ m) : -m ≤ bal - excF band percent bal thr ∧ bal - excF band percent bal thr ≤ m := by
  unfold excF; (repeat' split) <;> omega

def roll (band percent price : Int) (ts : List Tier) : List (Int × Int) → Int → Int → Int × Int
  | [], b, c => (b, c)
  | p :: r, b, c => roll band percent price ts r (b + p.1 - excF band percent (b + p.1) p.2) (c + chargeF price ts (absI (excF band percent (b + p.1) p.2)))
def rollR (band percent price : Int) (ts : List Tier) (cs th : List Int) : Int × Int × Int :=
  if isTermsB band percent price ts = false then (0, 0, 1) else if 48 < cs.length ∨ cs.length ≠ th.length then (0, 0, 3)
  else if allB cs (-30000) 30000 = false ∨ allB th 0 1000000000 = false then (0, 0, 2)
  else ((roll band percent price ts (cs.zip th) 0 0).1, (roll band percent price ts (cs.zip th) 0 0).2, 0)
theorem zip_drop {cs th : List Int} {k : Nat} {x y : Int} (h : cs[k]? = some x) (h' : th[k]? = some y) : (cs.zip th).drop k = (x, y) :: (cs.zip th).drop (k + 1) := by
  have hz : (cs.zip th)[k]? = some (x, y) := by rw [List.getElem?_zip_eq_some]; exact ⟨h, h'⟩
  obtain ⟨hk, e⟩ := List.getElem?_eq_some_iff.1 hz
  rw [List.drop_eq_getElem_cons hk, e]

theorem roll_ways (band percent price : Int) (ts : List Tier) (cs th : List Int) :
    (isTermsB band percent price ts = false ∧ rollR band percent price ts cs th = (0, 0, 1)) ∨
    (isTermsB band percent price ts = true ∧ 48 < cs.length ∧ rollR band percent price ts cs th = (0, 0, 3)) ∨
    (isTermsB band percent price ts = true ∧ cs.length ≤ 48 ∧ cs.length ≠ th.length ∧ rollR band percent price ts cs th = (0, 0, 3)) ∨
    (isTermsB band percent price ts = true ∧ cs.length ≤ 48 ∧ cs.length = th.length ∧ (allB cs (-30000) 30000 = false ∨ allB th 0 1000000000 = false) ∧ rollR band percent price ts cs th = (0, 0, 2)) ∨
    (isTermsB band percent price ts = true ∧ cs.length ≤ 48 ∧ cs.length = th.length ∧ allB cs (-30000) 30000 = true ∧ allB th 0 1000000000 = true ∧
      rollR band percent price ts cs th = ((roll band percent price ts (cs.zip th) 0 0).1, (roll band percent price ts (cs.zip th) 0 0).2, 0)) := by
  unfold rollR
  cases isTermsB band percent price ts
  · simp
  · by_cases h1 : 48 < cs.length
    · simp [h1]
    · by_cases h2 : cs.length = th.length
      · cases h3 : allB cs (-30000) 30000 <;> cases h4 : allB th 0 1000000000 <;> simp [h2] <;> omega
      · simp [h1, h2]; omega
theorem allB_at {zs : List Int} {lo hi : Int} (h : allB zs lo hi = true) {k : Nat} {z : Int} (hz : zs[k]? = some z) : lo ≤ z ∧ z ≤ hi :=
  inB_true.1 (List.all_eq_true.1 h z (List.mem_of_getElem? hz))


set_option maxHeartbeats 2000000 in
theorem c_RollBalance (band percent price : Int) (A : Option Addr) (n c : Nat) (ts : List Tier) (w : World) (hs : SliceOf w 2 Tier.cells A n c ts) (A1 A2 : Option Addr) (n1 c1 n2 c2 : Nat) (cs th : List Int) (hcs : SliceOf w 1 intC A1 n1 c1 cs) (hth : SliceOf w 1 intC A2 n2 c2 th) :
    Calls Try.prog 30 #[.agg #[.int .i64 band, .int .i64 percent, .int .i64 price, .slice A n c], .slice A1 n1 c1, .slice A2 n2 c2] w (Ret3 (rollR band percent price ts cs th) w) := by
  have hl1 := hcs.len
  have hl2 := hth.len
  have hm1 := hcs.max
  have hm2 := hth.max
  have hk1 := hcs.cap
  have hk2 := hth.cap
  rcases roll_ways band percent price ts cs th with ⟨hT, hr⟩ | ⟨hT, h1, hr⟩ | ⟨hT, h1, h2, hr⟩ | ⟨hT, h1, h2, h3, hr⟩ | ⟨hT, h1, h2, h3, h4, hr⟩
  · have HR := hide hr
    clear hr hl1 hl2
    go_enter Try.func30, Try.ntmps30
    go_wp2_with fail
    refine (c_isTerms band percent price A n c ts _ (hs.ext (Ext.alloc _ _))).mono ?_
    rw [hT]
    rintro e w1 ⟨rfl, hx1⟩
    go_wp2_with fail
    go_ret3
    exact Ret3.of HR.out hx1.box
  · have HR := hide hr
    have hg : 48 < n1 := by omega
    clear hr hl1 hl2
    go_enter Try.func30, Try.ntmps30
    go_wp2_with fail
    refine (c_isTerms band percent price A n c ts _ (hs.ext (Ext.alloc _ _))).mono ?_
    rw [hT]
    rintro e w1 ⟨rfl, hx1⟩
    go_wp2_with fail
    go_ret3
    exact Ret3.of HR.out hx1.box
  · have HR := hide hr
    have hg : n1 ≤ 48 := by omega
    have hd : ((n2 : Int) != (n1 : Int)) = true := by simp; omega
    clear hr hl1 hl2 h2
    go_enter Try.func30, Try.ntmps30
    go_wp2_with fail
    refine (c_isTerms band percent price A n c ts _ (hs.ext (Ext.alloc _ _))).mono ?_
    rw [hT]
    rintro e w1 ⟨rfl, hx1⟩
    go_wp2_with fail
    go_ret3
    exact Ret3.of HR.out hx1.box
  · have HR := hide hr
    have hg : n1 ≤ 48 := by omega
    obtain rfl : n1 = n2 := by omega
    clear hr hl1 hl2 h2
    have h3' : allB cs (-30000) 30000 = false ∨ (allB cs (-30000) 30000 = true ∧ allB th 0 1000000000 = false) := by
      revert h3; cases allB cs (-30000) 30000 <;> simp
    clear h3
    rcases h3' with h3 | ⟨h3, h4⟩
    · go_enter Try.func30, Try.ntmps30
      go_wp2_with fail
      refine (c_isTerms band percent price A n c ts _ (hs.ext (Ext.alloc _ _))).mono ?_
      rw [hT]
      rintro e w1 ⟨rfl, hx1⟩
      go_wp2_with (go_at_call 54; refine (c_allWithin A1 n1 c1 cs _ _ _ (hcs.ext hx1.box)).mono ?_; rintro e w' ⟨rfl, rfl⟩)
      go_ret3
      exact Ret3.of HR.out hx1.box
    · go_enter Try.func30, Try.ntmps30
      go_wp2_with fail
      refine (c_isTerms band percent price A n c ts _ (hs.ext (Ext.alloc _ _))).mono ?_
      rw [hT]
      rintro e w1 ⟨rfl, hx1⟩
      go_wp2_with fail
      refine (c_allWithin A1 n1 c1 cs _ _ _ (hcs.ext hx1.box)).mono ?_
      rintro e w' ⟨rfl, rfl⟩
      go_wp2_with fail
      refine (c_allWithin A2 n1 c2 th _ _ _ (hth.ext hx1.box)).mono ?_
      rintro e w' ⟨rfl, rfl⟩
      go_wp2_with fail
      go_ret3
      exact Ret3.of HR.out hx1.box
  · have HR := hide hr
    have hg : n1 ≤ 48 := by omega
    obtain rfl : n1 = n2 := by omega
    have HL1 := hide hl1
    have HL2 := hide hl2
    clear hr hl1 hl2 h2
    have V := valid_of hT
    go_enter Try.func30, Try.ntmps30
    go_wp2_with fail
    refine (c_isTerms band percent price A n c ts _ (hs.ext (Ext.alloc _ _))).mono ?_
    rw [hT]
    rintro e w1 ⟨rfl, hx1⟩
    go_wp2_with fail
    refine (c_allWithin A1 n1 c1 cs _ _ _ (hcs.ext hx1.box)).mono ?_
    rintro e w' ⟨rfl, rfl⟩
    go_wp2_with fail
    refine (c_allWithin A2 n1 c2 th _ _ _ (hth.ext hx1.box)).mono ?_
    rintro e w' ⟨rfl, rfl⟩
    go_wp2_with fail
    have H3 := hide h3
    have H4 := hide h4
    clear h3 h4
    go_loopw [9, 10, 40] (fun b s i wr => ∃ (k : Nat) (B S : Int), k ≤ n1 ∧ b = .int .i64 B ∧ s = .int .i64 S ∧ i = .int .i64 k ∧ -(30000 * (k : Int)) ≤ B ∧ B ≤ 30000 * (k : Int) ∧ 0 ≤ S ∧ S ≤ 10000000000000001 * (k : Int) ∧ Hid (roll band percent price ts ((cs.zip th).drop k) B S = roll band percent price ts (cs.zip th) 0 0) ∧ Ext w1 wr) (fun _ _ i _ => n1 - (intOf i).toNat)
    case atStart => exact ⟨0, 0, 0, Nat.zero_le _, rfl, rfl, rfl, by omega, by omega, by omega, by omega, hide (by simp), Ext.refl _⟩
    case round =>
      obtain ⟨k, B, S, hk, rfl, rfl, rfl, hB0, hB1, hS0, hS1, HK, hx⟩ := hrel
      have hx0 := hx1.trans hx
      have hzz := hx0.size
      have hz : w.heap.size < wr.heap.size := by simp at hzz; omega
      clear hzz
      have hbx : ∀ j, wr.cell? ⟨w.heap.size, j, none⟩ = (w.alloc (.cells #[.int .i64 band, .int .i64 percent, .int .i64 price, .slice A n c] 29)).cell? ⟨w.heap.size, j, none⟩ := fun j => hx0.cell _ _ (by simp)
      by_cases hlt : k < n1
      · obtain ⟨b, off, x, rfl, hb, hxk, hc0⟩ := (hcs.ext hx0.box).get1 hlt
        obtain ⟨b', off', y, rfl, hb', hyk, hd0⟩ := (hth.ext hx0.box).get1 hlt
        obtain ⟨hx00, hx01⟩ := allB_at H3.out hxk
        obtain ⟨hy0, hy1⟩ := allB_at H4.out hyk
        have HK2 := hide (show roll band percent price ts ((cs.zip th).drop (k + 1)) (B + x - excF band percent (B + x) y) (S + chargeF price ts (absI (excF band percent (B + x) y))) = roll band percent price ts (cs.zip th) 0 0 by
          have := HK.out
          rw [zip_drop hxk hyk] at this
          exact this)
        clear HK hxk hyk
        have ht := tolF_bd V.band0 V.band1 V.per0 V.per1 hy0 hy1
        obtain ⟨he0, he1⟩ := excF_bd (band := band) (percent := percent) (bal := B + x) (thr := y) (m := 30000 * ((k : Int) + 1)) ht.1 (by omega) (by omega)
        obtain ⟨hr0, hr1⟩ := excF_rest (band := band) (percent := percent) (bal := B + x) (thr := y) (m := 30000 * ((k : Int) + 1)) ht.1 (by omega) (by omega)
        obtain ⟨ha0, ha1⟩ := absI_le he0 he1
        obtain ⟨hq0, hq1⟩ := chargeF_bd V ha0 (by omega)
        go_wp2_with fail
        refine wp_region_later (by kernel_rfl) (by kernel_rfl) ?_
        repeat (go_big_quiet_step ((go_at_call 50; exact quiet_later (c_excessOf band percent price _ _ A n c _ V.band0 V.band1 V.per0 V.per1 hy0 hy1 (by omega) (by omega)))))
        refine wpQuiet_nil ?_
        intro w2 hx2
        have hb2 : ∀ j, w2.cell? ⟨w.heap.size, j, none⟩ = wr.cell? ⟨w.heap.size, j, none⟩ := fun j => hx2.cell _ _ hz
        have hzz := hx2.size
        have hz2 : w.heap.size < w2.heap.size := by omega
        clear hzz
        go_wp2_with fail
        generalize excF band percent (B + x) y = E at *
        have e2 : IntKind.i64.wrap (S + chargeF price ts (absI E)) = S + chargeF price ts (absI E) := IntWalk.i64_in _ (by omega)
        refine wp_region_later (by kernel_rfl) (by kernel_rfl) ?_
        repeat (go_big_quiet_step ((first | (go_at_call 52; exact quiet_later_same (c_absOf _ _ (by omega) (by omega))) | (go_at_call 46; exact quiet_later (c_chargeFor band percent price _ A n c ts _ (hs.ext ((hx0.box.trans hx2).trans (ext_later _ _))) V ha0 (by omega))))))
        refine wpQuiet_nil ?_
        intro w3 hx3
        clear e2
        go_wp2_with fail
        go_roundw
        case rel => exact ⟨k + 1, _, _, by omega, rfl, rfl, by go_num, by omega, by omega, by omega, by omega, HK2, (hx.trans hx2).trans hx3⟩
        case measure => simp [intOf]; omega
      · go_wp2_with fail
        go_ret3
        refine Ret3.of ?_ hx0.box
        have := HK.out
        rw [List.drop_of_length_le (by rw [List.length_zip, ← HL1.out, ← HL2.out]; omega)] at this
        rw [HR.out, ← this]
        rfl

theorem c_l05Flow (n : Int) (w : World) :
    Calls Try.prog 53 #[.int .i64 n] w fun e w' => e = .returned (.bool (inB n (-30000) 30000)) ∧ w = w' := by
  go_enter Try.func53, Try.ntmps53
  go_wp2_with (go_at_call 38; refine (c_l01In _ _ _ _).mono ?_; rintro e w' ⟨rfl, rfl⟩)
  go_ret
  exact ⟨rfl, rfl⟩

set_option maxHeartbeats 2000000 in
theorem c_specRollBalance (band percent price : Int) (A : Option Addr) (n c : Nat) (ts : List Tier) (w : World) (hs : SliceOf w 2 Tier.cells A n c ts) (A1 A2 : Option Addr) (n1 c1 n2 c2 : Nat) (cs th : List Int) (hcs : SliceOf w 1 intC A1 n1 c1 cs) (hth : SliceOf w 1 intC A2 n2 c2 th) :
    Calls Try.prog 28 #[.agg #[.int .i64 band, .int .i64 percent, .int .i64 price, .slice A n c], .slice A1 n1 c1, .slice A2 n2 c2] w (Ret3 (rollR band percent price ts cs th) w) := by
  have hl1 := hcs.len
  have hl2 := hth.len
  have hm1 := hcs.max
  have hm2 := hth.max
  have hk1 := hcs.cap
  have hk2 := hth.cap
  rcases roll_ways band percent price ts cs th with ⟨hT, hr⟩ | ⟨hT, h1, hr⟩ | ⟨hT, h1, h2, hr⟩ | ⟨hT, h1, h2, h3, hr⟩ | ⟨hT, h1, h2, h3, h4, hr⟩
  · have HR := hide hr
    clear hr hl1 hl2
    go_enter Try.func28, Try.ntmps28
    go_wp2_with fail
    refine (c_specIsTerms band percent price A n c ts _ (hs.ext (Ext.alloc _ _))).mono ?_
    rw [hT]
    rintro e w1 ⟨rfl, hx1⟩
    go_wp2_with fail
    go_ret3
    exact Ret3.of HR.out hx1.box
  · have HR := hide hr
    have hg : 48 < n1 := by omega
    clear hr hl1 hl2
    go_enter Try.func28, Try.ntmps28
    go_wp2_with fail
    refine (c_specIsTerms band percent price A n c ts _ (hs.ext (Ext.alloc _ _))).mono ?_
    rw [hT]
    rintro e w1 ⟨rfl, hx1⟩
    go_wp2_with fail
    go_ret3
    exact Ret3.of HR.out hx1.box
  · have HR := hide hr
    have hg : n1 ≤ 48 := by omega
    have hd : ((n1 : Int) != (n2 : Int)) = true := by simp; omega
    clear hr hl1 hl2 h2
    go_enter Try.func28, Try.ntmps28
    go_wp2_with fail
    refine (c_specIsTerms band percent price A n c ts _ (hs.ext (Ext.alloc _ _))).mono ?_
    rw [hT]
    rintro e w1 ⟨rfl, hx1⟩
    go_wp2_with fail
    go_ret3
    exact Ret3.of HR.out hx1.box
  · have HR := hide hr
    have hg : n1 ≤ 48 := by omega
    obtain rfl : n1 = n2 := by omega
    have HL1 := hide hl1
    have HL2 := hide hl2
    have H3 := hide h3
    clear hr hl1 hl2 h2 h3
    go_enter Try.func28, Try.ntmps28
    go_wp2_with fail
    refine (c_specIsTerms band percent price A n c ts _ (hs.ext (Ext.alloc _ _))).mono ?_
    rw [hT]
    rintro e w1 ⟨rfl, hx1⟩
    go_wp2_with fail
    go_loop [9] (fun i => ∃ k : Nat, k ≤ n1 ∧ i = .int .i64 k ∧ Hid (∀ (j : Nat) (x y : Int), j < k → cs[j]? = some x → th[j]? = some y → inB x (-30000) 30000 = true ∧ inB y 0 1000000000 = true)) (fun i => n1 - (intOf i).toNat)
    case atStart => exact ⟨0, Nat.zero_le _, rfl, hide (fun j x y hj => absurd hj (by omega))⟩
    case round =>
      obtain ⟨k, hk, rfl, HK⟩ := hrel
      by_cases hlt : k < n1
      · obtain ⟨b, off, x, rfl, hb, hxk, hc0⟩ := (hcs.ext hx1.box).get1 hlt
        obtain ⟨b', off', y, rfl, hb', hyk, hd0⟩ := (hth.ext hx1.box).get1 hlt
        have HX := hide hxk
        have HY := hide hyk
        clear hxk hyk
        have hw : (inB x (-30000) 30000 = true ∧ inB y 0 1000000000 = true) ∨ inB x (-30000) 30000 = false ∨ (inB x (-30000) 30000 = true ∧ inB y 0 1000000000 = false) := by
          cases inB x (-30000) 30000 <;> cases inB y 0 1000000000 <;> simp
        rcases hw with ⟨g1, g2⟩ | g1 | ⟨g1, g2⟩
        · go_wp2_with (first | (go_at_call 53; refine (c_l05Flow _ _).mono ?_; rintro e w' ⟨rfl, rfl⟩) | (go_at_call 42; refine (c_l29Through _ _).mono ?_; rintro e w' ⟨rfl, rfl⟩))
          go_round
          case rel =>
            refine ⟨k + 1, by omega, by go_num, hide fun j x' y' hj hx' hy' => ?_⟩
            by_cases e : j = k
            · subst e
              rw [HX.out] at hx'; rw [HY.out] at hy'
              injection hx' with hx'; injection hy' with hy'
              subst hx' hy'
              exact ⟨g1, g2⟩
            · exact HK.out j x' y' (by omega) hx' hy'
          case measure => simp [intOf]; omega
        all_goals
          go_wp2_with (first | (go_at_call 53; refine (c_l05Flow _ _).mono ?_; rintro e w' ⟨rfl, rfl⟩) | (go_at_call 42; refine (c_l29Through _ _).mono ?_; rintro e w' ⟨rfl, rfl⟩))
          go_ret3
          exact Ret3.of HR.out hx1.box
      · exfalso
        rcases H3.out with h | h
        · have ht : allB cs (-30000) 30000 = true := all_take_true fun j z hz => by
            have hj := (List.getElem?_eq_some_iff.1 hz).1
            have hj' : j < th.length := by rw [← HL2.out, HL1.out]; exact hj
            exact (HK.out j z _ (by rw [← HL1.out] at hj; omega) hz (List.getElem?_eq_getElem hj')).1
          rw [ht] at h; cases h
        · have ht : allB th 0 1000000000 = true := all_take_true fun j z hz => by
            have hj := (List.getElem?_eq_some_iff.1 hz).1
            have hj' : j < cs.length := by rw [← HL1.out, HL2.out]; exact hj
            exact (HK.out j _ z (by rw [← HL2.out] at hj; omega) (List.getElem?_eq_getElem hj') hz).2
          rw [ht] at h; cases h
  · have HR := hide hr
    have hg : n1 ≤ 48 := by omega
    obtain rfl : n1 = n2 := by omega
    have HL1 := hide hl1
    have HL2 := hide hl2
    have H3 := hide h3
    have H4 := hide h4
    clear hr hl1 hl2 h2 h3 h4
    have V := valid_of hT
    go_enter Try.func28, Try.ntmps28
    go_wp2_with fail
    refine (c_specIsTerms band percent price A n c ts _ (hs.ext (Ext.alloc _ _))).mono ?_
    rw [hT]
    rintro e w1 ⟨rfl, hx1⟩
    go_wp2_with fail
    go_loop [9] (fun i => ∃ k : Nat, k ≤ n1 ∧ i = .int .i64 k) (fun i => n1 - (intOf i).toNat)
    case atStart => exact ⟨0, Nat.zero_le _, rfl⟩
    case round =>
      obtain ⟨k, hk, rfl⟩ := hrel
      by_cases hlt : k < n1
      · obtain ⟨b, off, x, rfl, hb, hxk, hc0⟩ := (hcs.ext hx1.box).get1 hlt
        obtain ⟨b', off', y, rfl, hb', hyk, hd0⟩ := (hth.ext hx1.box).get1 hlt
        have g1 : inB x (-30000) 30000 = true := inB_true.2 (allB_at H3.out hxk)
        have g2 : inB y 0 1000000000 = true := inB_true.2 (allB_at H4.out hyk)
        clear hxk hyk
        go_wp2_with (first | (go_at_call 53; refine (c_l05Flow _ _).mono ?_; rintro e w' ⟨rfl, rfl⟩) | (go_at_call 42; refine (c_l29Through _ _).mono ?_; rintro e w' ⟨rfl, rfl⟩))
        go_round
        case rel => exact ⟨k + 1, by omega, by go_num⟩
        case measure => simp [intOf]; omega
      · go_wp2_with fail
        clear hlt hk
        go_loopw [10, 11, 12] (fun b s i wr => ∃ (k : Nat) (B S : Int), k ≤ n1 ∧ b = .int .i64 B ∧ s = .int .i64 S ∧ i = .int .i64 k ∧ -(30000 * (k : Int)) ≤ B ∧ B ≤ 30000 * (k : Int) ∧ 0 ≤ S ∧ S ≤ 10000000000000001 * (k : Int) ∧ Hid (roll band percent price ts ((cs.zip th).drop k) B S = roll band percent price ts (cs.zip th) 0 0) ∧ Ext w1 wr) (fun _ _ i _ => n1 - (intOf i).toNat)
        case atStart => exact ⟨0, 0, 0, Nat.zero_le _, rfl, rfl, rfl, by omega, by omega, by omega, by omega, hide (by simp), Ext.refl _⟩
        case round =>
          obtain ⟨k', B, S, hk, rfl, rfl, rfl, hB0, hB1, hS0, hS1, HK, hx⟩ := hrel
          have hx0 := hx1.trans hx
          have hzz := hx0.size
          have hz : w.heap.size < wr.heap.size := by simp at hzz; omega
          clear hzz
          have hbx : ∀ j, wr.cell? ⟨w.heap.size, j, none⟩ = (w.alloc (.cells #[.int .i64 band, .int .i64 percent, .int .i64 price, .slice A n c] 29)).cell? ⟨w.heap.size, j, none⟩ := fun j => hx0.cell _ _ (by simp)
          by_cases hlt : k' < n1
          · obtain ⟨b, off, x, rfl, hb, hxk, hc0⟩ := (hcs.ext hx0.box).get1 hlt
            obtain ⟨b', off', y, rfl, hb', hyk, hd0⟩ := (hth.ext hx0.box).get1 hlt
            obtain ⟨hx00, hx01⟩ := allB_at H3.out hxk
            obtain ⟨hy0, hy1⟩ := allB_at H4.out hyk
            have HK2 := hide (show roll band percent price ts ((cs.zip th).drop (k' + 1)) (B + x - excF band percent (B + x) y) (S + chargeF price ts (absI (excF band percent (B + x) y))) = roll band percent price ts (cs.zip th) 0 0 by
              have := HK.out
              rw [zip_drop hxk hyk] at this
              exact this)
            clear HK hxk hyk
            have ht := tolF_bd V.band0 V.band1 V.per0 V.per1 hy0 hy1
            obtain ⟨he0, he1⟩ := excF_bd (band := band) (percent := percent) (bal := B + x) (thr := y) (m := 30000 * ((k' : Int) + 1)) ht.1 (by omega) (by omega)
            obtain ⟨hr0, hr1⟩ := excF_rest (band := band) (percent := percent) (bal := B + x) (thr := y) (m := 30000 * ((k' : Int) + 1)) ht.1 (by omega) (by omega)
            obtain ⟨ha0, ha1⟩ := absI_le he0 he1
            obtain ⟨hq0, hq1⟩ := chargeF_bd V ha0 (by omega)
            go_wp2_with fail
            refine wp_region_later (by kernel_rfl) (by kernel_rfl) ?_
            repeat (go_big_quiet_step ((go_at_call 48; exact quiet_later (c_l29Excess band percent price _ _ A n c _ V.band0 V.band1 V.per0 V.per1 hy0 hy1 (by omega) (by omega)))))
            refine wpQuiet_nil ?_
            intro w2 hx2
            have hb2 : ∀ j, w2.cell? ⟨w.heap.size, j, none⟩ = wr.cell? ⟨w.heap.size, j, none⟩ := fun j => hx2.cell _ _ hz
            have hzz := hx2.size
            have hz2 : w.heap.size < w2.heap.size := by omega
            clear hzz
            go_wp2_with fail
            generalize excF band percent (B + x) y = E at *
            have e2 : IntKind.i64.wrap (S + chargeF price ts (absI E)) = S + chargeF price ts (absI E) := IntWalk.i64_in _ (by omega)
            refine wp_region_later (by kernel_rfl) (by kernel_rfl) ?_
            repeat (go_big_quiet_step ((first | (go_at_call 51; exact quiet_later_same (c_l01Abs _ _ (by omega) (by omega))) | (go_at_call 45; exact quiet_later (c_l29Charge band percent price _ A n c ts _ (hs.ext ((hx0.box.trans hx2).trans (ext_later _ _))) V ha0 (by omega))))))
            refine wpQuiet_nil ?_
            intro w3 hx3
            clear e2
            go_wp2_with fail
            go_roundw
            case rel => exact ⟨k' + 1, _, _, by omega, rfl, rfl, by go_num, by omega, by omega, by omega, by omega, HK2, (hx.trans hx2).trans hx3⟩
            case measure => simp [intOf]; omega
          · go_wp2_with fail
            go_ret3
            refine Ret3.of ?_ hx0.box
            have := HK.out
            rw [List.drop_of_length_le (by rw [List.length_zip, ← HL1.out, ← HL2.out]; omega)] at this
            rw [HR.out, ← this]
            rfl

end Go.Proofs.Ytbkmnoedhilopaa
