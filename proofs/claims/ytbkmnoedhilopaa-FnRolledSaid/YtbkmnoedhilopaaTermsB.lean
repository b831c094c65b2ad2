
/-
  IsTerms of the program and of the reference: both return isTermsB.
-/
import Derived.Test.YtbkmnoedhilopaaTermsA
namespace Go.Proofs.Ytbkmnoedhilopaa
open Go.RowKit

structure Tier where
  upto : Int
  factor : Int
def Tier.cells (t : Tier) : List Value := [.int .i64 t.upto, .int .i64 t.factor]

def stepOk : Option Tier → Tier → Bool
  | none, _ => true
  | some y, x => decide (y.upto < x.upto) && decide (y.factor ≤ x.factor)
def tierOk (ts : List Tier) (i : Nat) : Bool :=
  match ts[i]? with
  | none => true
  | some x => inB x.upto 1 1000000000 && inB x.factor 0 1000 && (match i with | 0 => true | j + 1 => stepOk ts[j]? x)
def isTermsB (band percent price : Int) (ts : List Tier) : Bool :=
  inB band 0 1000000000 && inB percent 0 100 && inB price 0 1000000 && inB ts.length 1 6 && (List.range ts.length).all (tierOk ts)

theorem tierOk_zero {ts : List Tier} {k : Nat} {x : Tier} (hk : ¬ 0 < k) (h : ts[k]? = some x) : tierOk ts k = (inB x.upto 1 1000000000 && inB x.factor 0 1000) := by
  obtain rfl : k = 0 := by omega
  simp [tierOk, h]
theorem tierOk_pos {ts : List Tier} {k : Nat} {x y : Tier} (hk : 0 < k) (h : ts[k]? = some x) (h' : ts[k - 1]? = some y) :
    tierOk ts k = (inB x.upto 1 1000000000 && inB x.factor 0 1000 && (decide (y.upto < x.upto) && decide (y.factor ≤ x.factor))) := by
  obtain ⟨m, rfl⟩ : ∃ m, k = m + 1 := ⟨k - 1, by omega⟩
  simp at h'
  simp [tierOk, h, h', stepOk]
/-- the ways through a round -/
theorem tier_ways {ts : List Tier} {k n : Nat} {x y : Tier} (hlt : k < n) (HT : tierOk ts k = (inB x.upto 1 1000000000 && inB x.factor 0 1000 && (decide (y.upto < x.upto) && decide (y.factor ≤ x.factor)))) :
    (inB x.upto 1 1000000000 = true ∧ inB x.factor 0 1000 = true ∧ decide (x.upto ≤ y.upto) = false ∧ decide (x.factor < y.factor) = false ∧ Hid (tierOk ts k = true)) ∨
    (inB x.upto 1 1000000000 = false ∧ Hid ((List.range n).all (tierOk ts) = false)) ∨
    (inB x.upto 1 1000000000 = true ∧ inB x.factor 0 1000 = false ∧ Hid ((List.range n).all (tierOk ts) = false)) ∨
    (inB x.upto 1 1000000000 = true ∧ inB x.factor 0 1000 = true ∧ decide (x.upto ≤ y.upto) = true ∧ Hid ((List.range n).all (tierOk ts) = false)) ∨
    (inB x.upto 1 1000000000 = true ∧ inB x.factor 0 1000 = true ∧ decide (x.upto ≤ y.upto) = false ∧ decide (x.factor < y.factor) = true ∧ Hid ((List.range n).all (tierOk ts) = false)) := by
  have e1 : decide (y.upto < x.upto) = !decide (x.upto ≤ y.upto) := by rw [Bool.eq_iff_iff]; simp
  have e2 : decide (y.factor ≤ x.factor) = !decide (x.factor < y.factor) := by rw [Bool.eq_iff_iff]; simp
  rw [e1, e2] at HT
  have hf : tierOk ts k = false → Hid ((List.range n).all (tierOk ts) = false) := fun h => hide (all_range_false hlt h)
  revert HT hf
  cases inB x.upto 1 1000000000 <;> cases inB x.factor 0 1000 <;> cases decide (x.upto ≤ y.upto) <;> cases decide (x.factor < y.factor) <;> simp <;> intro h <;> simp [h, Hid]
theorem tier_ways0 {ts : List Tier} {k n : Nat} {x : Tier} (hlt : k < n) (HT : tierOk ts k = (inB x.upto 1 1000000000 && inB x.factor 0 1000)) :
    (inB x.upto 1 1000000000 = true ∧ inB x.factor 0 1000 = true ∧ Hid (tierOk ts k = true)) ∨
    (inB x.upto 1 1000000000 = false ∧ Hid ((List.range n).all (tierOk ts) = false)) ∨
    (inB x.upto 1 1000000000 = true ∧ inB x.factor 0 1000 = false ∧ Hid ((List.range n).all (tierOk ts) = false)) := by
  have hf : tierOk ts k = false → Hid ((List.range n).all (tierOk ts) = false) := fun h => hide (all_range_false hlt h)
  revert HT hf
  cases inB x.upto 1 1000000000 <;> cases inB x.factor 0 1000 <;> simp <;> intro h <;> simp [h, Hid]

set_option maxHeartbeats 2000000 in
theorem c_isTerms (band percent price : Int) (A : Option Addr) (n c : Nat) (ts : List Tier) (w : World) (hs : SliceOf w 2 Tier.cells A n c ts) :
    Calls Try.prog 16 #[.agg #[.int .i64 band, .int .i64 percent, .int .i64 price, .slice A n c]] w (Ret (.bool (isTermsB band percent price ts)) w) := by
  have HF := hide (show isTermsB band percent price ts = (inB band 0 1000000000 && inB percent 0 100 && inB price 0 1000000 && inB n 1 6 && (List.range n).all (tierOk ts)) by rw [isTermsB, hs.1])
  generalize isTermsB band percent price ts = R at HF ⊢
  by_cases hg : inB band 0 1000000000 = true ∧ inB percent 0 100 = true ∧ inB price 0 1000000 = true ∧ inB n 1 6 = true
  · obtain ⟨h1, h2, h3, h4⟩ := hg
    have hn : n ≤ 6 := by simp [inB] at h4; omega
    have HR := hide (show R = (List.range n).all (tierOk ts) by rw [HF.out]; simp [h1, h2, h3, h4])
    clear HF
    go_enter Try.func16, Try.ntmps16
    go_wp2_with (go_at_call 40; refine (c_within _ _ _ _).mono ?_; rintro e w' ⟨rfl, rfl⟩)
    go_loopw [2, 31] (fun r i wr => ∃ k : Nat, k ≤ n ∧ r = .bool false ∧ i = .int .i64 k ∧ Hid (∀ j, j < k → tierOk ts j = true) ∧ Ext (w.alloc (.cells #[.int .i64 band, .int .i64 percent, .int .i64 price, .slice A n c] 29)) wr) (fun _ i _ => n - (intOf i).toNat)
    case atStart => exact ⟨0, Nat.zero_le _, rfl, rfl, hide (fun j hj => absurd hj (by omega)), Ext.refl _⟩
    case round =>
      obtain ⟨k, hk, rfl, rfl, HK, hx⟩ := hrel
      have hxs := hx.size
      have hz : w.heap.size < wr.heap.size := by simp at hxs; omega
      clear hxs
      have hbx3 : wr.cell? ⟨w.heap.size, 3, none⟩ = some (.slice A n c) := by rw [hx.cell _ _ (by simp)]; simp
      have hx0 : Ext w wr := hx.box
      by_cases hlt : k < n
      · have hs' := hs.ext hx0
        obtain ⟨b, off, x, rfl, hb, hxk, hc⟩ := hs'.get hlt
        have hc0 := hc 0 _ rfl
        have hc1 := hc 1 _ rfl
        clear hc
        simp only [Nat.add_zero] at hc0
        by_cases h0 : 0 < k
        · obtain ⟨y, hyk, hc⟩ := hs'.at_ (k := k - 1) (by omega)
          have hd0 := hc 0 _ rfl
          have hd1 := hc 1 _ rfl
          clear hc
          simp only [Nat.add_zero] at hd0
          have ways := tier_ways hlt (tierOk_pos h0 hxk hyk)
          clear hxk hyk
          have e1 : IntKind.i64.wrap (↑k - 1) = (↑k - 1) := IntWalk.i64_in _ (by omega)
          have e2 : (0:Int) ≤ ↑k - 1 := by omega
          have e3 : ((k:Int) - 1).toNat = k - 1 := by omega
          rcases ways with ⟨g1, g2, g3, g4, HT⟩ | ⟨g1, HT⟩ | ⟨g1, g2, HT⟩ | ⟨g1, g2, g3, HT⟩ | ⟨g1, g2, g3, g4, HT⟩
          · go_wp2_with (go_at_call 40; refine (c_within _ _ _ _).mono ?_; rintro e w' ⟨rfl, rfl⟩)
            go_quiet ((go_at_call 40; exact quiet_left (c_within _ _ _ _)))
            go_wp2
            go_roundw
            case rel => exact ⟨k + 1, by omega, rfl, by go_num, hide (all_upto HK.out HT.out), (hx.and_alloc _).drewN _⟩
            case measure => simp [intOf]; omega
          all_goals
            go_wp2_with (go_at_call 40; refine (c_within _ _ _ _).mono ?_; rintro e w' ⟨rfl, rfl⟩)
            go_quiet ((go_at_call 40; exact quiet_left (c_within _ _ _ _)))
            go_wp2
            go_ret
            exact Ret.bool (HR.out.trans HT.out) ((hx0.and_alloc _).drewN _)
        · have ways := tier_ways0 hlt (tierOk_zero h0 hxk)
          clear hxk
          have h0' : decide (0 < k) = false := by simpa using h0
          rcases ways with ⟨g1, g2, HT⟩ | ⟨g1, HT⟩ | ⟨g1, g2, HT⟩
          · go_wp2_with (go_at_call 40; refine (c_within _ _ _ _).mono ?_; rintro e w' ⟨rfl, rfl⟩)
            go_quiet ((go_at_call 40; exact quiet_left (c_within _ _ _ _)))
            go_wp2
            go_roundw
            case rel => exact ⟨k + 1, by omega, rfl, by go_num, hide (all_upto HK.out HT.out), (hx.and_alloc _).drewN _⟩
            case measure => simp [intOf]; omega
          all_goals
            go_wp2_with (go_at_call 40; refine (c_within _ _ _ _).mono ?_; rintro e w' ⟨rfl, rfl⟩)
            go_quiet ((go_at_call 40; exact quiet_left (c_within _ _ _ _)))
            go_wp2
            go_ret
            exact Ret.bool (HR.out.trans HT.out) ((hx0.and_alloc _).drewN _)
      · go_wp2
        go_ret
        exact Ret.bool (HR.out.trans (all_range_true (fun j hj => HK.out j (by omega)))) hx0
  · have hw : inB band 0 1000000000 = false ∨ (inB band 0 1000000000 = true ∧ inB percent 0 100 = false) ∨ (inB band 0 1000000000 = true ∧ inB percent 0 100 = true ∧ inB price 0 1000000 = false) ∨ (inB band 0 1000000000 = true ∧ inB percent 0 100 = true ∧ inB price 0 1000000 = true ∧ inB n 1 6 = false) := by
      revert hg; cases inB band 0 1000000000 <;> cases inB percent 0 100 <;> cases inB price 0 1000000 <;> cases inB n 1 6 <;> simp
    have HR := hide (show R = false by rw [HF.out]; rcases hw with h | h | h | h <;> simp [h])
    clear HF hg
    rcases hw with g1 | ⟨g1, g2⟩ | ⟨g1, g2, g3⟩ | ⟨g1, g2, g3, g4⟩
    all_goals
      go_enter Try.func16, Try.ntmps16
      go_wp2_with (go_at_call 40; refine (c_within _ _ _ _).mono ?_; rintro e w' ⟨rfl, rfl⟩)
      go_ret
      exact Ret.bool HR.out (Ext.alloc _ _)

end Go.Proofs.Ytbkmnoedhilopaa
