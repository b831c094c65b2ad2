


/-
  IsConserved of the program and of the reference.
-/
import Derived.Test.YtclnfjpjmelfpaaLedE
import Derived.Test.YtclnfjpjmelfpaaSums
import Derived.Test.YtclnfjpjmelfpaaOrdH
namespace Go.Proofs.Ytclnfjpjmelfpaa
open Go.RowKit

theorem c_l31Small (A : Option Addr) (n c : Nat) (zs : List Int) (w : World) (hs : SliceOf w 1 intC A n c zs) :
    Calls Try.prog 73 #[.slice A n c] w fun e w' => e = .returned (.bool (allB zs (-1000000000) 1000000000)) ∧ w = w' := by
  have hm := hs.max
  have hcap := hs.cap
  go_enter Try.func73, Try.ntmps73
  go_wp2_with fail
  go_loop [2, 3] (fun r i => ∃ k : Nat, k ≤ n ∧ r = .bool false ∧ i = .int .i64 k ∧ Hid (∀ (j : Nat) (z : Int), j < k → zs[j]? = some z → inB z (-1000000000) 1000000000 = true)) (fun _ i => n - (intOf i).toNat)
  case atStart => exact ⟨0, Nat.zero_le _, rfl, rfl, hide (fun j z hj => absurd hj (by omega))⟩
  case round =>
    obtain ⟨k, hk, rfl, rfl, HK⟩ := hrel
    by_cases hlt : k < n
    · obtain ⟨b, off, x, rfl, hb, hxk, hc0⟩ := hs.get1 hlt
      have HX := hide hxk
      clear hxk
      cases hi0 : inB x (-1000000000) 1000000000
      · go_wp2_with (go_at_call 54; refine (c_l29Balance _ _).mono ?_; rintro e w' ⟨rfl, rfl⟩)
        go_ret
        exact ⟨by rw [all_take_false HX.out hi0]; rfl, rfl⟩
      · go_wp2_with (go_at_call 54; refine (c_l29Balance _ _).mono ?_; rintro e w' ⟨rfl, rfl⟩)
        go_round
        case rel =>
          refine ⟨k + 1, by omega, rfl, by go_num, hide fun j z hj hz => ?_⟩
          by_cases e : j = k
          · subst e; rw [HX.out] at hz; injection hz with hz; subst hz; exact hi0
          · exact HK.out j z (by omega) hz
        case measure => simp [intOf]; omega
    · go_wp2_with fail
      go_ret
      refine ⟨?_, rfl⟩
      rw [all_take_true (fun j z hz => HK.out j z (by have := (List.getElem?_eq_some_iff.1 hz).1; have := hs.len; omega) hz)]; rfl

def consB (got chg : List Int) (ps : List Posting) : Bool :=
  allB got (-1000000000) 1000000000 && allB chg (-1000000000) 1000000000 && ledB ps && (balF Posting.gas ps 16 == -sumI got) && (sumI chg == sumI got)
theorem cons_ways (got chg : List Int) (ps : List Posting) :
    (allB got (-1000000000) 1000000000 = false ∧ consB got chg ps = false) ∨
    (allB got (-1000000000) 1000000000 = true ∧ allB chg (-1000000000) 1000000000 = false ∧ consB got chg ps = false) ∨
    (allB got (-1000000000) 1000000000 = true ∧ allB chg (-1000000000) 1000000000 = true ∧ ledB ps = false ∧ consB got chg ps = false) ∨
    (allB got (-1000000000) 1000000000 = true ∧ allB chg (-1000000000) 1000000000 = true ∧ ledB ps = true ∧ (balF Posting.gas ps 16 == -sumI got) = false ∧ consB got chg ps = false) ∨
    (allB got (-1000000000) 1000000000 = true ∧ allB chg (-1000000000) 1000000000 = true ∧ ledB ps = true ∧ (balF Posting.gas ps 16 == -sumI got) = true ∧ consB got chg ps = (sumI chg == sumI got)) := by
  unfold consB
  cases allB got (-1000000000) 1000000000 <;> cases allB chg (-1000000000) 1000000000 <;> cases ledB ps <;> cases (balF Posting.gas ps 16 == -sumI got) <;> simp
theorem cons_ways' (got chg : List Int) (ps : List Posting) :
    (ledB ps = false ∧ consB got chg ps = false) ∨ (ledB ps = true ∧ allB got (-1000000000) 1000000000 = false ∧ consB got chg ps = false) ∨
    (ledB ps = true ∧ allB got (-1000000000) 1000000000 = true ∧ allB chg (-1000000000) 1000000000 = false ∧ consB got chg ps = false) ∨
    (allB got (-1000000000) 1000000000 = true ∧ allB chg (-1000000000) 1000000000 = true ∧ ledB ps = true ∧ (balF Posting.gas ps 16 == -sumI got) = false ∧ consB got chg ps = false) ∨
    (allB got (-1000000000) 1000000000 = true ∧ allB chg (-1000000000) 1000000000 = true ∧ ledB ps = true ∧ (balF Posting.gas ps 16 == -sumI got) = true ∧ consB got chg ps = (sumI chg == sumI got)) := by
  unfold consB
  cases allB got (-1000000000) 1000000000 <;> cases allB chg (-1000000000) 1000000000 <;> cases ledB ps <;> cases (balF Posting.gas ps 16 == -sumI got) <;> simp


set_option maxHeartbeats 2000000 in
theorem c_IsConserved (A0 A1 A2 A3 A4 : Option Addr) (n0 c0 n1 c1 n2 c2 n3 c3 n4 c4 : Nat) (got chg : List Int) (ps : List Posting) (w : World) (h2 : SliceOf w 1 intC A2 n2 c2 got) (h3 : SliceOf w 1 intC A3 n3 c3 chg) (h4 : SliceOf w 4 Posting.cells A4 n4 c4 ps) (hn2 : n2 ≤ 1048576) (hn3 : n3 ≤ 1048576) :
    Calls Try.prog 51 #[.agg #[.slice A0 n0 c0, .slice A1 n1 c1, .slice A2 n2 c2, .slice A3 n3 c3, .slice A4 n4 c4]] w (Ret (.bool (consB got chg ps)) w) := by
  rcases cons_ways got chg ps with ⟨k1, hr⟩ | ⟨k1, k2, hr⟩ | ⟨k1, k2, k3, hr⟩ | ⟨k1, k2, k3, k4, hr⟩ | ⟨k1, k2, k3, k4, hr⟩
  · have HR := hide hr
    clear hr
    go_enter Try.func51, Try.ntmps51
    go_wp2_with fail
    refine (c_allWithin A2 n2 c2 got _ _ _ (h2.ext (Ext.alloc _ _))).mono ?_
    rintro e w' ⟨rfl, rfl⟩
    rw [k1]
    go_wp2_with fail
    go_ret
    exact Ret.bool HR.out (Ext.alloc _ _)
  · have HR := hide hr
    clear hr
    go_enter Try.func51, Try.ntmps51
    go_wp2_with fail
    refine (c_allWithin A2 n2 c2 got _ _ _ (h2.ext (Ext.alloc _ _))).mono ?_
    rintro e w' ⟨rfl, rfl⟩
    rw [k1]
    go_wp2_with fail
    refine (c_allWithin A3 n3 c3 chg _ _ _ (h3.ext (Ext.alloc _ _))).mono ?_
    rintro e w' ⟨rfl, rfl⟩
    rw [k2]
    go_wp2_with fail
    go_ret
    exact Ret.bool HR.out (Ext.alloc _ _)
  · have HR := hide hr
    clear hr
    go_enter Try.func51, Try.ntmps51
    go_wp2_with fail
    refine (c_allWithin A2 n2 c2 got _ _ _ (h2.ext (Ext.alloc _ _))).mono ?_
    rintro e w' ⟨rfl, rfl⟩
    rw [k1]
    go_wp2_with fail
    refine (c_allWithin A3 n3 c3 chg _ _ _ (h3.ext (Ext.alloc _ _))).mono ?_
    rintro e w' ⟨rfl, rfl⟩
    rw [k2]
    go_wp2_with fail
    refine (c_isLedger A4 n4 c4 ps _ (h4.ext (Ext.alloc _ _))).mono ?_
    rw [k3]
    rintro e w1 ⟨rfl, hx1⟩
    go_wp2_with fail
    go_ret
    exact Ret.bool HR.out hx1.box
  all_goals
    have HR := hide hr
    clear hr
    have hb2 := sumI_bd got (allB_mem k1)
    have hb3 := sumI_bd chg (allB_mem k2)
    rw [← h2.len] at hb2
    rw [← h3.len] at hb3
    go_enter Try.func51, Try.ntmps51
    go_wp2_with fail
    refine (c_allWithin A2 n2 c2 got _ _ _ (h2.ext (Ext.alloc _ _))).mono ?_
    rintro e w' ⟨rfl, rfl⟩
    rw [k1]
    go_wp2_with fail
    refine (c_allWithin A3 n3 c3 chg _ _ _ (h3.ext (Ext.alloc _ _))).mono ?_
    rintro e w' ⟨rfl, rfl⟩
    rw [k2]
    go_wp2_with fail
    refine (c_isLedger A4 n4 c4 ps _ (h4.ext (Ext.alloc _ _))).mono ?_
    rw [k3]
    rintro e w1 ⟨rfl, hx1⟩
    have hcl1 := hx1.cell
    go_wp2_with fail
    refine (c_balancesOf A4 n4 c4 ps _ (h4.ext hx1.box) k3).mono ?_
    rintro e w2 ⟨g1, g2, rfl, hg1, hg2, hne, hr1, hr2, hx2⟩
    have hx12 := hx1.trans hx2
    have v1 : w2.cell? ⟨g1, 16, none⟩ = some (.int .i64 (balF Posting.gas ps 16)) := by simpa using hr1.get intC_len (balL_at (balF Posting.gas ps) 16 (by omega)) (j := 0) rfl
    have hl1 := hr1.lt
    have hb0 : ∀ j, w2.cell? ⟨w.heap.size, j, none⟩ = (w.alloc (Obj.cells #[.slice A0 n0 c0, .slice A1 n1 c1, .slice A2 n2 c2, .slice A3 n3 c3, .slice A4 n4 c4] 61)).cell? ⟨w.heap.size, j, none⟩ := fun j => hx12.cell _ _ (by simp)
    have hz := hx12.size
    have hz2 : w.heap.size < w2.heap.size := by simp at hz; omega
    clear hcl1 hz
    have e1 : IntKind.i64.wrap (-sumI got) = -sumI got := IntWalk.i64_in _ (by omega)
    go_wp2_with fail
    refine wp_region_later (by kernel_rfl) (by kernel_rfl) ?_
    repeat (go_big_quiet_step ((first | (go_at_call 77; with_reducible exact quiet_later_same (c_sumOf A2 n2 c2 got _ (h2.ext (hx12.box.trans (ext_later _ _))) k1 hn2)) | (go_at_call 77; with_reducible exact quiet_later_same (c_sumOf A3 n3 c3 chg _ (h3.ext (hx12.box.trans (ext_later _ _))) k2 hn3)))))
    refine wpQuiet_nil ?_
    intro w3 hx3
    go_wp2_with fail
    go_ret
    exact Ret.bool HR.out (hx12.trans hx3).box

set_option maxHeartbeats 2000000 in
theorem c_specIsConserved (A0 A1 A2 A3 A4 : Option Addr) (n0 c0 n1 c1 n2 c2 n3 c3 n4 c4 : Nat) (got chg : List Int) (ps : List Posting) (w : World) (h2 : SliceOf w 1 intC A2 n2 c2 got) (h3 : SliceOf w 1 intC A3 n3 c3 chg) (h4 : SliceOf w 4 Posting.cells A4 n4 c4 ps) (hn2 : n2 ≤ 1048576) (hn3 : n3 ≤ 1048576) :
    Calls Try.prog 49 #[.agg #[.slice A0 n0 c0, .slice A1 n1 c1, .slice A2 n2 c2, .slice A3 n3 c3, .slice A4 n4 c4]] w (Ret (.bool (consB got chg ps)) w) := by
  rcases cons_ways' got chg ps with ⟨k1, hr⟩ | ⟨k1, k2, hr⟩ | ⟨k1, k2, k3, hr⟩ | ⟨k1, k2, k3, k4, hr⟩ | ⟨k1, k2, k3, k4, hr⟩
  · have HR := hide hr
    clear hr
    go_enter Try.func49, Try.ntmps49
    go_wp2_with fail
    refine (c_l30List A4 n4 c4 ps _ (h4.ext (Ext.alloc _ _))).mono ?_
    rw [k1]
    rintro e w1 ⟨rfl, hx1⟩
    have hcl1 := hx1.cell
    go_wp2_with fail
    go_ret
    exact Ret.bool HR.out hx1.box
  · have HR := hide hr
    clear hr
    go_enter Try.func49, Try.ntmps49
    go_wp2_with fail
    refine (c_l30List A4 n4 c4 ps _ (h4.ext (Ext.alloc _ _))).mono ?_
    rw [k1]
    rintro e w1 ⟨rfl, hx1⟩
    have hcl1 := hx1.cell
    go_wp2_with fail
    refine (c_l31Small A2 n2 c2 got _ (h2.ext hx1.box)).mono ?_
    rintro e w' ⟨rfl, rfl⟩
    rw [k2]
    go_wp2_with fail
    go_ret
    exact Ret.bool HR.out hx1.box
  · have HR := hide hr
    clear hr
    go_enter Try.func49, Try.ntmps49
    go_wp2_with fail
    refine (c_l30List A4 n4 c4 ps _ (h4.ext (Ext.alloc _ _))).mono ?_
    rw [k1]
    rintro e w1 ⟨rfl, hx1⟩
    have hcl1 := hx1.cell
    go_wp2_with fail
    refine (c_l31Small A2 n2 c2 got _ (h2.ext hx1.box)).mono ?_
    rintro e w' ⟨rfl, rfl⟩
    rw [k2]
    go_wp2_with fail
    refine (c_l31Small A3 n3 c3 chg _ (h3.ext hx1.box)).mono ?_
    rintro e w' ⟨rfl, rfl⟩
    rw [k3]
    go_wp2_with fail
    go_ret
    exact Ret.bool HR.out hx1.box
  all_goals
    have HR := hide hr
    clear hr
    have hb2 := sumI_bd got (allB_mem k1)
    have hb3 := sumI_bd chg (allB_mem k2)
    rw [← h2.len] at hb2
    rw [← h3.len] at hb3
    go_enter Try.func49, Try.ntmps49
    go_wp2_with fail
    refine (c_l30List A4 n4 c4 ps _ (h4.ext (Ext.alloc _ _))).mono ?_
    rw [k3]
    rintro e w1 ⟨rfl, hx1⟩
    have hcl1 := hx1.cell
    go_wp2_with fail
    refine (c_l31Small A2 n2 c2 got _ (h2.ext hx1.box)).mono ?_
    rintro e w' ⟨rfl, rfl⟩
    rw [k1]
    go_wp2_with fail
    refine (c_l31Small A3 n3 c3 chg _ (h3.ext hx1.box)).mono ?_
    rintro e w' ⟨rfl, rfl⟩
    rw [k2]
    go_wp2_with fail
    refine (c_l01Sum A2 n2 c2 got _ (h2.ext hx1.box) k1 hn2).mono ?_
    rintro e w' ⟨rfl, rfl⟩
    go_wp2_with fail
    refine (c_l30Gas A4 n4 c4 ps _ (h4.ext hx1.box) k3).mono ?_
    rintro e w2 ⟨g1, rfl, hg1, hr1, hx2⟩
    have hx12 := hx1.trans hx2
    have v1 : w2.cell? ⟨g1, 16, none⟩ = some (.int .i64 (balF Posting.gas ps 16)) := by simpa using hr1.get intC_len (balL_at (balF Posting.gas ps) 16 (by omega)) (j := 0) rfl
    have hl1 := hr1.lt
    have hb0 : ∀ j, w2.cell? ⟨w.heap.size, j, none⟩ = (w.alloc (Obj.cells #[.slice A0 n0 c0, .slice A1 n1 c1, .slice A2 n2 c2, .slice A3 n3 c3, .slice A4 n4 c4] 61)).cell? ⟨w.heap.size, j, none⟩ := fun j => hx12.cell _ _ (by simp)
    clear hcl1
  · go_wp2_with fail
    go_ret
    exact Ret.bool HR.out hx12.box
  · go_wp2_with fail
    refine (c_l01Sum A3 n3 c3 chg _ (h3.ext hx12.box) k2 hn3).mono ?_
    rintro e w' ⟨rfl, rfl⟩
    go_wp2_with fail
    go_ret
    exact Ret.bool HR.out hx12.box

end Go.Proofs.Ytclnfjpjmelfpaa
