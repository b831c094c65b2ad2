


/-
  SettleLedger of the program and of the reference, and the law FnExactSettleLedger.
-/
import Derived.Test.YtclnfjpjmelfpaaLedF
import Derived.Test.YtclnfjpjmelfpaaAppend
import Derived.Test.YtclnfjpjmelfpaaPostO
namespace Go.Proofs.Ytclnfjpjmelfpaa
open Go.RowKit Go.ChangeShapes Go.WideShapes Go.ChangeAt Go.Deep Go.Joins

/-- the postings that settle the accounts from k on; none where one is not valid -/
def setF (acc : Int) (G M : Nat → Int) : Nat → Nat → Option (List Posting)
  | 0, _ => some []
  | m + 1, k => if ((k : Int) == acc) = true ∨ ((G k == 0) = true ∧ (M k == 0) = true) then setF acc G M m (k + 1)
    else if postB ⟨acc, k, G k, M k⟩ = false then none else (setF acc G M m (k + 1)).map (⟨acc, k, G k, M k⟩ :: ·)
def setR (acc : Int) (ps : List Posting) : List Posting × Int :=
  if ledB ps = false then ([], 3) else if inB acc 0 23 = false then ([], 2) else
  match setF acc (balF Posting.gas ps) (balF Posting.money ps) 24 0 with
  | none => ([], 1)
  | some l => (l, 0)
theorem setF_len (acc : Int) (G M : Nat → Int) (m k : Nat) (l : List Posting) (h : setF acc G M m k = some l) : l.length ≤ m := by
  induction m generalizing k l with
  | zero => simp [setF] at h; subst h; simp
  | succ m ih =>
    unfold setF at h
    split at h
    · have := ih _ _ h; omega
    · split at h
      · cases h
      · cases hh : setF acc G M m (k + 1) with
        | none => rw [hh] at h; cases h
        | some l' => rw [hh] at h; simp at h; subst h; have := ih _ _ hh; simp; omega
theorem setR_len (acc : Int) (ps : List Posting) : (setR acc ps).1.length ≤ 1000000 := by
  unfold setR
  split
  · simp
  · split
    · simp
    · split
      · simp
      · rename_i h; have := setF_len _ _ _ _ _ _ h; simp; omega
/-- where the loop stands: what has been collected and what is still to come -/
def SetAt (acc : Int) (G M : Nat → Int) (k : Nat) (L : List Posting) : Prop := setF acc G M 24 0 = (setF acc G M (24 - k) k).map (L ++ ·)
theorem set_skip {acc : Int} {G M : Nat → Int} {k : Nat} {L : List Posting} (hk : k < 24) (h : SetAt acc G M k L) (hc : ((k : Int) == acc) = true ∨ ((G k == 0) = true ∧ (M k == 0) = true)) : SetAt acc G M (k + 1) L := by
  unfold SetAt at *
  rw [h, show 24 - k = (24 - (k + 1)) + 1 by omega, setF, if_pos hc]
theorem set_bad {acc : Int} {G M : Nat → Int} {k : Nat} {L : List Posting} (hk : k < 24) (h : SetAt acc G M k L) (hc : ¬ (((k : Int) == acc) = true ∨ ((G k == 0) = true ∧ (M k == 0) = true))) (hb : postB ⟨acc, k, G k, M k⟩ = false) : setF acc G M 24 0 = none := by
  unfold SetAt at h
  rw [h, show 24 - k = (24 - (k + 1)) + 1 by omega, setF, if_neg hc, if_pos hb]; rfl
theorem set_more {acc : Int} {G M : Nat → Int} {k : Nat} {L : List Posting} (hk : k < 24) (h : SetAt acc G M k L) (hc : ¬ (((k : Int) == acc) = true ∨ ((G k == 0) = true ∧ (M k == 0) = true))) (hb : postB ⟨acc, k, G k, M k⟩ = true) : SetAt acc G M (k + 1) (L ++ [⟨acc, k, G k, M k⟩]) := by
  unfold SetAt at *
  rw [h, show 24 - k = (24 - (k + 1)) + 1 by omega, setF, if_neg hc, if_neg (by rw [hb]; simp)]
  cases setF acc G M (24 - (k + 1)) (k + 1) <;> simp
theorem set_done {acc : Int} {G M : Nat → Int} {k : Nat} {L : List Posting} (hk : 24 ≤ k) (h : SetAt acc G M k L) : setF acc G M 24 0 = some L := by
  unfold SetAt at h
  rw [h, show 24 - k = 0 by omega, setF]; simp
theorem set_start (acc : Int) (G M : Nat → Int) : SetAt acc G M 0 [] := by unfold SetAt; simp
theorem set_ways (acc : Int) (G M : Nat → Int) (k : Nat) :
    (((k : Int) == acc) = true ∧ Hid (((k : Int) == acc) = true ∨ ((G k == 0) = true ∧ (M k == 0) = true))) ∨
    (((k : Int) == acc) = false ∧ (G k == 0) = true ∧ (M k == 0) = true ∧ Hid (((k : Int) == acc) = true ∨ ((G k == 0) = true ∧ (M k == 0) = true))) ∨
    (((k : Int) == acc) = false ∧ (G k == 0) = false ∧ Hid (¬ (((k : Int) == acc) = true ∨ ((G k == 0) = true ∧ (M k == 0) = true)))) ∨
    (((k : Int) == acc) = false ∧ (G k == 0) = true ∧ (M k == 0) = false ∧ Hid (¬ (((k : Int) == acc) = true ∨ ((G k == 0) = true ∧ (M k == 0) = true)))) := by
  unfold Hid
  cases ((k : Int) == acc) <;> cases (G k == 0) <;> cases (M k == 0) <;> simp


set_option maxHeartbeats 4000000 in
theorem c_SettleLedger (acc : Int) (A : Option Addr) (n c : Nat) (ps : List Posting) (w : World) (hs : SliceOf w 4 Posting.cells A n c ps) :
    Calls Try.prog 43 #[.slice A n c, .int .i64 acc] w (RetS 25 Posting.cells (setR acc ps) w) := by
  cases h1 : ledB ps
  · have HR := hide (show setR acc ps = ([], 3) by simp [setR, h1])
    go_enter Try.func43, Try.ntmps43
    go_wp2_with fail
    refine (c_isLedger A n c ps _ hs).mono ?_
    rw [h1]
    rintro e w1 ⟨rfl, hx1⟩
    go_wp2_with fail
    go_ret2
    exact RetS.nil_ HR.out hx1
  cases h2 : inB acc 0 23
  · have HR := hide (show setR acc ps = ([], 2) by simp [setR, h1, h2])
    go_enter Try.func43, Try.ntmps43
    go_wp2_with fail
    refine (c_isLedger A n c ps _ hs).mono ?_
    rw [h1]
    rintro e w1 ⟨rfl, hx1⟩
    go_wp2_with (go_at_call 56; refine (c_within _ _ _ _).mono ?_; rintro e w' ⟨rfl, rfl⟩)
    go_ret2
    exact RetS.nil_ HR.out hx1
  have HRn := hide (show setF acc (balF Posting.gas ps) (balF Posting.money ps) 24 0 = none → setR acc ps = ([], 1) by intro h; simp [setR, h1, h2, h])
  have HRs := hide (show ∀ l, setF acc (balF Posting.gas ps) (balF Posting.money ps) 24 0 = some l → setR acc ps = (l, 0) by intro l h; simp [setR, h1, h2, h])
  have hacc := inB_true.1 h2
  go_enter Try.func43, Try.ntmps43
  go_wp2_with fail
  refine (c_isLedger A n c ps _ hs).mono ?_
  rw [h1]
  rintro e w1 ⟨rfl, hx1⟩
  go_wp2_with (go_at_call 56; refine (c_within _ _ _ _).mono ?_; rintro e w' ⟨rfl, rfl⟩)
  refine (c_balancesOf A n c ps _ (hs.ext hx1) h1).mono ?_
  rintro e w2 ⟨g1, g2, rfl, hg1, hg2, hne, hr1, hr2, hx2⟩
  have hl1 := hr1.lt
  have hl2 := hr2.lt
  generalize balF Posting.gas ps = G at *
  generalize balF Posting.money ps = M at *
  go_wp2_with fail
  go_loopw [4, 5, 8, 22] (fun ra rc v i wr => ∃ (k : Nat) (L : List Posting), k ≤ 24 ∧ ra = .slice none 0 0 ∧ rc = .int .i64 0 ∧ i = .int .i64 k ∧ L.length ≤ k ∧ OwnL wr w2.heap.size 25 4 Posting.cells v L ∧ Hid (SetAt acc G M k L) ∧ Ext w2 wr) (fun _ _ _ i _ => 24 - (intOf i).toNat)
  case atStart => exact ⟨0, [], by omega, rfl, rfl, rfl, by simp, OwnL.nil_ _ _ _ _ _, hide (set_start _ _ _), Ext.refl _⟩
  case round =>
    obtain ⟨k, L, hk, rfl, rfl, rfl, hL, hown, HS, hx⟩ := hrel
    by_cases hlt : k < 24
    · have v1 : wr.cell? ⟨g1, k, none⟩ = some (.int .i64 (G k)) := by simpa using (hr1.ext hx).get intC_len (balL_at G k hlt) (j := 0) rfl
      have v2 : wr.cell? ⟨g2, k, none⟩ = some (.int .i64 (M k)) := by simpa using (hr2.ext hx).get intC_len (balL_at M k hlt) (j := 0) rfl
      have hsz := hx.size
      have hz1 : g1 < wr.heap.size := by omega
      have hz2 : g2 < wr.heap.size := by omega
      rcases set_ways acc G M k with ⟨e1, HC⟩ | ⟨e1, e2, e3, HC⟩ | ⟨e1, e2, HC⟩ | ⟨e1, e2, e3, HC⟩
      · go_wp2_with fail
        go_roundw
        case rel => exact ⟨k + 1, L, by omega, rfl, rfl, by go_num, by omega, hown, hide (set_skip hlt HS.out HC.out), hx⟩
        case measure => simp [intOf]; omega
      · go_wp2_with fail
        go_roundw
        case rel => exact ⟨k + 1, L, by omega, rfl, rfl, by go_num, by omega, hown, hide (set_skip hlt HS.out HC.out), hx⟩
        case measure => simp [intOf]; omega
      all_goals
        cases hp : postB ⟨acc, k, G k, M k⟩
        · have HB := hide (HRn.out (set_bad hlt HS.out HC.out hp))
          go_wp2_with fail
          refine wp_region_ph0 [([0, 1, 2, 3, 4, 5, 6, 7, 8, 9, 10], 11), ([], 12)] [] (by kernel_rfl) (by kernel_rfl) (by intro c a w d v h; cases d <;> exact h) ?_
          simp only [wpPh0, pickL, nthO]
          repeat (go_big_quiet_step (fail))
          refine wpQuiet_nil ?_
          go_wp2_with fail
          refine ⟨(Ext.alloc _ _).drew, wpQuiet_nil ?_⟩
          go_wp2_with fail
          refine ⟨(Ext.alloc _ _).drew, wpQuiet_nil ?_⟩
          go_wp2_with fail
          refine (c_IsPosting ⟨acc, k, G k, M k⟩ _).mono ?_
          rw [hp]
          rintro e w3 ⟨rfl, hx3⟩
          go_wp2_with fail
          go_ret2
          exact RetS.nil_ HB.out (((hx1.trans hx2).trans hx).trans ((Ext.alloc _ _).drew.trans hx3))
        · have HG := hide (set_more hlt HS.out HC.out hp)
          go_wp2_with fail
          refine wp_region_ph0 [([0, 1, 2, 3, 4, 5, 6, 7, 8, 9, 10], 11), ([], 12)] [] (by kernel_rfl) (by kernel_rfl) (by intro c a w d v h; cases d <;> exact h) ?_
          simp only [wpPh0, pickL, nthO]
          repeat (go_big_quiet_step (fail))
          refine wpQuiet_nil ?_
          go_wp2_with fail
          refine ⟨(Ext.alloc _ _).drew, wpQuiet_nil ?_⟩
          go_wp2_with fail
          refine ⟨(Ext.alloc _ _).drew, wpQuiet_nil ?_⟩
          go_wp2_with fail
          refine (c_IsPosting ⟨acc, k, G k, M k⟩ _).mono ?_
          rw [hp]
          rintro e w3 ⟨rfl, hx3⟩
          have hxr3 := (Ext.alloc wr (.cells #[.int .i64 acc, .int .i64 k, .int .i64 (G k), .int .i64 (M k)] 25)).drew.trans hx3
          have hb3 : ∀ j, w3.cell? ⟨wr.heap.size, j, none⟩ = (wr.alloc (.cells #[.int .i64 acc, .int .i64 k, .int .i64 (G k), .int .i64 (M k)] 25)).drew.cell? ⟨wr.heap.size, j, none⟩ := fun j => hx3.cell _ _ (by simp)
          have hz3 := hx3.size
          have hz4 : wr.heap.size < w3.heap.size := by simp at hz3; omega
          clear hz3
          go_wp2_with (at_builtin; refine wpList_append_one rfl _ _ 31 rfl w2.heap.size 25 _ 4 32 Try.underlying31 posting_info rfl (by decide) Posting.cells post_len post_one _ _ rfl (hown.ext (hxr3.and_alloc _)) w3 ⟨acc, k, G k, M k⟩ rfl _ rfl (by simp) (by omega) (by omega) (by first | omega | (simp; omega)) ?_)
          intro v1 w4 hown4 hext4
          have hx4 := hext4 w2 (Nat.le_refl _) ((hx.trans hxr3).and_alloc _)
          go_wp2_with fail
          go_roundw
          case rel => exact ⟨k + 1, _, by omega, rfl, rfl, by go_num, by simp; omega, hown4, HG, hx4⟩
          case measure => simp [intOf]; omega
    · have HB := hide (HRs.out _ (set_done (by omega) HS.out))
      go_wp2_with fail
      go_ret2
      obtain ⟨A', c', g, hv, hg, hnc, hcm, ho⟩ := hown.own post_len (by omega)
      refine ⟨A', _, c', g, ?_, hnc, hcm, by have := (hx1.trans hx2).size; omega, by rw [HB.out]; exact ho, (hx1.trans hx2).trans hx⟩
      rw [HB.out, hv]; rfl

set_option maxHeartbeats 4000000 in
theorem c_specSettleLedger (acc : Int) (A : Option Addr) (n c : Nat) (ps : List Posting) (w : World) (hs : SliceOf w 4 Posting.cells A n c ps) :
    Calls Try.prog 42 #[.slice A n c, .int .i64 acc] w (RetS 25 Posting.cells (setR acc ps) w) := by
  cases h1 : ledB ps
  · have HR := hide (show setR acc ps = ([], 3) by simp [setR, h1])
    go_enter Try.func42, Try.ntmps42
    go_wp2_with fail
    refine (c_l30List A n c ps _ hs).mono ?_
    rw [h1]
    rintro e w1 ⟨rfl, hx1⟩
    go_wp2_with fail
    go_ret2
    exact RetS.nil_ HR.out hx1
  cases h2 : inB acc 0 23
  · have HR := hide (show setR acc ps = ([], 2) by simp [setR, h1, h2])
    go_enter Try.func42, Try.ntmps42
    go_wp2_with fail
    refine (c_l30List A n c ps _ hs).mono ?_
    rw [h1]
    rintro e w1 ⟨rfl, hx1⟩
    go_wp2_with (go_at_call 53; refine (c_l30Account _ _).mono ?_; rintro e w' ⟨rfl, rfl⟩)
    go_ret2
    exact RetS.nil_ HR.out hx1
  have HRn := hide (show setF acc (balF Posting.gas ps) (balF Posting.money ps) 24 0 = none → setR acc ps = ([], 1) by intro h; simp [setR, h1, h2, h])
  have HRs := hide (show ∀ l, setF acc (balF Posting.gas ps) (balF Posting.money ps) 24 0 = some l → setR acc ps = (l, 0) by intro l h; simp [setR, h1, h2, h])
  have hacc := inB_true.1 h2
  go_enter Try.func42, Try.ntmps42
  go_wp2_with fail
  refine (c_l30List A n c ps _ hs).mono ?_
  rw [h1]
  rintro e w1 ⟨rfl, hx1⟩
  go_wp2_with (go_at_call 53; refine (c_l30Account _ _).mono ?_; rintro e w' ⟨rfl, rfl⟩)
  refine (c_l30Gas A n c ps _ (hs.ext hx1) h1).mono ?_
  rintro e w2a ⟨g1, rfl, hg1, hr1a, hx2a⟩
  go_wp2_with fail
  refine (c_l30Money A n c ps _ (hs.ext (hx1.trans hx2a)) h1).mono ?_
  rintro e w2 ⟨g2, rfl, hg2, hr2, hx2b⟩
  have hr1 := hr1a.ext hx2b
  have hx2 := hx2a.trans hx2b
  have hl1 := hr1.lt
  have hl2 := hr2.lt
  generalize balF Posting.gas ps = G at *
  generalize balF Posting.money ps = M at *
  go_wp2_with fail
  go_loopw [4, 5, 8, 9] (fun ra rc v i wr => ∃ (k : Nat) (L : List Posting), k ≤ 24 ∧ ra = .slice none 0 0 ∧ rc = .int .i64 0 ∧ i = .int .i64 k ∧ L.length ≤ k ∧ OwnL wr w2.heap.size 25 4 Posting.cells v L ∧ Hid (SetAt acc G M k L) ∧ Ext w2 wr) (fun _ _ _ i _ => 24 - (intOf i).toNat)
  case atStart => exact ⟨0, [], by omega, rfl, rfl, rfl, by simp, OwnL.empty _ _ _ _ _ (Nat.le_refl _), hide (set_start _ _ _), Ext.alloc _ _⟩
  case round =>
    obtain ⟨k, L, hk, rfl, rfl, rfl, hL, hown, HS, hx⟩ := hrel
    by_cases hlt : k < 24
    · have v1 : wr.cell? ⟨g1, k, none⟩ = some (.int .i64 (G k)) := by simpa using (hr1.ext hx).get intC_len (balL_at G k hlt) (j := 0) rfl
      have v2 : wr.cell? ⟨g2, k, none⟩ = some (.int .i64 (M k)) := by simpa using (hr2.ext hx).get intC_len (balL_at M k hlt) (j := 0) rfl
      have hsz := hx.size
      have hz1 : g1 < wr.heap.size := by omega
      have hz2 : g2 < wr.heap.size := by omega
      rcases set_ways acc G M k with ⟨e1, HC⟩ | ⟨e1, e2, e3, HC⟩ | ⟨e1, e2, HC⟩ | ⟨e1, e2, e3, HC⟩
      · go_wp2_with fail
        refine wp_region_ph0 [([0, 1, 2, 3, 4, 5, 6, 7, 8, 9, 10], 11), ([], 12)] [] (by kernel_rfl) (by kernel_rfl) (by intro c a w d v h; cases d <;> exact h) ?_
        simp only [wpPh0, pickL, nthO]
        repeat (go_big_quiet_step (fail))
        refine wpQuiet_nil ?_
        go_wp2_with fail
        refine ⟨(Ext.alloc _ _).drew, wpQuiet_nil ?_⟩
        go_wp2_with fail
        refine ⟨(Ext.alloc _ _).drew, wpQuiet_nil ?_⟩
        go_wp2_with fail
        go_roundw
        case rel => exact ⟨k + 1, L, by omega, rfl, rfl, by go_num, by omega, hown.ext ((Ext.alloc _ _).drew), hide (set_skip hlt HS.out HC.out), (hx.and_alloc _).drew⟩
        case measure => simp [intOf]; omega
      · go_wp2_with fail
        refine wp_region_ph0 [([0, 1, 2, 3, 4, 5, 6, 7, 8, 9, 10], 11), ([], 12)] [] (by kernel_rfl) (by kernel_rfl) (by intro c a w d v h; cases d <;> exact h) ?_
        simp only [wpPh0, pickL, nthO]
        repeat (go_big_quiet_step (fail))
        refine wpQuiet_nil ?_
        go_wp2_with fail
        refine ⟨(Ext.alloc _ _).drew, wpQuiet_nil ?_⟩
        go_wp2_with fail
        refine ⟨(Ext.alloc _ _).drew, wpQuiet_nil ?_⟩
        go_wp2_with fail
        go_roundw
        case rel => exact ⟨k + 1, L, by omega, rfl, rfl, by go_num, by omega, hown.ext ((Ext.alloc _ _).drew), hide (set_skip hlt HS.out HC.out), (hx.and_alloc _).drew⟩
        case measure => simp [intOf]; omega
      all_goals
        cases hp : postB ⟨acc, k, G k, M k⟩
        · have HB := hide (HRn.out (set_bad hlt HS.out HC.out hp))
          go_wp2_with fail
          refine wp_region_ph0 [([0, 1, 2, 3, 4, 5, 6, 7, 8, 9, 10], 11), ([], 12)] [] (by kernel_rfl) (by kernel_rfl) (by intro c a w d v h; cases d <;> exact h) ?_
          simp only [wpPh0, pickL, nthO]
          repeat (go_big_quiet_step (fail))
          refine wpQuiet_nil ?_
          go_wp2_with fail
          refine ⟨(Ext.alloc _ _).drew, wpQuiet_nil ?_⟩
          go_wp2_with fail
          refine ⟨(Ext.alloc _ _).drew, wpQuiet_nil ?_⟩
          go_wp2_with fail
          refine (c_specIsPosting ⟨acc, k, G k, M k⟩ _).mono ?_
          rw [hp]
          rintro e w3 ⟨rfl, hx3⟩
          go_wp2_with fail
          go_ret2
          exact RetS.nil_ HB.out (((hx1.trans hx2).trans hx).trans ((Ext.alloc _ _).drew.trans hx3))
        · have HG := hide (set_more hlt HS.out HC.out hp)
          go_wp2_with fail
          refine wp_region_ph0 [([0, 1, 2, 3, 4, 5, 6, 7, 8, 9, 10], 11), ([], 12)] [] (by kernel_rfl) (by kernel_rfl) (by intro c a w d v h; cases d <;> exact h) ?_
          simp only [wpPh0, pickL, nthO]
          repeat (go_big_quiet_step (fail))
          refine wpQuiet_nil ?_
          go_wp2_with fail
          refine ⟨(Ext.alloc _ _).drew, wpQuiet_nil ?_⟩
          go_wp2_with fail
          refine ⟨(Ext.alloc _ _).drew, wpQuiet_nil ?_⟩
          go_wp2_with fail
          refine (c_specIsPosting ⟨acc, k, G k, M k⟩ _).mono ?_
          rw [hp]
          rintro e w3 ⟨rfl, hx3⟩
          have hxr3 := (Ext.alloc wr (.cells #[.int .i64 acc, .int .i64 k, .int .i64 (G k), .int .i64 (M k)] 25)).drew.trans hx3
          have hb3 : ∀ j, w3.cell? ⟨wr.heap.size, j, none⟩ = (wr.alloc (.cells #[.int .i64 acc, .int .i64 k, .int .i64 (G k), .int .i64 (M k)] 25)).drew.cell? ⟨wr.heap.size, j, none⟩ := fun j => hx3.cell _ _ (by simp)
          have hz3 := hx3.size
          have hz4 : wr.heap.size < w3.heap.size := by simp at hz3; omega
          clear hz3
          go_wp2_with (at_builtin; refine wpList_append_one rfl _ _ 31 rfl w2.heap.size 25 _ 4 32 Try.underlying31 posting_info rfl (by decide) Posting.cells post_len post_one _ _ rfl (hown.ext (hxr3.and_alloc _)) w3 ⟨acc, k, G k, M k⟩ rfl _ rfl (by simp) (by omega) (by omega) (by first | omega | (simp; omega)) ?_)
          intro v1 w4 hown4 hext4
          have hx4 := hext4 w2 (Nat.le_refl _) ((hx.trans hxr3).and_alloc _)
          go_wp2_with fail
          go_roundw
          case rel => exact ⟨k + 1, _, by omega, rfl, rfl, by go_num, by simp; omega, hown4, HG, hx4⟩
          case measure => simp [intOf]; omega
    · have HB := hide (HRs.out _ (set_done (by omega) HS.out))
      go_wp2_with fail
      go_ret2
      obtain ⟨A', c', g, hv, hg, hnc, hcm, ho⟩ := hown.own post_len (by omega)
      refine ⟨A', _, c', g, ?_, hnc, hcm, by have := (hx1.trans hx2).size; omega, by rw [HB.out]; exact ho, (hx1.trans hx2).trans hx⟩
      rw [HB.out, hv]; rfl

set_option maxHeartbeats 4000000 in
theorem law_SettleLedger (acc : Int) (A : Option Addr) (n c : Nat) (ps : List Posting) (w : World) (hs : SliceOf w 4 Posting.cells A n c ps) :
    Calls Try.prog 11 #[.slice A n c, .int .i64 acc] w (Ret (.bool true) w) := by
  have hcap := hs.cap
  have hmax := hs.max
  have hR := setR_len acc ps
  have hLn := hs.len
  have HLn := hide hLn
  clear hLn
  go_enter Try.func11, Try.ntmps11
  go_wp2_with fail
  refine (c_szPostingS A n c 1048576 _ hcap hmax (by omega) (by omega)).mono ?_
  rintro e w' ⟨rfl, rfl⟩
  by_cases hn : (1048576 : Int) < n
  · rw [if_pos hn]
    go_wp2_with fail
    go_ret
    exact Ret.bool rfl (Ext.refl _)
  rw [if_neg hn]
  have hn' : n ≤ 1048576 := by omega
  have hpl : ps.length ≤ 1048576 := by rw [← HLn.out]; exact hn'
  go_wp2_with fail
  refine (c_toPostingS A n c ps _ hs hn').mono ?_
  rintro e w1 ⟨g1, rfl, hg1, hr1, hx1⟩
  go_wp2_with fail
  refine (c_specSettleLedger acc _ _ _ ps _ (hr1.slice post_len rfl (by omega))).mono ?_
  rintro e w2 ⟨A2, n2, c2, g2, rfl, hn2, hc2, hg2, ho2, hx2⟩
  go_wp2_with fail
  have hx02 := hx1.trans hx2
  refine (c_toPostingS A n c ps _ (hs.ext hx02) hn').mono ?_
  rintro e w3 ⟨g3, rfl, hg3, hr3, hx3⟩
  have hx03 := hx02.trans hx3
  go_wp2_with fail
  refine (c_SettleLedger acc _ _ _ ps _ (hr3.slice post_len rfl (by omega))).mono ?_
  rintro e w4 ⟨A4, n4, c4, g4, rfl, hn4, hc4, hg4, ho4, hx4⟩
  have hx04 := hx03.trans hx4
  have ho2' := ho2.ext (hx3.trans hx4)
  have hr3' := hr3.ext hx4
  have hl3 := hr3.lt
  go_wp2_with fail
  refine (c_eqPostingS _ _ _ _ _ _ (setR acc ps).1 _ (ho4.slice post_len hn4 hc4) (ho2'.slice post_len hn2 hc2)).mono ?_
  rintro e w5 ⟨rfl, hx5⟩
  go_wp2_with fail
  have hx05 := hx04.trans hx5
  refine (c_toPostingS A n c ps _ (hs.ext hx05) hn').mono ?_
  rintro e w6 ⟨g6, rfl, hg6, hr6, hx6⟩
  go_wp2_with fail
  refine (c_eqPostingS _ _ _ _ _ _ ps _ ((hr3'.ext (hx5.trans hx6)).slice post_len rfl (by omega)) (hr6.slice post_len rfl (by omega))).mono ?_
  rintro e w7 ⟨rfl, hx7⟩
  have hx57 := hx5.trans (hx6.trans hx7)
  have hx07 := hx04.trans hx57
  go_wp2_with fail
  refine (c_markPostingS g3 _ _ _ ps 1 _ (OwnS.of_row (hr3'.ext hx57)) (by omega) (Nat.le_refl _) (by omega) (by omega) (by omega)).mono ?_
  rintro e w8 ⟨rfl, _, hk8⟩
  have hs2 := hx1.size
  have hs3 := hx02.size
  have hsz2 := fun h => ho2.lt h
  have ho2a := (ho2'.ext hx57).onlyz hk8 (fun h => by have := hsz2 h; omega)
  have ho4a := (ho4.ext hx57).onlyz hk8 (fun _ => by omega)
  have hx08 := hx07.only hk8 (by omega)
  go_wp2_with fail
  refine (c_eqPostingS _ _ _ _ _ _ (setR acc ps).1 _ (ho4a.slice post_len hn4 hc4) (ho2a.slice post_len hn2 hc2)).mono ?_
  rintro e w9 ⟨rfl, hx9⟩
  have hl4 := ho4.1
  have hn4' : n4 ≤ 1000000000 := by omega
  have HL4 := hide hl4
  clear hl4
  go_wp2_with fail
  refine (c_markPostingS g4 _ _ _ (setR acc ps).1 1 _ (ho4a.ext hx9) hn4' hn4 hc4 (by omega) (by omega)).mono ?_
  rintro e w10 ⟨rfl, ho10, hk10⟩
  have ho2b := (ho2a.ext hx9).onlyz hk10 (fun h => by have := hsz2 h; have := hx3.size; omega)
  have hx10 := (hx08.trans hx9).only hk10 (by have := hx03.size; omega)
  go_wp2_with fail
  refine (c_heldPostingS _ _ _ 1 _ (ho10.slice post_len hn4 hc4) hn4' (by omega) (by omega)).mono ?_
  rintro e w' ⟨rfl, rfl⟩
  go_wp2_with fail
  refine (c_toPostingS A n c ps _ (hs.ext hx10) hn').mono ?_
  rintro e w11 ⟨g11, rfl, hg11, hr11, hx11⟩
  go_wp2_with fail
  refine (c_SettleLedger acc _ _ _ ps _ (hr11.slice post_len rfl (by omega))).mono ?_
  rintro e w12 ⟨A12, n12, c12, g12, rfl, hn12, hc12, hg12, ho12, hx12⟩
  have hxb := hx11.trans hx12
  go_wp2_with fail
  refine (c_eqPostingS _ _ _ _ _ _ (setR acc ps).1 _ (ho12.slice post_len hn12 hc12) ((ho2b.ext hxb).slice post_len hn2 hc2)).mono ?_
  rintro e w13 ⟨rfl, hx13⟩
  go_wp2_with fail
  refine (c_heldPostingS _ _ _ 1 _ ((ho10.ext (hxb.trans hx13)).slice post_len hn4 hc4) hn4' (by omega) (by omega)).mono ?_
  rintro e w' ⟨rfl, rfl⟩
  go_wp2_with fail
  go_ret
  exact Ret.bool rfl ((hx10.trans hxb).trans hx13)

set_option maxRecDepth 100000 in
theorem lifted_SettleLedger (os : Os) (started : os.Started) (H : Type) (enc : TypeId × Value → H) :
    ReturnsInHanded {} Try.checked os 11 .any (Rows.fnExactSettleLedgerSpec.pre6 enc Try.prog Try.f11 Rows.fnExactSettleLedgerRow.domain false) (Rows.fnExactSettleLedgerSpec.post enc Try.prog Try.f11 false true false false) := by
  refine returnsInHanded_of_change (C := Try.checked) own started (by kernel_rfl) Try.func11
    (ChangeSpec.witness6 (enc := enc) (C := Try.checked) false ⟨#[], #[.slice none 0 0, .int .i64 0], []⟩ 8 (by kernel_rfl) (by kernel_rfl) (by kernel_rfl) (by kernel_rfl)) ?_
  intro W base args ds gs before hval0 hW _ _
  have hval : ∀ (j : Nat) t v, Try.f11.params[j]? = some t → args[j]? = some v → Value.okWide Try.prog W .any base t v := hval0
  have hW' := hW
  obtain ⟨p, q, hA0, hV, rfl, hfz, hnd⟩ := hW
  have hA : DataW.TrodAll enc Try.prog W 0 (fun _ => true) true Try.f11.params.toList args.toList ds p := hA0
  rw [Try.params11] at hA hval
  obtain ⟨v0, vs0, d0, ds0, p0, q0, hargs, rfl, rfl, h0, r0⟩ := trodAll_cons hA
  obtain ⟨v1, vs1, d1, ds1, p1, q1, rfl, rfl, rfl, h1, r1⟩ := trodAll_cons r0
  obtain ⟨rfl, rfl, rfl⟩ := trodAll_nil r1
  obtain rfl : args = #[v0, v1] := by cases args; simp_all
  obtain ⟨rfl, rfl⟩ := trodVars_none hV
  have k0 := h0
  have lt0 : ∀ x ∈ p0, x.block < W.heap.size := by obtain ⟨m, hm⟩ := k0; exact DataW.trod_lt m _ _ _ hm
  obtain ⟨A, n, c, ps, e0, hs⟩ := open_postings (hval 0 28 v0 rfl rfl) h0
  obtain ⟨a1, rfl, rfl, rfl, w1⟩ := open_int Try.underlying2 (hval 1 2 v1 rfl rfl) h1
  rw [e0]
  clear hA0 hval0
  refine (law_SettleLedger a1 A n c ps W hs).mono fun e W' ⟨he, bel⟩ => ?_
  subst he
  rw [e0] at hW'
  exact ⟨_, rfl, _, _, _, [], _, [], hW', trodAll_mk1 (shut_bool Try.underlying4 _), (trodAll_cons_mk (Below.trod laidOut (by kernel_rfl) (of_decide_eq_true (by kernel_rfl)) (e0 ▸ k0) bel lt0) (trodAll_cons_mk (shut_int Try.underlying2 w1) trodAll_mk0)), rfl, bel.frame _, fun h => by cases h⟩

theorem holds_SettleLedger : Rows.FnExactSettleLedgerSaid :=
  OpenClaim.holds_of_wide 11 Try.f11 rfl rfl rfl rfl rfl rfl rfl ⟨rfl, rfl, rfl, rfl, rfl⟩ rfl rfl rfl rfl rfl (by kernel_rfl) Try.func11 (by kernel_rfl)
    (of_decide_eq_true (by kernel_rfl)) (by unfold Func.isWrapper; first | (rw [if_pos (by decide +kernel)]; kernel_rfl) | (rw [if_neg (by decide +kernel)]; exact ⟨rfl, rfl⟩))
    (fun os started H enc _ => lifted_SettleLedger os started H enc)
#print axioms holds_SettleLedger
end Go.Proofs.Ytclnfjpjmelfpaa
