


/-
  JoinLedgers of the program (by way of slices.Concat and slices.Grow) and of the reference.
-/
import Derived.Test.YtclnfjpjmelfpaaLedF
import Derived.Test.YtclnfjpjmelfpaaAppend
import Derived.Test.YtclnfjpjmelfpaaPostO
namespace Go.Proofs.Ytclnfjpjmelfpaa
open Go.RowKit

/-- an empty slice of the call's own that may be appended to -/
def NewEmpty (w : World) (e : Ending) (w' : World) : Prop :=
  ∃ v, e = .returned v ∧ OwnL w' w.heap.size 25 4 Posting.cells v ([] : List Posting) ∧ Ext w w'
theorem c_GrowNil (n : Nat) (w : World) (hn : n ≤ 1048576) :
    Calls Try.prog 81 #[.slice none 0 0, .int .i64 n] w (NewEmpty w) := by
  by_cases h0 : 0 < n
  · obtain ⟨i, hi1, hi2, hi3, hi4⟩ := info_parts posting_info
    have hz := fun W ty => Lib.run_append_nil_zeros (P := Try.prog) W 31 3 ty 25 i _ .i64 .i64 Try.underlying31 Try.underlying3 hi1 hi2 n h0 (by rw [hi3]; omega) (by omega) (by rw [hi4]; omega)
    have HZ := hide hz
    clear hz
    go_enter Try.func81, Try.ntmps81
    go_wp2_with (at_builtin; go_must (refine Lib.wpList_append_run _ rfl _ _ _ _ rfl _ _ rfl rfl _ _ (HZ.out _ _) ?_))
    go_ret
    refine ⟨_, rfl, ⟨by simp, .inr ⟨w.heap.size, grownCap w n 0 25, _, rfl, Nat.le_refl _, heap_alloc_new w _, Nat.zero_le _, grownCap_le_maxLen w n 0 _ (by simp only [maxLen]; omega), ?_, by simp⟩⟩, (Ext.alloc _ _).drew⟩
    have := grownCap_ge w n 0 25
    rw [Array.size_append, size_zeroCells, size_zeroCells]
    simp
    omega
  · have hn0 : n = 0 := by omega
    subst hn0
    go_enter Try.func81, Try.ntmps81
    go_wp2_with fail
    go_ret
    exact ⟨_, rfl, OwnL.nil_ _ _ _ _ _, Ext.refl _⟩

/-- a slice of the call's own -/
def NewOwnL (ps : List Posting) (w : World) (e : Ending) (w' : World) : Prop :=
  ∃ v, e = .returned v ∧ OwnL w' w.heap.size 25 4 Posting.cells v ps ∧ Ext w w'
set_option maxHeartbeats 2000000 in
theorem c_Concat2 (b : Nat) (A1 A2 : Option Addr) (n1 c1 n2 c2 : Nat) (ps qs : List Posting) (w : World) (hb : b < w.heap.size) (hc0 : w.cell? ⟨b, 0, none⟩ = some (.slice A1 n1 c1)) (hc1 : w.cell? ⟨b, 1, none⟩ = some (.slice A2 n2 c2))
    (h1 : SliceOf w 4 Posting.cells A1 n1 c1 ps) (h2 : SliceOf w 4 Posting.cells A2 n2 c2 qs) (hn1 : n1 ≤ 1000) (hn2 : n2 ≤ 1000) :
    Calls Try.prog 70 #[.slice (some ⟨b, 0, none⟩) 2 2] w (NewOwnL (ps ++ qs) w) := by
  have HL1 := hide h1.len
  have HL2 := hide h2.len
  go_enter Try.func70, Try.ntmps70
  go_wp2_with fail
  go_loop [3, 11] (fun s i => ∃ (k S : Nat), k ≤ 2 ∧ s = .int .i64 (S : Int) ∧ i = .int .i64 k ∧ S ≤ 1000 * k) (fun _ i => 2 - (intOf i).toNat)
  case atStart => exact ⟨0, 0, by omega, rfl, rfl, by omega⟩
  case round =>
    obtain ⟨k, S, hk, rfl, rfl, hS⟩ := hrel
    by_cases hlt : k < 2
    · have hk2 : k = 0 ∨ k = 1 := by omega
      rcases hk2 with rfl | rfl
      · go_wp2_with fail
        go_round
        case rel => exact ⟨1, S + n1, by omega, by go_num, rfl, by omega⟩
        case measure => simp [intOf]
      · go_wp2_with fail
        go_round
        case rel => exact ⟨2, S + n2, by omega, by go_num, rfl, by omega⟩
        case measure => simp [intOf]
    · go_wp2_with fail
      refine (c_GrowNil S _ (by omega)).mono ?_
      rintro e w1 ⟨v1, rfl, hown1, hx1⟩
      have d0 : w1.cell? ⟨b, 0, none⟩ = some (.slice A1 n1 c1) := by rw [hx1.cell _ _ hb]; exact hc0
      have d1 : w1.cell? ⟨b, 1, none⟩ = some (.slice A2 n2 c2) := by rw [hx1.cell _ _ hb]; exact hc1
      go_wp2_with fail
      go_loopw [6, 27] (fun v i wr => ∃ (q : Nat) (L : List Posting), q ≤ 2 ∧ i = .int .i64 q ∧ OwnL wr w.heap.size 25 4 Posting.cells v L ∧ L.length ≤ 1000 * q ∧ Hid (L = if q = 0 then [] else if q = 1 then ps else ps ++ qs) ∧ Ext w wr) (fun _ i _ => 2 - (intOf i).toNat)
      case atStart => exact ⟨0, [], by omega, rfl, hown1, by simp, hide rfl, hx1⟩
      case round =>
        obtain ⟨q, L, hq, rfl, hown, hLl, HL, hx⟩ := hrel
        have e0 : wr.cell? ⟨b, 0, none⟩ = some (.slice A1 n1 c1) := by rw [hx.cell _ _ hb]; exact hc0
        have e1 : wr.cell? ⟨b, 1, none⟩ = some (.slice A2 n2 c2) := by rw [hx.cell _ _ hb]; exact hc1
        have hsz := hx.size
        clear d0 d1
        by_cases hlt2 : q < 2
        · have hq2 : q = 0 ∨ q = 1 := by omega
          rcases hq2 with rfl | rfl
          · go_wp2_with (at_builtin; go_must (refine wpList_append_slice rfl _ _ 31 rfl w.heap.size 25 _ 4 32 Try.underlying31 posting_info rfl (by decide) Posting.cells post_len post_one _ L rfl hown A1 n1 c1 ps rfl (h1.ext hx) (by omega) (by omega) hsz ?_))
            intro v2 w2 hown2 hext2
            have hx2 := hext2 w (Nat.le_refl _) hx
            go_wp2_with fail
            go_roundw
            case rel => exact ⟨1, L ++ ps, by omega, rfl, hown2, by rw [List.length_append, ← HL1.out]; omega, hide (by rw [HL.out]; rfl), hx2⟩
            case measure => simp [intOf]
          · go_wp2_with (at_builtin; go_must (refine wpList_append_slice rfl _ _ 31 rfl w.heap.size 25 _ 4 32 Try.underlying31 posting_info rfl (by decide) Posting.cells post_len post_one _ L rfl hown A2 n2 c2 qs rfl (h2.ext hx) (by omega) (by omega) hsz ?_))
            intro v2 w2 hown2 hext2
            have hx2 := hext2 w (Nat.le_refl _) hx
            go_wp2_with fail
            go_roundw
            case rel => exact ⟨2, L ++ qs, by omega, rfl, hown2, by rw [List.length_append, ← HL2.out]; omega, hide (by rw [HL.out]; rfl), hx2⟩
            case measure => simp [intOf]
        · obtain rfl : q = 2 := by omega
          go_wp2_with fail
          go_ret
          refine ⟨_, rfl, ?_, hx⟩
          have := HL.out
          simp at this
          rw [← this]
          exact hown

def joinR (ps qs : List Posting) : List Posting × Int := if ledB ps = false ∨ ledB qs = false ∨ 300 < ps.length + qs.length then ([], 3) else (ps ++ qs, 0)
theorem join_ways (ps qs : List Posting) : (ledB ps = false ∧ joinR ps qs = ([], 3)) ∨ (ledB ps = true ∧ ledB qs = false ∧ joinR ps qs = ([], 3)) ∨
    (ledB ps = true ∧ ledB qs = true ∧ 300 < ps.length + qs.length ∧ joinR ps qs = ([], 3)) ∨ (ledB ps = true ∧ ledB qs = true ∧ ps.length + qs.length ≤ 300 ∧ joinR ps qs = (ps ++ qs, 0)) := by
  unfold joinR
  by_cases h : 300 < ps.length + qs.length <;> cases ledB ps <;> cases ledB qs <;> simp [h] <;> omega
theorem joinR_len (ps qs : List Posting) : (joinR ps qs).1.length ≤ 1000000 := by
  rcases join_ways ps qs with ⟨_, h⟩ | ⟨_, _, h⟩ | ⟨_, _, _, h⟩ | ⟨_, _, h1, h⟩ <;> rw [h] <;> simp <;> omega


set_option maxHeartbeats 2000000 in
theorem c_JoinLedgers (A1 A2 : Option Addr) (n1 c1 n2 c2 : Nat) (ps qs : List Posting) (w : World) (h1 : SliceOf w 4 Posting.cells A1 n1 c1 ps) (h2 : SliceOf w 4 Posting.cells A2 n2 c2 qs) :
    Calls Try.prog 37 #[.slice A1 n1 c1, .slice A2 n2 c2] w (RetS 25 Posting.cells (joinR ps qs) w) := by
  have hm1 := h1.max
  have hm2 := h2.max
  have hp1 := h1.cap
  have hp2 := h2.cap
  have HL1 := hide h1.len
  have HL2 := hide h2.len
  rcases join_ways ps qs with ⟨k1, hr⟩ | ⟨k1, k2, hr⟩ | ⟨k1, k2, k3, hr⟩ | ⟨k1, k2, k3, hr⟩
  · have HR := hide hr
    clear hr
    go_enter Try.func37, Try.ntmps37
    go_wp2_with fail
    refine (c_isLedger A1 n1 c1 ps _ h1).mono ?_
    rw [k1]
    rintro e w1 ⟨rfl, hx1⟩
    go_wp2_with fail
    go_ret2
    exact RetS.nil_ HR.out hx1
  · have HR := hide hr
    clear hr
    go_enter Try.func37, Try.ntmps37
    go_wp2_with fail
    refine (c_isLedger A1 n1 c1 ps _ h1).mono ?_
    rw [k1]
    rintro e w1 ⟨rfl, hx1⟩
    go_wp2_with fail
    refine (c_isLedger A2 n2 c2 qs _ (h2.ext hx1)).mono ?_
    rw [k2]
    rintro e w2 ⟨rfl, hx2⟩
    go_wp2_with fail
    go_ret2
    exact RetS.nil_ HR.out (hx1.trans hx2)
  · have HR := hide hr
    have hg : 300 < n1 + n2 := by rw [HL1.out, HL2.out]; exact k3
    have hl1 : n1 ≤ 300 := by rw [HL1.out]; exact (ledB_true k1).1
    have hl2 : n2 ≤ 300 := by rw [HL2.out]; exact (ledB_true k2).1
    have hg' : (300 : Int) < (n1 : Int) + n2 := by omega
    clear hr k3
    go_enter Try.func37, Try.ntmps37
    go_wp2_with fail
    refine (c_isLedger A1 n1 c1 ps _ h1).mono ?_
    rw [k1]
    rintro e w1 ⟨rfl, hx1⟩
    go_wp2_with fail
    refine (c_isLedger A2 n2 c2 qs _ (h2.ext hx1)).mono ?_
    rw [k2]
    rintro e w2 ⟨rfl, hx2⟩
    go_wp2_with fail
    go_ret2
    exact RetS.nil_ HR.out (hx1.trans hx2)
  have HR := hide hr
  have hg : n1 + n2 ≤ 300 := by rw [HL1.out, HL2.out]; exact k3
  have hg' : (n1 : Int) + n2 ≤ (300 : Int) := by omega
  clear hr k3
  go_enter Try.func37, Try.ntmps37
  go_wp2_with fail
  refine (c_isLedger A1 n1 c1 ps _ h1).mono ?_
  rw [k1]
  rintro e w1 ⟨rfl, hx1⟩
  go_wp2_with fail
  refine (c_isLedger A2 n2 c2 qs _ (h2.ext hx1)).mono ?_
  rw [k2]
  rintro e w2 ⟨rfl, hx2⟩
  have hx12 := hx1.trans hx2
  go_wp2_with fail
  refine (c_Concat2 w2.heap.size A1 A2 n1 c1 n2 c2 ps qs _ (by simp) (by simp) (by simp) (h1.ext (hx12.and_alloc _)) (h2.ext (hx12.and_alloc _)) (by omega) (by omega)).mono ?_
  rintro e w3 ⟨v3, rfl, hown3, hx3⟩
  go_wp2_with fail
  go_ret2
  obtain ⟨A', c', g, hv, hg3, hnc, hcm, ho⟩ := hown3.own post_len (by omega)
  refine ⟨A', _, c', g, ?_, hnc, hcm, by have := hx12.size; simp at hg3; omega, by rw [HR.out]; exact ho, hx12.trans hx3.box⟩
  rw [HR.out, hv]; rfl

set_option maxHeartbeats 2000000 in
theorem c_specJoinLedgers (A1 A2 : Option Addr) (n1 c1 n2 c2 : Nat) (ps qs : List Posting) (w : World) (h1 : SliceOf w 4 Posting.cells A1 n1 c1 ps) (h2 : SliceOf w 4 Posting.cells A2 n2 c2 qs) :
    Calls Try.prog 36 #[.slice A1 n1 c1, .slice A2 n2 c2] w (RetS 25 Posting.cells (joinR ps qs) w) := by
  have hm1 := h1.max
  have hm2 := h2.max
  have hp1 := h1.cap
  have hp2 := h2.cap
  have HL1 := hide h1.len
  have HL2 := hide h2.len
  rcases join_ways ps qs with ⟨k1, hr⟩ | ⟨k1, k2, hr⟩ | ⟨k1, k2, k3, hr⟩ | ⟨k1, k2, k3, hr⟩
  · have HR := hide hr
    clear hr
    go_enter Try.func36, Try.ntmps36
    go_wp2_with fail
    refine (c_l30List A1 n1 c1 ps _ h1).mono ?_
    rw [k1]
    rintro e w1 ⟨rfl, hx1⟩
    go_wp2_with fail
    go_ret2
    exact RetS.nil_ HR.out hx1
  · have HR := hide hr
    clear hr
    go_enter Try.func36, Try.ntmps36
    go_wp2_with fail
    refine (c_l30List A1 n1 c1 ps _ h1).mono ?_
    rw [k1]
    rintro e w1 ⟨rfl, hx1⟩
    go_wp2_with fail
    refine (c_l30List A2 n2 c2 qs _ (h2.ext hx1)).mono ?_
    rw [k2]
    rintro e w2 ⟨rfl, hx2⟩
    go_wp2_with fail
    go_ret2
    exact RetS.nil_ HR.out (hx1.trans hx2)
  · have HR := hide hr
    have hg : 300 < n1 + n2 := by rw [HL1.out, HL2.out]; exact k3
    have hl1 : n1 ≤ 300 := by rw [HL1.out]; exact (ledB_true k1).1
    have hl2 : n2 ≤ 300 := by rw [HL2.out]; exact (ledB_true k2).1
    have hg' : (300 : Int) < (n1 : Int) + n2 := by omega
    clear hr k3
    go_enter Try.func36, Try.ntmps36
    go_wp2_with fail
    refine (c_l30List A1 n1 c1 ps _ h1).mono ?_
    rw [k1]
    rintro e w1 ⟨rfl, hx1⟩
    go_wp2_with fail
    refine (c_l30List A2 n2 c2 qs _ (h2.ext hx1)).mono ?_
    rw [k2]
    rintro e w2 ⟨rfl, hx2⟩
    go_wp2_with fail
    go_ret2
    exact RetS.nil_ HR.out (hx1.trans hx2)
  have HR := hide hr
  have hg : n1 + n2 ≤ 300 := by rw [HL1.out, HL2.out]; exact k3
  have hg' : (n1 : Int) + n2 ≤ (300 : Int) := by omega
  clear hr k3
  go_enter Try.func36, Try.ntmps36
  go_wp2_with fail
  refine (c_l30List A1 n1 c1 ps _ h1).mono ?_
  rw [k1]
  rintro e w1 ⟨rfl, hx1⟩
  go_wp2_with fail
  refine (c_l30List A2 n2 c2 qs _ (h2.ext hx1)).mono ?_
  rw [k2]
  rintro e w2 ⟨rfl, hx2⟩
  have hx12 := hx1.trans hx2
  go_wp2_with (at_builtin; go_must (refine wpList_append_slice rfl _ _ 31 rfl w2.heap.size 25 _ 4 32 Try.underlying31 posting_info rfl (by decide) Posting.cells post_len post_one (.slice (some ⟨w2.heap.size, 0, none⟩) 0 0) [] rfl (OwnL.empty _ _ _ _ _ (Nat.le_refl _)) A1 n1 c1 ps rfl (h1.ext (hx12.and_alloc _)) (by simp; omega) (by omega) (by simp) ?_))
  intro v3 w3 hown3 hext3
  have hx3 := hext3 w2 (Nat.le_refl _) (Ext.alloc _ _)
  have hpl : ps.length + n2 ≤ 300 := by rw [← HL1.out]; exact hg
  have hs3 := hx3.size
  go_wp2_with (at_builtin; go_must (refine wpList_append_slice rfl _ _ 31 rfl w2.heap.size 25 _ 4 32 Try.underlying31 posting_info rfl (by decide) Posting.cells post_len post_one v3 ps rfl hown3 A2 n2 c2 qs rfl (h2.ext (hx12.trans hx3)) (by omega) (by omega) hs3 ?_))
  intro v4 w4 hown4 hext4
  have hx4 := hext4 w2 (Nat.le_refl _) hx3
  go_wp2_with fail
  go_ret2
  obtain ⟨A', c', g, hv, hg3, hnc, hcm, ho⟩ := hown4.own post_len (by omega)
  refine ⟨A', _, c', g, ?_, hnc, hcm, by have := hx12.size; omega, by rw [HR.out]; exact ho, hx12.trans hx4⟩
  rw [HR.out, hv]; rfl

end Go.Proofs.Ytclnfjpjmelfpaa
