/-
  Marks on terms and settlements; settlements compared.
-/
import Derived.Test.YtpgbmhpddgjccaaGreatSc05
import Derived.Test.YtpgbmhpddgjccaaGreatSc01
import Derived.Test.YtpgbmhpddgjccaaGreatSa23
namespace Go.Proofs.YtpgbmhpddgjccaaGreat
open Go.RowKit
theorem tier_lenM (x : Tier) : x.cells.length = 2 := rfl
/-- the marks from a number on -/
def markTier (a : Int) (n : Nat) : List Tier := (List.range n).map fun (i : Nat) => ⟨a + 2 * (i : Int), a + 2 * (i : Int) + 1⟩
theorem markTier_at (a : Int) (n i : Nat) (h : i < n) : (markTier a n)[i]? = some ⟨a + 2 * (i : Int), a + 2 * (i : Int) + 1⟩ := by
  unfold markTier; rw [List.getElem?_map, List.getElem?_range h]; rfl
/-- the row is marked; nothing else has turned -/
def MarkedTier (g : Nat) (A : Option Addr) (n : Nat) (a : Int) (w : World) (e : Ending) (w' : World) : Prop :=
  e = .returned (.int .i64 (a + 2 * n)) ∧ OwnS w' g 70 Tier.cells A n (markTier a n) ∧ Only g w w'
set_option maxHeartbeats 1000000 in
theorem c_markTierS (g : Nat) (A : Option Addr) (n c : Nat) (ts : List Tier) (a : Int) (w : World) (hown0 : OwnS w g 70 Tier.cells A n ts) (hn : n ≤ 1000000000) (hcap : n ≤ c) (hmax : c ≤ 9223372036854775807) (ha0 : 0 ≤ a) (ha1 : a ≤ 1000000000000) :
    Calls Tryz.prog 138 #[.slice A n c, .int .i64 a] w (MarkedTier g A n a w) := by
  go_enter Tryz.func138, Tryz.ntmps138
  go_wp2_with fail
  go_loopw [1, 5] (fun q i wr => ∃ (k : Nat) (K : Int) (L : List Tier), k ≤ n ∧ q = .int .i64 K ∧ i = .int .i64 k ∧ a + 2 * (k : Int) ≤ K ∧ K ≤ a + 2 * (k : Int) ∧ OwnS wr g 70 Tier.cells A n L ∧ Hid (∀ j, j < k → L[j]? = (markTier a n)[j]?) ∧ Only g w wr) (fun _ i _ => n - (intOf i).toNat)
  case atStart => exact ⟨0, a, ts, Nat.zero_le _, rfl, rfl, by omega, by omega, hown0, hide (fun j hj => absurd hj (by omega)), Only.refl _ _⟩
  case round =>
    obtain ⟨k, K, L, hk, rfl, rfl, hK0, hK1, hown, HK, hx⟩ := hrel
    by_cases hlt : k < n
    · have hn0 : 0 < n := by omega
      obtain ⟨rfl, _⟩ := hown.2 hn0
      obtain ⟨v0, hv0⟩ := hown.there tier_lenM (i := k) hlt (j := 0) (by omega)
      have hf0 := hown.frozen hn0 (k * 2)
      obtain ⟨v1, hv1⟩ := hown.there tier_lenM (i := k) hlt (j := 1) (by omega)
      have hf1 := hown.frozen hn0 (k * 2 + 1)
      rw [Nat.add_zero] at hv0
      have HL := hide hown.1
      go_wp2_with fail
      go_roundw
      case rel =>
        refine ⟨k + 1, _, L.set k ⟨K, K + 1⟩, by omega, rfl, by go_num, by omega, by omega, hown.put tier_lenM hlt ⟨K, K + 1⟩, hide ?_, hx.put (k * 2) (Tier.cells ⟨K, K + 1⟩)⟩
        intro j hj
        rw [List.getElem?_set]
        by_cases e : k = j
        · subst e
          rw [if_pos rfl, if_pos (by rw [← HL.out]; exact hlt), markTier_at _ _ _ hlt]
          congr 2 <;> omega
        · rw [if_neg e]; exact HK.out j (by omega)
      case measure => simp [intOf]; omega
    · go_wp2_with fail
      go_ret
      have hLts : L = markTier a n := by
        apply List.ext_getElem?
        intro j
        by_cases hj : j < n
        · exact HK.out j (by omega)
        · rw [List.getElem?_eq_none (by have := hown.1; omega), List.getElem?_eq_none (by simp [markTier]; omega)]
      subst hLts
      refine ⟨?_, hown, hx⟩
      obtain rfl : k = n := by omega
      have : K = a + 2 * (k : Int) := by omega
      rw [← this]; rfl

theorem n_markTier (A : Option Addr) (n c : Nat) (ts : List Tier) (a : Int) (w : World) (h : OwnA w 70 Tier.cells A n c ts) (hn : n ≤ 1000000000) (ha0 : 0 ≤ a) (ha1 : a ≤ 1000000000000) :
    Calls Tryz.prog 138 #[.slice A n c, .int .i64 a] w (MarkA 70 Tier.cells A n c (a + 2 * n) (markTier a n) w) := by
  obtain ⟨g, ho, hg⟩ := h.own
  refine (c_markTierS g A n c ts a w ho hn h.2.1 h.2.2.1 ha0 ha1).mono fun e w' ⟨h1, h2, h3⟩ => ?_
  exact ⟨h1, h2.toA h.2.1 h.2.2.1, Turn.of_only h3 hg⟩
theorem n_markOrder (A : Option Addr) (n c : Nat) (ts : List Order) (a : Int) (w : World) (h : OwnA w 193 Order.cells A n c ts) (hn : n ≤ 1000000000) (ha0 : 0 ≤ a) (ha1 : a ≤ 1000000000000) :
    Calls Tryz.prog 141 #[.slice A n c, .int .i64 a] w (MarkA 193 Order.cells A n c (a + 4 * n) (markOrder a n) w) := by
  obtain ⟨g, ho, hg⟩ := h.own
  refine (c_markOrderS g A n c ts a w ho hn h.2.1 h.2.2.1 ha0 ha1).mono fun e w' ⟨h1, h2, h3⟩ => ?_
  exact ⟨h1, h2.toA h.2.1 h.2.2.1, Turn.of_only h3 hg⟩
theorem n_markPosting (A : Option Addr) (n c : Nat) (ts : List Posting) (a : Int) (w : World) (h : OwnA w 181 Posting.cells A n c ts) (hn : n ≤ 1000000000) (ha0 : 0 ≤ a) (ha1 : a ≤ 1000000000000) :
    Calls Tryz.prog 61 #[.slice A n c, .int .i64 a] w (MarkA 181 Posting.cells A n c (a + 4 * n) (markPosting a n) w) := by
  obtain ⟨g, ho, hg⟩ := h.own
  refine (c_markPostingS g A n c ts a w ho hn h.2.1 h.2.2.1 ha0 ha1).mono fun e w' ⟨h1, h2, h3⟩ => ?_
  exact ⟨h1, h2.toA h.2.1 h.2.2.1, Turn.of_only h3 hg⟩
theorem n_markInt64 (A : Option Addr) (n c : Nat) (ts : List Int) (a : Int) (w : World) (h : OwnA w 2 intC A n c ts) (hn : n ≤ 1000000000) (ha0 : 0 ≤ a) (ha1 : a ≤ 1000000000000) :
    Calls Tryz.prog 32 #[.slice A n c, .int .i64 a] w (MarkA 2 intC A n c (a + n) (markInt a n) w) := by
  obtain ⟨g, ho, hg⟩ := h.own
  refine (c_markInt64S g A n c ts a w ho hn h.2.1 h.2.2.1 ha0 ha1).mono fun e w' ⟨h1, h2, h3⟩ => ?_
  exact ⟨by rw [h1, Int.one_mul], h2.toA h.2.1 h.2.2.1, Turn.of_only h3 hg⟩
theorem n_heldInt64 (A : Option Addr) (n c : Nat) (a : Int) (w : World) (hs : SliceOf w 1 intC A n c (markInt a n)) (hn : n ≤ 1000000000) (ha0 : 0 ≤ a) (ha1 : a ≤ 1000000000000) :
    Calls Tryz.prog 33 #[.slice A n c, .int .i64 a] w fun e w' => e = .returned (.int .i64 (a + n)) ∧ w = w' :=
  (c_heldInt64S A n c a w hs hn ha0 ha1).mono fun e w' ⟨h1, h2⟩ => ⟨by rw [h1, Int.one_mul], h2⟩
set_option maxHeartbeats 1000000 in
theorem c_markTerms (band percent price : Int) (A : Option Addr) (n c : Nat) (ts : List Tier) (a : Int) (w : World) (h : OwnA w 70 Tier.cells A n c ts) (hn : n ≤ 1000000000) (ha0 : 0 ≤ a) (ha1 : a ≤ 1000000000000) :
    Calls Tryz.prog 60 #[.agg #[.int .i64 band, .int .i64 percent, .int .i64 price, .slice A n c], .int .i64 a] w (MarkA 70 Tier.cells A n c (a + 2 * n) (markTier a n) w) := by
  go_enter Tryz.func60, Tryz.ntmps60
  go_wp2_with fail
  refine (n_markTier A n c ts a _ (h.ext (Ext.alloc _ _)) hn ha0 ha1).mono ?_
  rintro e w1 ⟨rfl, o1, t1⟩
  go_wp2_with fail
  go_ret
  exact ⟨rfl, o1, (Turn.of_ext (Ext.alloc _ _)).trans t1⟩
set_option maxHeartbeats 1000000 in
theorem c_eqStl (A0 A1 A2 A3 A4 : Option Addr) (n0 c0 n1 c1 n2 c2 n3 c3 n4 c4 : Nat) (B0 B1 B2 B3 B4 : Option Addr) (m0 d0 m1 d1 m2 d2 m3 d3 m4 d4 : Nat) (X : Stl) (w : World) (h : StlAt w A0 A1 A2 A3 A4 n0 c0 n1 c1 n2 c2 n3 c3 n4 c4 X) (i : StlAt w B0 B1 B2 B3 B4 m0 d0 m1 d1 m2 d2 m3 d3 m4 d4 X) :
    Calls Tryz.prog 66 #[.agg #[.slice A0 n0 c0, .slice A1 n1 c1, .slice A2 n2 c2, .slice A3 n3 c3, .slice A4 n4 c4], .agg #[.slice B0 m0 d0, .slice B1 m1 d1, .slice B2 m2 d2, .slice B3 m3 d3, .slice B4 m4 d4]] w (Ret (.bool true) w) := by
  go_enter Tryz.func66, Tryz.ntmps66
  go_wp2_with fail
  have x0 : Ext w ((w.alloc (.cells #[.slice A0 n0 c0, .slice A1 n1 c1, .slice A2 n2 c2, .slice A3 n3 c3, .slice A4 n4 c4] 28)).alloc (.cells #[.slice B0 m0 d0, .slice B1 m1 d1, .slice B2 m2 d2, .slice B3 m3 d3, .slice B4 m4 d4] 28)) := (Ext.alloc _ _).and_alloc _
  refine (c_eqInt64S _ _ _ _ _ _ _ _ (h.s0.ext x0) (i.s0.ext x0)).mono ?_
  rintro e w1 ⟨rfl, hx1⟩
  have hcl1 := hx1.cell
  go_wp2_with fail
  refine (c_eqOrderS _ _ _ _ _ _ _ _ (h.s1.ext (x0.trans hx1)) (i.s1.ext (x0.trans hx1))).mono ?_
  rintro e w2 ⟨rfl, hx2⟩
  have hx12 := hx1.trans hx2
  have hcl2 := hx12.cell
  clear hcl1
  go_wp2_with fail
  refine (c_eqInt64S _ _ _ _ _ _ _ _ (h.s2.ext (x0.trans hx12)) (i.s2.ext (x0.trans hx12))).mono ?_
  rintro e w3 ⟨rfl, hx3⟩
  have hx13 := hx12.trans hx3
  have hcl3 := hx13.cell
  clear hcl2
  go_wp2_with fail
  refine (c_eqInt64S _ _ _ _ _ _ _ _ (h.s3.ext (x0.trans hx13)) (i.s3.ext (x0.trans hx13))).mono ?_
  rintro e w4 ⟨rfl, hx4⟩
  have hx14 := hx13.trans hx4
  have hcl4 := hx14.cell
  clear hcl3
  go_wp2_with fail
  refine (c_eqPostingS _ _ _ _ _ _ _ _ (h.s4.ext (x0.trans hx14)) (i.s4.ext (x0.trans hx14))).mono ?_
  rintro e w5 ⟨rfl, hx5⟩
  go_wp2_with fail
  go_ret
  exact Ret.bool rfl (x0.trans (hx14.trans hx5))
/-- the marks of a settlement -/
def markStl (a : Int) (n0 n1 n2 n3 n4 : Nat) : Stl := ⟨markInt a n0, markOrder (a + n0) n1, markInt (a + n0 + 4 * n1) n2, markInt (a + n0 + 4 * n1 + n2) n3, markPosting (a + n0 + 4 * n1 + n2 + n3) n4⟩
def markSn (a : Int) (n0 n1 n2 n3 n4 : Nat) : Int := a + (n0 : Int) + 4 * n1 + n2 + n3 + 4 * n4
structure StlSm (n0 n1 n2 n3 n4 : Nat) : Prop where
  m0 : n0 ≤ 10000000
  m1 : n1 ≤ 10000000
  m2 : n2 ≤ 10000000
  m3 : n3 ≤ 10000000
  m4 : n4 ≤ 10000000
/-- a settlement of the call's own, marked -/
def MarkedStl (lo : Nat) (A0 A1 A2 A3 A4 : Option Addr) (n0 c0 n1 c1 n2 c2 n3 c3 n4 c4 : Nat) (a : Int) (w : World) (e : Ending) (w' : World) : Prop :=
  e = .returned (.int .i64 (markSn a n0 n1 n2 n3 n4)) ∧ StlOwn w' lo A0 A1 A2 A3 A4 n0 c0 n1 c1 n2 c2 n3 c3 n4 c4 (markStl a n0 n1 n2 n3 n4) ∧ Turn (fun b => blkOf A0 n0 = some b ∨ blkOf A1 n1 = some b ∨ blkOf A2 n2 = some b ∨ blkOf A3 n3 = some b ∨ blkOf A4 n4 = some b) w w'
theorem sep_ne {x0 x1 x2 x3 x4 : Option Nat} (h : SepL [x0, x1, x2, x3, x4]) (i j : Nat) (hij : i ≠ j) (b : Nat) (hi : [x0, x1, x2, x3, x4][i]? = some (some b)) : ¬ [x0, x1, x2, x3, x4][j]? = some (some b) := h i j b hij hi
set_option maxHeartbeats 2000000 in
theorem c_markSettlement (lo : Nat) (A0 A1 A2 A3 A4 : Option Addr) (n0 c0 n1 c1 n2 c2 n3 c3 n4 c4 : Nat) (X : Stl) (a : Int) (w : World) (h : StlOwn w lo A0 A1 A2 A3 A4 n0 c0 n1 c1 n2 c2 n3 c3 n4 c4 X) (m : StlSm n0 n1 n2 n3 n4) (ha0 : 0 ≤ a) (ha1 : a ≤ 1000000000) :
    Calls Tryz.prog 67 #[.agg #[.slice A0 n0 c0, .slice A1 n1 c1, .slice A2 n2 c2, .slice A3 n3 c3, .slice A4 n4 c4], .int .i64 a] w (MarkedStl lo A0 A1 A2 A3 A4 n0 c0 n1 c1 n2 c2 n3 c3 n4 c4 a w) := by
  obtain ⟨m0, m1, m2, m3, m4⟩ := m
  have HLT := hide (show ∀ b, (blkOf A0 n0 = some b ∨ blkOf A1 n1 = some b ∨ blkOf A2 n2 = some b ∨ blkOf A3 n3 = some b ∨ blkOf A4 n4 = some b) → lo ≤ b ∧ b < w.heap.size from fun b hb => ⟨h.lo b hb, by rcases hb with hb | hb | hb | hb | hb <;> first | exact h.o0.lt hb | exact h.o1.lt hb | exact h.o2.lt hb | exact h.o3.lt hb | exact h.o4.lt hb⟩)
  have x0 : Ext w (w.alloc (.cells #[.slice A0 n0 c0, .slice A1 n1 c1, .slice A2 n2 c2, .slice A3 n3 c3, .slice A4 n4 c4] 28)) := Ext.alloc _ _
  go_enter Tryz.func67, Tryz.ntmps67
  go_wp2_with fail
  refine (n_markInt64 A0 n0 c0 _ a _ (h.o0.ext x0) (by omega) (by omega) (by omega)).mono ?_
  rintro e w1 ⟨rfl, o1, t1⟩
  have tt1 : Turn (fun b => lo ≤ b ∧ b < w.heap.size) (w.alloc (.cells #[.slice A0 n0 c0, .slice A1 n1 c1, .slice A2 n2 c2, .slice A3 n3 c3, .slice A4 n4 c4] 28)) w1 := t1.mono (fun b hb => HLT.out b (.inl hb))
  have hz1 : w.heap.size < w1.heap.size := by have := tt1.size; simp at this; omega
  have hb1 : ∀ j, w1.cell? ⟨w.heap.size, j, none⟩ = (w.alloc (.cells #[.slice A0 n0 c0, .slice A1 n1 c1, .slice A2 n2 c2, .slice A3 n3 c3, .slice A4 n4 c4] 28)).cell? ⟨w.heap.size, j, none⟩ := fun j => tt1.cell (by simp) (fun h => by have := h.1; omega)
  go_wp2_with fail
  refine (n_markOrder A1 n1 c1 _ _ _ ((h.o1.ext x0).turn t1 (fun b hb hb' => sep_ne h.sep 1 0 (by decide) b (by simp [hb]) (by simp [hb']))) (by omega) (by omega) (by omega)).mono ?_
  rintro e w2 ⟨rfl, o2, t2⟩
  have tt2 := tt1.trans (t2.mono (fun b hb => HLT.out b (.inr (.inl hb))))
  clear hz1 hb1
  have hz2 : w.heap.size < w2.heap.size := by have := tt2.size; simp at this; omega
  have hb2 : ∀ j, w2.cell? ⟨w.heap.size, j, none⟩ = (w.alloc (.cells #[.slice A0 n0 c0, .slice A1 n1 c1, .slice A2 n2 c2, .slice A3 n3 c3, .slice A4 n4 c4] 28)).cell? ⟨w.heap.size, j, none⟩ := fun j => tt2.cell (by simp) (fun h => by have := h.1; omega)
  go_wp2_with fail
  refine (n_markInt64 A2 n2 c2 _ _ _ (((h.o2.ext x0).turn t1 (fun b hb hb' => sep_ne h.sep 2 0 (by decide) b (by simp [hb]) (by simp [hb']))).turn t2 (fun b hb hb' => sep_ne h.sep 2 1 (by decide) b (by simp [hb]) (by simp [hb']))) (by omega) (by omega) (by omega)).mono ?_
  rintro e w3 ⟨rfl, o3, t3⟩
  have tt3 := tt2.trans (t3.mono (fun b hb => HLT.out b (.inr (.inr (.inl hb)))))
  clear hz2 hb2
  have hz3 : w.heap.size < w3.heap.size := by have := tt3.size; simp at this; omega
  have hb3 : ∀ j, w3.cell? ⟨w.heap.size, j, none⟩ = (w.alloc (.cells #[.slice A0 n0 c0, .slice A1 n1 c1, .slice A2 n2 c2, .slice A3 n3 c3, .slice A4 n4 c4] 28)).cell? ⟨w.heap.size, j, none⟩ := fun j => tt3.cell (by simp) (fun h => by have := h.1; omega)
  go_wp2_with fail
  refine (n_markInt64 A3 n3 c3 _ _ _ ((((h.o3.ext x0).turn t1 (fun b hb hb' => sep_ne h.sep 3 0 (by decide) b (by simp [hb]) (by simp [hb']))).turn t2 (fun b hb hb' => sep_ne h.sep 3 1 (by decide) b (by simp [hb]) (by simp [hb']))).turn t3 (fun b hb hb' => sep_ne h.sep 3 2 (by decide) b (by simp [hb]) (by simp [hb']))) (by omega) (by omega) (by omega)).mono ?_
  rintro e w4 ⟨rfl, o4, t4⟩
  have tt4 := tt3.trans (t4.mono (fun b hb => HLT.out b (.inr (.inr (.inr (.inl hb))))))
  clear hz3 hb3
  have hz4 : w.heap.size < w4.heap.size := by have := tt4.size; simp at this; omega
  have hb4 : ∀ j, w4.cell? ⟨w.heap.size, j, none⟩ = (w.alloc (.cells #[.slice A0 n0 c0, .slice A1 n1 c1, .slice A2 n2 c2, .slice A3 n3 c3, .slice A4 n4 c4] 28)).cell? ⟨w.heap.size, j, none⟩ := fun j => tt4.cell (by simp) (fun h => by have := h.1; omega)
  go_wp2_with fail
  refine (n_markPosting A4 n4 c4 _ _ _ (((((h.o4.ext x0).turn t1 (fun b hb hb' => sep_ne h.sep 4 0 (by decide) b (by simp [hb]) (by simp [hb']))).turn t2 (fun b hb hb' => sep_ne h.sep 4 1 (by decide) b (by simp [hb]) (by simp [hb']))).turn t3 (fun b hb hb' => sep_ne h.sep 4 2 (by decide) b (by simp [hb]) (by simp [hb']))).turn t4 (fun b hb hb' => sep_ne h.sep 4 3 (by decide) b (by simp [hb]) (by simp [hb']))) (by omega) (by omega) (by omega)).mono ?_
  rintro e w5 ⟨rfl, o5, t5⟩
  clear hz4 hb4
  have HRES : Hid (StlOwn w5 lo A0 A1 A2 A3 A4 n0 c0 n1 c1 n2 c2 n3 c3 n4 c4 (markStl a n0 n1 n2 n3 n4)) := hide
    ⟨(((o1.turn t2 (fun b hb hb' => sep_ne h.sep 0 1 (by decide) b (by simp [hb]) (by simp [hb']))).turn t3 (fun b hb hb' => sep_ne h.sep 0 2 (by decide) b (by simp [hb]) (by simp [hb']))).turn t4 (fun b hb hb' => sep_ne h.sep 0 3 (by decide) b (by simp [hb]) (by simp [hb']))).turn t5 (fun b hb hb' => sep_ne h.sep 0 4 (by decide) b (by simp [hb]) (by simp [hb'])), ((o2.turn t3 (fun b hb hb' => sep_ne h.sep 1 2 (by decide) b (by simp [hb]) (by simp [hb']))).turn t4 (fun b hb hb' => sep_ne h.sep 1 3 (by decide) b (by simp [hb]) (by simp [hb']))).turn t5 (fun b hb hb' => sep_ne h.sep 1 4 (by decide) b (by simp [hb]) (by simp [hb'])), (o3.turn t4 (fun b hb hb' => sep_ne h.sep 2 3 (by decide) b (by simp [hb]) (by simp [hb']))).turn t5 (fun b hb hb' => sep_ne h.sep 2 4 (by decide) b (by simp [hb]) (by simp [hb'])), o4.turn t5 (fun b hb hb' => sep_ne h.sep 3 4 (by decide) b (by simp [hb]) (by simp [hb'])), o5, h.lo, h.sep⟩
  go_wp2_with fail
  go_ret
  exact ⟨rfl, HRES.out, (Turn.of_ext x0).trans ((t1.mono (fun b hb => .inl hb)).trans ((t2.mono (fun b hb => .inr (.inl hb))).trans ((t3.mono (fun b hb => .inr (.inr (.inl hb)))).trans ((t4.mono (fun b hb => .inr (.inr (.inr (.inl hb))))).trans (t5.mono (fun b hb => .inr (.inr (.inr (.inr hb)))))))))⟩
set_option maxHeartbeats 2000000 in
theorem c_heldSettlement (A0 A1 A2 A3 A4 : Option Addr) (n0 c0 n1 c1 n2 c2 n3 c3 n4 c4 : Nat) (a : Int) (w : World) (h : StlAt w A0 A1 A2 A3 A4 n0 c0 n1 c1 n2 c2 n3 c3 n4 c4 (markStl a n0 n1 n2 n3 n4)) (m : StlSm n0 n1 n2 n3 n4) (ha0 : 0 ≤ a) (ha1 : a ≤ 1000000000) :
    Calls Tryz.prog 68 #[.agg #[.slice A0 n0 c0, .slice A1 n1 c1, .slice A2 n2 c2, .slice A3 n3 c3, .slice A4 n4 c4], .int .i64 a] w (Ret (.int .i64 (markSn a n0 n1 n2 n3 n4)) w) := by
  obtain ⟨m0, m1, m2, m3, m4⟩ := m
  have x0 : Ext w (w.alloc (.cells #[.slice A0 n0 c0, .slice A1 n1 c1, .slice A2 n2 c2, .slice A3 n3 c3, .slice A4 n4 c4] 28)) := Ext.alloc _ _
  go_enter Tryz.func68, Tryz.ntmps68
  go_wp2_with fail
  refine (n_heldInt64 A0 n0 c0 a _ (h.s0.ext x0) (by omega) (by omega) (by omega)).mono ?_
  rintro e w' ⟨rfl, rfl⟩
  have e1 : ¬ a + (n0 : Int) < 0 := by omega
  go_wp2_with fail
  refine (c_heldOrderS A1 n1 c1 _ _ (h.s1.ext x0) (by omega) (by omega) (by omega)).mono ?_
  rintro e w' ⟨rfl, rfl⟩
  have e2 : ¬ a + (n0 : Int) + 4 * (n1 : Int) < 0 := by omega
  go_wp2_with fail
  refine (n_heldInt64 A2 n2 c2 _ _ (h.s2.ext x0) (by omega) (by omega) (by omega)).mono ?_
  rintro e w' ⟨rfl, rfl⟩
  have e3 : ¬ a + (n0 : Int) + 4 * (n1 : Int) + (n2 : Int) < 0 := by omega
  go_wp2_with fail
  refine (n_heldInt64 A3 n3 c3 _ _ (h.s3.ext x0) (by omega) (by omega) (by omega)).mono ?_
  rintro e w' ⟨rfl, rfl⟩
  have e4 : ¬ a + (n0 : Int) + 4 * (n1 : Int) + (n2 : Int) + (n3 : Int) < 0 := by omega
  go_wp2_with fail
  refine (c_heldPostingS A4 n4 c4 _ _ (h.s4.ext x0) (by omega) (by omega) (by omega)).mono ?_
  rintro e w' ⟨rfl, rfl⟩
  have e5 : ¬ a + (n0 : Int) + 4 * (n1 : Int) + (n2 : Int) + (n3 : Int) + 4 * (n4 : Int) < 0 := by omega
  go_wp2_with fail
  go_ret
  exact ⟨rfl, x0⟩
end Go.Proofs.YtpgbmhpddgjccaaGreat
