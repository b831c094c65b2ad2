/-
  The helpers of the laws on Order: copying, comparing, measuring, marking. Marks on terms and settlements; settlements compared. Copies of lists of lists, in blocks of their own.
-/
import Derived.Test.YtfkpghdmljjegaaGreatVa17
import Derived.Test.YtfkpghdmljjegaaGreatVa01
import Derived.Test.YtfkpghdmljjegaaGreatVa20
import Derived.Test.YtfkpghdmljjegaaGreatVa38
import Derived.Test.YtfkpghdmljjegaaGreatVa30
import Derived.Test.YtfkpghdmljjegaaGreatVa31
import Derived.Test.YtfkpghdmljjegaaGreatVa08
import Derived.Test.YtfkpghdmljjegaaGreatVa29
namespace Go.Proofs.YtfkpghdmljjegaaGreat
open Go.RowKit


end Go.Proofs.YtfkpghdmljjegaaGreat

namespace Go.Proofs.YtfkpghdmljjegaaGreat
open Go.RowKit
theorem tier_lenM (x : Tier) : x.cells.length = 2 := rfl
/-- the marks from a number on -/
def markTier (a : Int) (n : Nat) : List Tier := (List.range n).map fun (i : Nat) => ⟨a + 2 * (i : Int), a + 2 * (i : Int) + 1⟩
theorem markTier_at (a : Int) (n i : Nat) (h : i < n) : (markTier a n)[i]? = some ⟨a + 2 * (i : Int), a + 2 * (i : Int) + 1⟩ := by
  unfold markTier; rw [List.getElem?_map, List.getElem?_range h]; rfl
/-- the row is marked; nothing else has turned -/
def MarkedTier (g : Nat) (A : Option Addr) (n : Nat) (a : Int) (w : World) (e : Ending) (w' : World) : Prop :=
  e = .returned (.int .i64 (a + 2 * n)) ∧ OwnS w' g 70 Tier.cells A n (markTier a n) ∧ Only g w w'
set_option maxHeartbeats 1000000 in
theorem c_markTierS (g : Nat) (A : Option Addr) (n c : Nat) (ts : List Tier) (a : Int) (w : World) (hown0 : OwnS w g 70 Tier.cells A n ts) (hn : n ≤ 1000000000) (hcap : n ≤ c) (hmax : c ≤ 9223372036854775807) (ha0 : 0 ≤ a) (ha1 : a ≤ 1000000000000) :
    Calls Tryz.prog 143 #[.slice A n c, .int .i64 a] w (MarkedTier g A n a w) := by
  go_enter Tryz.func143, Tryz.ntmps143
  go_wp2_with fail
  go_loopw [1, 5] (fun q i wr => ∃ (k : Nat) (K : Int) (L : List Tier), k ≤ n ∧ q = .int .i64 K ∧ i = .int .i64 k ∧ a + 2 * (k : Int) ≤ K ∧ K ≤ a + 2 * (k : Int) ∧ OwnS wr g 70 Tier.cells A n L ∧ Hid (∀ j, j < k → L[j]? = (markTier a n)[j]?) ∧ Only g w wr) (fun _ i _ => n - (intOf i).toNat)
  case atStart => exact ⟨0, a, ts, Nat.zero_le _, rfl, rfl, by omega, by omega, hown0, hide (fun j hj => absurd hj (by omega)), Only.refl _ _⟩
  case round =>
    obtain ⟨k, K, L, hk, rfl, rfl, hK0, hK1, hown, HK, hx⟩ := hrel
    by_cases hlt : k < n
    · have hn0 : 0 < n := by omega
      obtain ⟨rfl, _⟩ := hown.2 hn0
      obtain ⟨v0, hv0⟩ := hown.there tier_lenM (i := k) hlt (j := 0) (by omega)
      have hf0 := hown.frozen hn0 (k * 2)
      obtain ⟨v1, hv1⟩ := hown.there tier_lenM (i := k) hlt (j := 1) (by omega)
      have hf1 := hown.frozen hn0 (k * 2 + 1)
      rw [Nat.add_zero] at hv0
      have HL := hide hown.1
      go_wp2_with fail
      go_roundw
      case rel =>
        refine ⟨k + 1, _, L.set k ⟨K, K + 1⟩, by omega, rfl, by go_num, by omega, by omega, hown.put tier_lenM hlt ⟨K, K + 1⟩, hide ?_, hx.put (k * 2) (Tier.cells ⟨K, K + 1⟩)⟩
        intro j hj
        rw [List.getElem?_set]
        by_cases e : k = j
        · subst e
          rw [if_pos rfl, if_pos (by rw [← HL.out]; exact hlt), markTier_at _ _ _ hlt]
          congr 2 <;> omega
        · rw [if_neg e]; exact HK.out j (by omega)
      case measure => simp [intOf]; omega
    · go_wp2_with fail
      go_ret
      have hLts : L = markTier a n := by
        apply List.ext_getElem?
        intro j
        by_cases hj : j < n
        · exact HK.out j (by omega)
        · rw [List.getElem?_eq_none (by have := hown.1; omega), List.getElem?_eq_none (by simp [markTier]; omega)]
      subst hLts
      refine ⟨?_, hown, hx⟩
      obtain rfl : k = n := by omega
      have : K = a + 2 * (k : Int) := by omega
      rw [← this]; rfl

theorem n_markTier (A : Option Addr) (n c : Nat) (ts : List Tier) (a : Int) (w : World) (h : OwnA w 70 Tier.cells A n c ts) (hn : n ≤ 1000000000) (ha0 : 0 ≤ a) (ha1 : a ≤ 1000000000000) :
    Calls Tryz.prog 143 #[.slice A n c, .int .i64 a] w (MarkA 70 Tier.cells A n c (a + 2 * n) (markTier a n) w) := by
  obtain ⟨g, ho, hg⟩ := h.own
  refine (c_markTierS g A n c ts a w ho hn h.2.1 h.2.2.1 ha0 ha1).mono fun e w' ⟨h1, h2, h3⟩ => ?_
  exact ⟨h1, h2.toA h.2.1 h.2.2.1, Turn.of_only h3 hg⟩
theorem n_markPosting (A : Option Addr) (n c : Nat) (ts : List Posting) (a : Int) (w : World) (h : OwnA w 188 Posting.cells A n c ts) (hn : n ≤ 1000000000) (ha0 : 0 ≤ a) (ha1 : a ≤ 1000000000000) :
    Calls Tryz.prog 62 #[.slice A n c, .int .i64 a] w (MarkA 188 Posting.cells A n c (a + 4 * n) (markPosting a n) w) := by
  obtain ⟨g, ho, hg⟩ := h.own
  refine (c_markPostingS g A n c ts a w ho hn h.2.1 h.2.2.1 ha0 ha1).mono fun e w' ⟨h1, h2, h3⟩ => ?_
  exact ⟨h1, h2.toA h.2.1 h.2.2.1, Turn.of_only h3 hg⟩
set_option maxHeartbeats 1000000 in
theorem c_markTerms (band percent price : Int) (A : Option Addr) (n c : Nat) (ts : List Tier) (a : Int) (w : World) (h : OwnA w 70 Tier.cells A n c ts) (hn : n ≤ 1000000000) (ha0 : 0 ≤ a) (ha1 : a ≤ 1000000000000) :
    Calls Tryz.prog 61 #[.agg #[.int .i64 band, .int .i64 percent, .int .i64 price, .slice A n c], .int .i64 a] w (MarkA 70 Tier.cells A n c (a + 2 * n) (markTier a n) w) := by
  go_enter Tryz.func61, Tryz.ntmps61
  go_wp2_with fail
  refine (n_markTier A n c ts a _ (h.ext (Ext.alloc _ _)) hn ha0 ha1).mono ?_
  rintro e w1 ⟨rfl, o1, t1⟩
  go_wp2_with fail
  go_ret
  exact ⟨rfl, o1, (Turn.of_ext (Ext.alloc _ _)).trans t1⟩
structure StlSm (n0 n1 n2 n3 n4 : Nat) : Prop where
  m0 : n0 ≤ 10000000
  m1 : n1 ≤ 10000000
  m2 : n2 ≤ 10000000
  m3 : n3 ≤ 10000000
  m4 : n4 ≤ 10000000
end Go.Proofs.YtfkpghdmljjegaaGreat

namespace Go.Proofs.YtfkpghdmljjegaaGreat
open Go.RowKit
theorem ownRS_A {w : World} {g : Nat} {q : RS} (h : OwnRS w g q) : OwnA w 176 Reading.cells q.A q.n q.c q.xs := by
  obtain ⟨g1, hg, hA, hn, hc, hl, hr⟩ := h
  rw [hA, hc, hn]
  exact hr.toA rfl (Nat.le_refl _) (by omega)
theorem rs_blk_in {w : World} {g : Nat} {rs : List RS} (ho : ∀ q ∈ rs, OwnRS w g q) : ∀ b, rsBlk rs b → g < b ∧ b < w.heap.size := by
  rintro b ⟨q, hq, hb⟩
  obtain ⟨g1, hg, hA, hn, _, _, hr⟩ := ho q hq
  rw [hA] at hb
  have := blk_is hb
  subst this
  exact ⟨hg, hr.lt⟩
theorem rs_sep {w : World} {g : Nat} {rs : List RS} (ho : ∀ q ∈ rs, OwnRS w g q) (hap : RsApart rs) : SepL (rs.map fun q => blkOf q.A q.n) := by
  intro i j b hij hi hj
  simp only [List.getElem?_map, Option.map_eq_some_iff] at hi hj
  obtain ⟨q, hq1, hq2⟩ := hi
  obtain ⟨q', hq1', hq2'⟩ := hj
  obtain ⟨g, hg, hA, _⟩ := ho q (List.mem_of_getElem? hq1)
  obtain ⟨g', hg', hA', _⟩ := ho q' (List.mem_of_getElem? hq1')
  rw [hA] at hq2
  rw [hA'] at hq2'
  have e1 := blk_is hq2
  have e2 := blk_is hq2'
  exact hap i j q q' hij hq1 hq1' (by rw [hA, hA', ← e1, ← e2])
theorem rs_sum {w : World} {g M : Nat} {rs rs' : List RS} (ho : ∀ q ∈ rs', OwnRS w g q) (hm : rs'.map RS.xs = rs.map RS.xs) (hl : ∀ q ∈ rs, q.n = q.xs.length) (hs : (rs.map RS.n).sum ≤ M) : (rs'.map RS.n).sum ≤ M := by
  have h1 : rs'.map RS.n = (rs'.map RS.xs).map List.length := by
    rw [List.map_map]
    exact List.map_congr_left (fun q hq => by obtain ⟨_, _, _, hn, _⟩ := ho q hq; exact hn)
  have h2 : rs.map RS.n = (rs.map RS.xs).map List.length := by
    rw [List.map_map]
    exact List.map_congr_left (fun q hq => hl q hq)
  rw [h1, hm, ← h2]; exact hs
end Go.Proofs.YtfkpghdmljjegaaGreat
