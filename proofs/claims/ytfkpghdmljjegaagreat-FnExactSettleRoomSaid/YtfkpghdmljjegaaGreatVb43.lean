/-
  SettleRoom of the program and of the reference, exactly. The helpers of the laws on terms: copying, comparing, measuring. The helpers of the laws on terms: toTerms, eqTierS, eqTerms. The helpers of the laws on Order: copying, comparing, measuring, marking. Marks on terms and settlements; settlements compared. The helpers of the laws on Event: copying, comparing, measuring, marking. A copy of a room lies in blocks of its own. The closed facts of a row in parts, so that the kernel looks at each alone. No function of the program is named here.
-/
import Derived.Test.YtfkpghdmljjegaaGreatVb37
import Derived.Test.YtfkpghdmljjegaaGreatVb42
import Derived.Test.YtfkpghdmljjegaaGreatVb13
import Derived.Test.YtfkpghdmljjegaaGreatVb24
import Derived.Test.YtfkpghdmljjegaaGreatVb01
import Derived.Test.YtfkpghdmljjegaaGreatVb17
import Derived.Test.YtfkpghdmljjegaaGreatVb20
import Derived.Test.YtfkpghdmljjegaaGreatVb41
import Derived.Test.YtfkpghdmljjegaaGreatVb25
import Derived.Test.YtfkpghdmljjegaaGreatVb11
import Derived.Test.YtfkpghdmljjegaaGreatVb34
import Derived.Test.YtfkpghdmljjegaaGreatVb00
import Derived.JoinedOf
namespace Go.Proofs.YtfkpghdmljjegaaGreat
open Go.RowKit
/-- what the closed hours of a room are settled to, and the code -/
noncomputable def srV (n1 : Nat) (r : Room) (band percent price : Int) (ts : List Tier) : List Posting × Int :=
  if roomB n1 r = true then hsV n1 r.ns r.ps r.xs r.L 0 (r.rs.take (r.rs.length - 1)) band percent price ts else ([], 1)
theorem srV_len {n1 : Nat} {r : Room} {band percent price : Int} {ts : List Tier} : (srV n1 r band percent price ts).1.length ≤ 300 := by
  unfold srV
  split
  · exact hsV_len
  · simp
theorem room_pos {n1 : Int} {r : Room} (h : roomB n1 r = true) : 1 ≤ r.rs.length := by
  unfold roomB at h
  simp only [Bool.and_eq_true, inB_true] at h
  omega
set_option maxHeartbeats 2000000 in
theorem c_SettleRoom (A1 A2 A3 A4 A5 : Option Addr) (n1 c1 n2 c2 n3 c3 n4 c4 n5 c5 : Nat) (r : Room) (band percent price : Int) (K : Option Addr) (kn kc : Nat) (ts : List Tier) (w : World) (hat : RoomAt w A1 A2 A3 A4 A5 n1 c1 n2 c2 n3 c3 n4 c4 n5 c5 r) (hK : SliceOf w 2 Tier.cells K kn kc ts) :
    Calls Tryz.prog 50 #[.agg #[.slice A1 n1 c1, .slice A2 n2 c2, .slice A3 n3 c3, .slice A4 n4 c4, .slice A5 n5 c5], .agg #[.int .i64 band, .int .i64 percent, .int .i64 price, .slice K kn kc]] w (RetOC 188 4 Posting.cells (srV n1 r band percent price ts) w) := by
  obtain ⟨W0, HW0⟩ : ∃ W0, Hid (((w.alloc (.cells #[.slice A1 n1 c1, .slice A2 n2 c2, .slice A3 n3 c3, .slice A4 n4 c4, .slice A5 n5 c5] 82)).alloc (.cells #[.int .i64 band, .int .i64 percent, .int .i64 price, .slice K kn kc] 73)) = W0) := ⟨_, hide rfl⟩
  have hin : RoomIn W0 w.heap.size A1 A2 A3 A4 A5 n1 c1 n2 c2 n3 c3 n4 c4 n5 c5 := by rw [← HW0.out]; exact (RoomIn.new w A1 A2 A3 A4 A5 n1 c1 n2 c2 n3 c3 n4 c4 n5 c5 82).ext (Ext.alloc _ _)
  have hT : Row W0 (w.heap.size + 1) 73 [.int .i64 band, .int .i64 percent, .int .i64 price, .slice K kn kc] := by rw [← HW0.out]; exact Row.newG (W := (w.alloc (.cells #[.slice A1 n1 c1, .slice A2 n2 c2, .slice A3 n3 c3, .slice A4 n4 c4, .slice A5 n5 c5] 82))) _ [.int .i64 band, .int .i64 percent, .int .i64 price, .slice K kn kc] (by simp)
  have hx0 : Ext w W0 := by rw [← HW0.out]; exact (Ext.alloc _ _).and_alloc _
  have HL5 := hide hat.s5.len
  have hm5 := hat.s5.max
  have hc5 := hat.s5.cap
  obtain ⟨hlt, x0, x1, x2, x3, x4⟩ := hin
  have hin : RoomIn W0 w.heap.size A1 A2 A3 A4 A5 n1 c1 n2 c2 n3 c3 n4 c4 n5 c5 := ⟨hlt, x0, x1, x2, x3, x4⟩
  go_enter Tryz.func50, Tryz.ntmps50
  go_wp2_with fail
  rw [HW0.out]
  refine (c_IsRoom A1 A2 A3 A4 A5 n1 c1 n2 c2 n3 c3 n4 c4 n5 c5 r _ (hat.ext hx0)).mono ?_
  cases hr : roomB n1 r
  · have HR : Hid (srV n1 r band percent price ts = ([], 1)) := hide (by unfold srV; rw [hr]; rfl)
    clear hr
    rintro e w1 ⟨rfl, hx1⟩
    go_wp2_with fail
    go_ret2
    exact RetOC.nil0 (hx0.trans hx1) HR.out.symm
  rintro e w1 ⟨rfl, hx1⟩
  have HR : Hid (srV n1 r band percent price ts = hsV n1 r.ns r.ps r.xs r.L 0 (r.rs.take (n5 - 1)) band percent price ts) := hide (by unfold srV; rw [hr, if_pos rfl, HL5.out])
  have hp5 : 1 ≤ n5 := by have := room_pos hr; have := HL5.out; omega
  clear hr hlt x0 x1 x2 x3 x4
  have hX1 := hx0.trans hx1
  obtain ⟨hlt, x0, x1, x2, x3, x4⟩ := hin.ext hx1
  have hTr := hT.ext (hx1)
  have y0 := hTr.cell 0
  have y1 := hTr.cell 1
  have y2 := hTr.cell 2
  have y3 := hTr.cell 3
  simp at y0 y1 y2 y3
  have hyl := hTr.lt
  have e1 : ((n5 : Int) - 1) = ((n5 - 1 : Nat) : Int) := by omega
  have hXd := hX1.drew
  go_wp2_with fail
  refine wp_region_ph [([0, 1, 2, 3, 4, 5, 6, 7, 8, 9, 10, 11, 12, 13], 14)] [15, 16, 17, 18] (by kernel_rfl) (by kernel_rfl) (by intro c a w d v h; cases d <;> exact h) ?_
  simp only [wpPh, pickL, nthO]
  repeat (go_big_quiet_step (fail))
  refine wpQuiet_nil ?_
  go_wp2_with fail
  refine (c_SettleHours A1 A2 n1 c1 n2 c2 r.ns r.ps A3 n3 c3 r.xs A4 n4 c4 r.L 0 A5 (n5 - 1) c5 (r.rs.take (n5 - 1)) band percent price K kn kc ts _ (hat.s1.ext hXd) (hat.s2.ext hXd) (hat.s3.ext hXd) (hat.s4.ext hXd) ((hat.s5.take (k := n5 - 1) (by omega)).ext hXd) (fun q hq => (hat.s6 q (List.mem_of_mem_take hq)).ext hXd) (hK.ext hXd)).mono ?_
  rw [← HR.out]
  rintro e w2 ⟨v, l, z, rfl, ho, hx2, HP⟩
  have hz := hXd.size
  go_wp2_with fail
  refine ⟨hx2, ?_⟩
  repeat (go_big_quiet_step (fail))
  refine wpQuiet_nil ?_
  go_wp2_with fail
  go_ret2
  exact ⟨v, l, z, rfl, ho.lowG hz, hXd.trans hx2, HP⟩
set_option maxHeartbeats 2000000 in
theorem c_specSettleRoom (A1 A2 A3 A4 A5 : Option Addr) (n1 c1 n2 c2 n3 c3 n4 c4 n5 c5 : Nat) (r : Room) (band percent price : Int) (K : Option Addr) (kn kc : Nat) (ts : List Tier) (w : World) (hat : RoomAt w A1 A2 A3 A4 A5 n1 c1 n2 c2 n3 c3 n4 c4 n5 c5 r) (hK : SliceOf w 2 Tier.cells K kn kc ts)(hnm : ∀ x ∈ r.ns, x.name.size ≤ 1048576) :
    Calls Tryz.prog 51 #[.agg #[.slice A1 n1 c1, .slice A2 n2 c2, .slice A3 n3 c3, .slice A4 n4 c4, .slice A5 n5 c5], .agg #[.int .i64 band, .int .i64 percent, .int .i64 price, .slice K kn kc]] w (RetOC 188 4 Posting.cells (srV n1 r band percent price ts) w) := by
  obtain ⟨W0, HW0⟩ : ∃ W0, Hid (((w.alloc (.cells #[.slice A1 n1 c1, .slice A2 n2 c2, .slice A3 n3 c3, .slice A4 n4 c4, .slice A5 n5 c5] 82)).alloc (.cells #[.int .i64 band, .int .i64 percent, .int .i64 price, .slice K kn kc] 73)) = W0) := ⟨_, hide rfl⟩
  have hin : RoomIn W0 w.heap.size A1 A2 A3 A4 A5 n1 c1 n2 c2 n3 c3 n4 c4 n5 c5 := by rw [← HW0.out]; exact (RoomIn.new w A1 A2 A3 A4 A5 n1 c1 n2 c2 n3 c3 n4 c4 n5 c5 82).ext (Ext.alloc _ _)
  have hT : Row W0 (w.heap.size + 1) 73 [.int .i64 band, .int .i64 percent, .int .i64 price, .slice K kn kc] := by rw [← HW0.out]; exact Row.newG (W := (w.alloc (.cells #[.slice A1 n1 c1, .slice A2 n2 c2, .slice A3 n3 c3, .slice A4 n4 c4, .slice A5 n5 c5] 82))) _ [.int .i64 band, .int .i64 percent, .int .i64 price, .slice K kn kc] (by simp)
  have hx0 : Ext w W0 := by rw [← HW0.out]; exact (Ext.alloc _ _).and_alloc _
  have HL5 := hide hat.s5.len
  have hm5 := hat.s5.max
  have hc5 := hat.s5.cap
  obtain ⟨hlt, x0, x1, x2, x3, x4⟩ := hin
  have hin : RoomIn W0 w.heap.size A1 A2 A3 A4 A5 n1 c1 n2 c2 n3 c3 n4 c4 n5 c5 := ⟨hlt, x0, x1, x2, x3, x4⟩
  go_enter Tryz.func51, Tryz.ntmps51
  go_wp2_with fail
  rw [HW0.out]
  refine (c_specIsRoom A1 A2 A3 A4 A5 n1 c1 n2 c2 n3 c3 n4 c4 n5 c5 r _ (hat.ext hx0) hnm).mono ?_
  cases hr : roomB n1 r
  · have HR : Hid (srV n1 r band percent price ts = ([], 1)) := hide (by unfold srV; rw [hr]; rfl)
    clear hr
    rintro e w1 ⟨rfl, hx1⟩
    go_wp2_with fail
    go_ret2
    exact RetOC.nil0 (hx0.trans hx1) HR.out.symm
  rintro e w1 ⟨rfl, hx1⟩
  have HR : Hid (srV n1 r band percent price ts = hsV n1 r.ns r.ps r.xs r.L 0 (r.rs.take (n5 - 1)) band percent price ts) := hide (by unfold srV; rw [hr, if_pos rfl, HL5.out])
  have hp5 : 1 ≤ n5 := by have := room_pos hr; have := HL5.out; omega
  clear hr hlt x0 x1 x2 x3 x4
  have hX1 := hx0.trans hx1
  obtain ⟨hlt, x0, x1, x2, x3, x4⟩ := hin.ext hx1
  have hTr := hT.ext (hx1)
  have y0 := hTr.cell 0
  have y1 := hTr.cell 1
  have y2 := hTr.cell 2
  have y3 := hTr.cell 3
  simp at y0 y1 y2 y3
  have hyl := hTr.lt
  have e1 : ((n5 : Int) - 1) = ((n5 - 1 : Nat) : Int) := by omega
  have hXd := hX1.drew
  go_wp2_with fail
  refine wp_region_ph [([0, 1, 2, 3, 4, 5, 6, 7, 8, 9, 10, 11, 12, 13], 14)] [15, 16, 17, 18] (by kernel_rfl) (by kernel_rfl) (by intro c a w d v h; cases d <;> exact h) ?_
  simp only [wpPh, pickL, nthO]
  repeat (go_big_quiet_step (fail))
  refine wpQuiet_nil ?_
  go_wp2_with fail
  refine (c_specSettleHours A1 A2 n1 c1 n2 c2 r.ns r.ps A3 n3 c3 r.xs A4 n4 c4 r.L 0 A5 (n5 - 1) c5 (r.rs.take (n5 - 1)) band percent price K kn kc ts _ (hat.s1.ext hXd) (hat.s2.ext hXd) (hat.s3.ext hXd) (hat.s4.ext hXd) ((hat.s5.take (k := n5 - 1) (by omega)).ext hXd) (fun q hq => (hat.s6 q (List.mem_of_mem_take hq)).ext hXd) (hK.ext hXd) hnm).mono ?_
  rw [← HR.out]
  rintro e w2 ⟨v, l, z, rfl, ho, hx2, HP⟩
  have hz := hXd.size
  go_wp2_with fail
  refine ⟨hx2, ?_⟩
  repeat (go_big_quiet_step (fail))
  refine wpQuiet_nil ?_
  go_wp2_with fail
  go_ret2
  exact ⟨v, l, z, rfl, ho.lowG hz, hXd.trans hx2, HP⟩
end Go.Proofs.YtfkpghdmljjegaaGreat

namespace Go.Proofs.YtfkpghdmljjegaaGreat
open Go.RowKit

theorem c_toTier (u f : Int) (w : World) :
    Calls Tryz.prog 213 #[.agg #[.int .i64 u, .int .i64 f]] w (Ret (.agg #[.int .i64 u, .int .i64 f]) w) := by
  go_enter Tryz.func213, Tryz.ntmps213
  go_wp2
  exact bodyPost_ret (v := .agg #[.int .i64 u, .int .i64 f]) (by simp [results, Tryz.results213, go_sem]) rfl ⟨rfl, (((Ext.refl _).and_alloc _).and_alloc _).and_alloc _⟩

theorem c_eqTier (u f u' f' : Int) (w : World) :
    Calls Tryz.prog 214 #[.agg #[.int .i64 u, .int .i64 f], .agg #[.int .i64 u', .int .i64 f']] w (Ret (.bool (decide (u = u') && decide (f = f'))) w) := by
  go_enter Tryz.func214, Tryz.ntmps214
  go_wp2
  all_goals
    go_ret
    refine Ret.bool ?_ (((Ext.refl _).and_alloc _).and_alloc _)
    simp_all

theorem c_szTierS (A : Option Addr) (n c : Nat) (left : Int) (w : World) (hn : n ≤ c) (hc : c ≤ 9223372036854775807) (h0 : 0 ≤ left) (h1 : left ≤ 1048576) :
    Calls Tryz.prog 139 #[.slice A n c, .int .i64 left] w fun e w' => e = .returned (.int .i64 (if left < n then -1 else left - n)) ∧ w = w' := by
  go_enter Tryz.func139, Tryz.ntmps139
  go_wp2
  all_goals
    go_ret
    simp <;> omega

theorem c_szTerms (band percent price left : Int) (A : Option Addr) (n c : Nat) (w : World) (hn : n ≤ c) (hc : c ≤ 9223372036854775807) (h0 : 0 ≤ left) (h1 : left ≤ 1048576) :
    Calls Tryz.prog 54 #[.agg #[.int .i64 band, .int .i64 percent, .int .i64 price, .slice A n c], .int .i64 left] w (Ret (.int .i64 (if left < n then -1 else left - n)) w) := by
  go_enter Tryz.func54, Tryz.ntmps54
  go_wp2_with (go_at_call 139; refine (c_szTierS _ _ _ _ _ hn hc h0 h1).mono ?_; rintro e w' ⟨rfl, rfl⟩)
  all_goals
    go_ret
    refine Ret.int ?_ (Ext.alloc _ _)
    first | omega | rfl

theorem tier_len (t : Tier) : t.cells.length = 2 := rfl
theorem tier_info : (Tryz.prog.info? 70).map (fun i => (i.zero, i.size, i.bytes)) = some (some (.agg #[.int .i64 0, .int .i64 0]), 2, 16) := by kernel_rfl

set_option maxHeartbeats 1000000 in
theorem c_toTierS (A : Option Addr) (n c : Nat) (ts : List Tier) (w : World) (hs : SliceOf w 2 Tier.cells A n c ts) (hn : n ≤ 1048576) :
    Calls Tryz.prog 140 #[.slice A n c] w (NewRow 70 Tier.cells ts w) := by
  have hmk := fun W => run_make_flat (P := Tryz.prog) 71 70 _ _ 2 16 Tryz.underlying71 tier_info (f := Tier.cells) ⟨0, 0⟩ rfl rfl rfl (by omega) n (by omega) (by omega) W
  have hR0 := Row.new w 70 ((List.replicate n (⟨0, 0⟩ : Tier)).flatMap Tier.cells)
  go_enter Tryz.func140, Tryz.ntmps140
  go_wp2_with fail
  go_loopw [4] (fun i wr => ∃ (k : Nat) (L : List Tier), k ≤ n ∧ i = .int .i64 k ∧ L.length = n ∧ RowOf wr w.heap.size 70 Tier.cells L ∧ Hid (∀ j, j < k → L[j]? = ts[j]?) ∧ Ext w wr) (fun i _ => n - (intOf i).toNat)
  case atStart => exact ⟨0, _, Nat.zero_le _, rfl, List.length_replicate, hR0, hide (fun j hj => absurd hj (by omega)), Ext.alloc _ _⟩
  case round =>
    obtain ⟨k, L, hk, rfl, hL, hrow, HK, hx⟩ := hrel
    clear hR0 hmk
    have hgs := hrow.lt
    by_cases hlt : k < n
    · obtain ⟨b, off, x, rfl, hb, hxk, hc⟩ := (hs.ext hx).get hlt
      have hc0 := hc 0 _ rfl
      have hc1 := hc 1 _ rfl
      clear hc
      simp only [Nat.add_zero] at hc0
      have Hx := hide hxk
      have HL := hide hL
      clear hxk hL
      go_wp2_with (go_at_call 213; refine (c_toTier _ _ _).mono ?_; rintro e w1 ⟨rfl, hx1⟩; have hrow1 := hrow.ext hx1; obtain ⟨v0, hv0⟩ := hrow1.there tier_len (i := k) (by rw [HL.out]; exact hlt) (j := 0) (by omega); obtain ⟨v1, hv1⟩ := hrow1.there tier_len (i := k) (by rw [HL.out]; exact hlt) (j := 1) (by omega); have hf0 := hrow1.frozen (k * 2); have hf1 := hrow1.frozen (k * 2 + 1); rw [Nat.add_zero] at hv0)
      go_roundw
      case rel =>
        refine ⟨k + 1, L.set k x, by omega, by go_num, by simpa using HL.out, hrow1.put tier_len (by rw [HL.out]; exact hlt) x, hide ?_, (hx.trans hx1).put (Nat.le_refl _) (k * 2) x.cells⟩
        intro j hj
        rw [List.getElem?_set]
        by_cases e : k = j
        · subst e; rw [if_pos rfl, if_pos (by rw [HL.out]; exact hlt), Hx.out]
        · rw [if_neg e]; exact HK.out j (by omega)
      case measure => simp [intOf]; omega
    · go_wp2
      go_ret
      have hLts : L = ts := by
        apply List.ext_getElem?
        intro j
        by_cases hj : j < n
        · exact HK.out j (by omega)
        · rw [List.getElem?_eq_none (by omega), List.getElem?_eq_none (by have := hs.len; omega)]
      subst hLts
      refine ⟨w.heap.size, ?_, Nat.le_refl _, hrow, hx⟩
      rw [hL]; rfl

end Go.Proofs.YtfkpghdmljjegaaGreat

namespace Go.Proofs.YtfkpghdmljjegaaGreat
open Go.RowKit

/-- a new copy of terms -/
def NewTerms (band percent price : Int) (ts : List Tier) (w : World) (e : Ending) (w' : World) : Prop :=
  ∃ g, e = .returned (.agg #[.int .i64 band, .int .i64 percent, .int .i64 price, .slice (some ⟨g, 0, none⟩) ts.length ts.length]) ∧ w.heap.size ≤ g ∧ RowOf w' g 70 Tier.cells ts ∧ Ext w w'

theorem c_toTerms (band percent price : Int) (A : Option Addr) (n c : Nat) (ts : List Tier) (w : World) (hs : SliceOf w 2 Tier.cells A n c ts) (hn : n ≤ 1048576) :
    Calls Tryz.prog 56 #[.agg #[.int .i64 band, .int .i64 percent, .int .i64 price, .slice A n c]] w (NewTerms band percent price ts w) := by
  go_enter Tryz.func56, Tryz.ntmps56
  go_wp2_with fail
  refine (c_toTierS A n c ts _ (hs.ext (((Ext.alloc _ _).and_alloc _).and_alloc _)) hn).mono ?_
  rintro e w1 ⟨g, rfl, hg, hrow, hx1⟩
  have hx : Ext w w1 := (((Ext.alloc _ _).and_alloc _).and_alloc _).trans hx1
  have hcl := hx1.cell
  have hfr := hx1.frozen
  have hz := hx1.size
  simp at hz hg
  go_wp2
  refine bodyPost_ret (v := .agg #[.int .i64 band, .int .i64 percent, .int .i64 price, .slice (some ⟨g, 0, none⟩) ts.length ts.length]) (by simp [results, Tryz.results56, go_sem, hcl]) rfl ⟨g, rfl, by omega, ?_, ?_⟩
  · repeat (refine RowOf.far ?_ (by first | (simp; done) | (simp; omega) | omega) _)
    exact hrow
  · repeat (refine Ext.setCell ?_ (by first | (simp; done) | (simp; omega) | omega) _)
    exact hx

set_option maxHeartbeats 1000000 in
theorem c_eqTierS (A A' : Option Addr) (n c n' c' : Nat) (ts : List Tier) (w : World) (hs : SliceOf w 2 Tier.cells A n c ts) (hs' : SliceOf w 2 Tier.cells A' n' c' ts) :
    Calls Tryz.prog 142 #[.slice A n c, .slice A' n' c'] w (Ret (.bool true) w) := by
  have hl := hs.len
  obtain rfl : n = n' := by rw [hs.len, hs'.len]
  have hm := hs.max
  have hcp := hs.cap
  clear hl
  go_enter Tryz.func142, Tryz.ntmps142
  go_wp2_with fail
  go_loopw [5] (fun i wr => ∃ (k : Nat), k ≤ n ∧ i = .int .i64 k ∧ Ext w wr) (fun i _ => n - (intOf i).toNat)
  case atStart => exact ⟨0, Nat.zero_le _, rfl, Ext.refl _⟩
  case round =>
    obtain ⟨k, hk, rfl, hx⟩ := hrel
    by_cases hlt : k < n
    · obtain ⟨b, off, x, rfl, hb, hxk, hc⟩ := (hs.ext hx).get hlt
      obtain ⟨b', off', x', rfl, hb', hxk', hc'⟩ := (hs'.ext hx).get hlt
      obtain rfl : x = x' := by rw [hxk] at hxk'; injection hxk'
      have hc0 := hc 0 _ rfl
      have hc1 := hc 1 _ rfl
      have hd0 := hc' 0 _ rfl
      have hd1 := hc' 1 _ rfl
      clear hc hc' hxk hxk'
      simp only [Nat.add_zero] at hc0 hd0
      go_wp2_with fail
      refine wp_region_later (by kernel_rfl) (by kernel_rfl) ?_
      repeat (go_big_quiet_step ((go_at_call 214; exact quiet_later (c_eqTier _ _ _ _ _))))
      refine wpQuiet_nil ?_
      intro w1 hx1
      simp only [decide_true, Bool.and_self]
      go_wp2
      go_roundw
      case rel => exact ⟨k + 1, by omega, by go_num, hx.trans hx1⟩
      case measure => simp [intOf]; omega
    · go_wp2
      go_ret
      exact Ret.bool rfl hx

theorem c_eqTerms (band percent price : Int) (A A' : Option Addr) (n c n' c' : Nat) (ts : List Tier) (w : World) (hs : SliceOf w 2 Tier.cells A n c ts) (hs' : SliceOf w 2 Tier.cells A' n' c' ts) :
    Calls Tryz.prog 59 #[.agg #[.int .i64 band, .int .i64 percent, .int .i64 price, .slice A n c], .agg #[.int .i64 band, .int .i64 percent, .int .i64 price, .slice A' n' c']] w (Ret (.bool true) w) := by
  go_enter Tryz.func59, Tryz.ntmps59
  go_wp2_with (go_at_call 142; refine (c_eqTierS _ _ _ _ _ _ ts _ (hs.ext ((Ext.alloc _ _).and_alloc _)) (hs'.ext ((Ext.alloc _ _).and_alloc _))).mono ?_; rintro e w1 ⟨rfl, hx1⟩)
  go_ret
  exact Ret.bool rfl (hx1.box.box)

end Go.Proofs.YtfkpghdmljjegaaGreat

namespace Go.Proofs.YtfkpghdmljjegaaGreat
open Go.RowKit


end Go.Proofs.YtfkpghdmljjegaaGreat

namespace Go.Proofs.YtfkpghdmljjegaaGreat
open Go.RowKit
theorem tier_lenM (x : Tier) : x.cells.length = 2 := rfl
/-- the marks from a number on -/
def markTier (a : Int) (n : Nat) : List Tier := (List.range n).map fun (i : Nat) => ⟨a + 2 * (i : Int), a + 2 * (i : Int) + 1⟩
theorem markTier_at (a : Int) (n i : Nat) (h : i < n) : (markTier a n)[i]? = some ⟨a + 2 * (i : Int), a + 2 * (i : Int) + 1⟩ := by
  unfold markTier; rw [List.getElem?_map, List.getElem?_range h]; rfl
/-- the row is marked; nothing else has turned -/
def MarkedTier (g : Nat) (A : Option Addr) (n : Nat) (a : Int) (w : World) (e : Ending) (w' : World) : Prop :=
  e = .returned (.int .i64 (a + 2 * n)) ∧ OwnS w' g 70 Tier.cells A n (markTier a n) ∧ Only g w w'
set_option maxHeartbeats 1000000 in
theorem c_markTierS (g : Nat) (A : Option Addr) (n c : Nat) (ts : List Tier) (a : Int) (w : World) (hown0 : OwnS w g 70 Tier.cells A n ts) (hn : n ≤ 1000000000) (hcap : n ≤ c) (hmax : c ≤ 9223372036854775807) (ha0 : 0 ≤ a) (ha1 : a ≤ 1000000000000) :
    Calls Tryz.prog 143 #[.slice A n c, .int .i64 a] w (MarkedTier g A n a w) := by
  go_enter Tryz.func143, Tryz.ntmps143
  go_wp2_with fail
  go_loopw [1, 5] (fun q i wr => ∃ (k : Nat) (K : Int) (L : List Tier), k ≤ n ∧ q = .int .i64 K ∧ i = .int .i64 k ∧ a + 2 * (k : Int) ≤ K ∧ K ≤ a + 2 * (k : Int) ∧ OwnS wr g 70 Tier.cells A n L ∧ Hid (∀ j, j < k → L[j]? = (markTier a n)[j]?) ∧ Only g w wr) (fun _ i _ => n - (intOf i).toNat)
  case atStart => exact ⟨0, a, ts, Nat.zero_le _, rfl, rfl, by omega, by omega, hown0, hide (fun j hj => absurd hj (by omega)), Only.refl _ _⟩
  case round =>
    obtain ⟨k, K, L, hk, rfl, rfl, hK0, hK1, hown, HK, hx⟩ := hrel
    by_cases hlt : k < n
    · have hn0 : 0 < n := by omega
      obtain ⟨rfl, _⟩ := hown.2 hn0
      obtain ⟨v0, hv0⟩ := hown.there tier_lenM (i := k) hlt (j := 0) (by omega)
      have hf0 := hown.frozen hn0 (k * 2)
      obtain ⟨v1, hv1⟩ := hown.there tier_lenM (i := k) hlt (j := 1) (by omega)
      have hf1 := hown.frozen hn0 (k * 2 + 1)
      rw [Nat.add_zero] at hv0
      have HL := hide hown.1
      go_wp2_with fail
      go_roundw
      case rel =>
        refine ⟨k + 1, _, L.set k ⟨K, K + 1⟩, by omega, rfl, by go_num, by omega, by omega, hown.put tier_lenM hlt ⟨K, K + 1⟩, hide ?_, hx.put (k * 2) (Tier.cells ⟨K, K + 1⟩)⟩
        intro j hj
        rw [List.getElem?_set]
        by_cases e : k = j
        · subst e
          rw [if_pos rfl, if_pos (by rw [← HL.out]; exact hlt), markTier_at _ _ _ hlt]
          congr 2 <;> omega
        · rw [if_neg e]; exact HK.out j (by omega)
      case measure => simp [intOf]; omega
    · go_wp2_with fail
      go_ret
      have hLts : L = markTier a n := by
        apply List.ext_getElem?
        intro j
        by_cases hj : j < n
        · exact HK.out j (by omega)
        · rw [List.getElem?_eq_none (by have := hown.1; omega), List.getElem?_eq_none (by simp [markTier]; omega)]
      subst hLts
      refine ⟨?_, hown, hx⟩
      obtain rfl : k = n := by omega
      have : K = a + 2 * (k : Int) := by omega
      rw [← this]; rfl

theorem n_markTier (A : Option Addr) (n c : Nat) (ts : List Tier) (a : Int) (w : World) (h : OwnA w 70 Tier.cells A n c ts) (hn : n ≤ 1000000000) (ha0 : 0 ≤ a) (ha1 : a ≤ 1000000000000) :
    Calls Tryz.prog 143 #[.slice A n c, .int .i64 a] w (MarkA 70 Tier.cells A n c (a + 2 * n) (markTier a n) w) := by
  obtain ⟨g, ho, hg⟩ := h.own
  refine (c_markTierS g A n c ts a w ho hn h.2.1 h.2.2.1 ha0 ha1).mono fun e w' ⟨h1, h2, h3⟩ => ?_
  exact ⟨h1, h2.toA h.2.1 h.2.2.1, Turn.of_only h3 hg⟩
theorem n_markPosting (A : Option Addr) (n c : Nat) (ts : List Posting) (a : Int) (w : World) (h : OwnA w 188 Posting.cells A n c ts) (hn : n ≤ 1000000000) (ha0 : 0 ≤ a) (ha1 : a ≤ 1000000000000) :
    Calls Tryz.prog 62 #[.slice A n c, .int .i64 a] w (MarkA 188 Posting.cells A n c (a + 4 * n) (markPosting a n) w) := by
  obtain ⟨g, ho, hg⟩ := h.own
  refine (c_markPostingS g A n c ts a w ho hn h.2.1 h.2.2.1 ha0 ha1).mono fun e w' ⟨h1, h2, h3⟩ => ?_
  exact ⟨h1, h2.toA h.2.1 h.2.2.1, Turn.of_only h3 hg⟩
set_option maxHeartbeats 1000000 in
theorem c_markTerms (band percent price : Int) (A : Option Addr) (n c : Nat) (ts : List Tier) (a : Int) (w : World) (h : OwnA w 70 Tier.cells A n c ts) (hn : n ≤ 1000000000) (ha0 : 0 ≤ a) (ha1 : a ≤ 1000000000000) :
    Calls Tryz.prog 61 #[.agg #[.int .i64 band, .int .i64 percent, .int .i64 price, .slice A n c], .int .i64 a] w (MarkA 70 Tier.cells A n c (a + 2 * n) (markTier a n) w) := by
  go_enter Tryz.func61, Tryz.ntmps61
  go_wp2_with fail
  refine (n_markTier A n c ts a _ (h.ext (Ext.alloc _ _)) hn ha0 ha1).mono ?_
  rintro e w1 ⟨rfl, o1, t1⟩
  go_wp2_with fail
  go_ret
  exact ⟨rfl, o1, (Turn.of_ext (Ext.alloc _ _)).trans t1⟩
structure StlSm (n0 n1 n2 n3 n4 : Nat) : Prop where
  m0 : n0 ≤ 10000000
  m1 : n1 ≤ 10000000
  m2 : n2 ≤ 10000000
  m3 : n3 ≤ 10000000
  m4 : n4 ≤ 10000000
end Go.Proofs.YtfkpghdmljjegaaGreat

namespace Go.Proofs.YtfkpghdmljjegaaGreat
open Go.RowKit

structure Event where
  kind : Int
  a : Int
  b : Int
  c : Int
  d : Int
def Event.cells (x : Event) : List Value := [.int .i64 x.kind, .int .i64 x.a, .int .i64 x.b, .int .i64 x.c, .int .i64 x.d]
end Go.Proofs.YtfkpghdmljjegaaGreat

namespace Go.Proofs.YtfkpghdmljjegaaGreat
open Go.RowKit
theorem blk_some {g n b : Nat} (h : blkOf (some ⟨g, 0, none⟩) n = some b) : b = g := by
  unfold blkOf at h
  split at h
  · cases h
  · simp at h; exact h.symm
theorem sep5R {x1 x2 x3 x4 x5 : Option Nat} {g1 g2 g3 g4 g5 : Nat} (k1 : ∀ b, x1 = some b → b = g1) (k2 : ∀ b, x2 = some b → b = g2) (k3 : ∀ b, x3 = some b → b = g3) (k4 : ∀ b, x4 = some b → b = g4) (k5 : ∀ b, x5 = some b → b = g5)
    (h12 : g1 ≠ g2) (h13 : g1 ≠ g3) (h14 : g1 ≠ g4) (h15 : g1 ≠ g5) (h23 : g2 ≠ g3) (h24 : g2 ≠ g4) (h25 : g2 ≠ g5) (h34 : g3 ≠ g4) (h35 : g3 ≠ g5) (h45 : g4 ≠ g5) : SepL [x1, x2, x3, x4, x5] := by
  intro i j b hij hi hj
  have key : ∀ i, [x1, x2, x3, x4, x5][i]? = some (some b) → (i = 0 ∧ b = g1) ∨ (i = 1 ∧ b = g2) ∨ (i = 2 ∧ b = g3) ∨ (i = 3 ∧ b = g4) ∨ (i = 4 ∧ b = g5) := by
    intro i hi
    match i with
    | 0 => simp at hi; exact .inl ⟨rfl, k1 b hi⟩
    | 1 => simp at hi; exact .inr (.inl ⟨rfl, k2 b hi⟩)
    | 2 => simp at hi; exact .inr (.inr (.inl ⟨rfl, k3 b hi⟩))
    | 3 => simp at hi; exact .inr (.inr (.inr (.inl ⟨rfl, k4 b hi⟩)))
    | 4 => simp at hi; exact .inr (.inr (.inr (.inr ⟨rfl, k5 b hi⟩)))
    | i + 5 => simp at hi
  rcases key i hi with ⟨rfl, h⟩ | ⟨rfl, h⟩ | ⟨rfl, h⟩ | ⟨rfl, h⟩ | ⟨rfl, h⟩ <;> rcases key j hj with ⟨rfl, h'⟩ | ⟨rfl, h'⟩ | ⟨rfl, h'⟩ | ⟨rfl, h'⟩ | ⟨rfl, h'⟩ <;> omega
/-- a copy, in blocks of its own -/
def RoomNew (r : Room) (w : World) (e : Ending) (w' : World) : Prop :=
  ∃ (A1 A2 A3 A4 A5 : Option Addr) (n1 c1 n2 c2 n3 c3 n4 c4 n5 c5 : Nat) (r' : Room), e = .returned (.agg #[.slice A1 n1 c1, .slice A2 n2 c2, .slice A3 n3 c3, .slice A4 n4 c4, .slice A5 n5 c5]) ∧ ROwn w' w.heap.size w'.heap.size A1 A2 A3 A4 A5 n1 c1 n2 c2 n3 c3 n4 c4 n5 c5 r' ∧ r'.Like r ∧ RoomSm n1 n2 n3 n4 r'.rs ∧ Ext w w'
theorem CopiedRoom.new {r : Room} {w w' : World} {e : Ending} (hl : RoomLen r) (h : CopiedRoom r w e w') : RoomNew r w e w' := by
  obtain ⟨g1, g2, g3, g4, g5, rs', rfl, h0, h12, h23, h34, h45, r1, r2, r3, r4, r5, hm, ho, hap, hx⟩ := h
  obtain ⟨k1, _, k2, k3, k4, k5, _, k8⟩ := hl
  have hlen := congrArg List.length hm
  simp at hlen
  have l1 := r1.lt
  have l2 := r2.lt
  have l3 := r3.lt
  have l4 := r4.lt
  have l5 := r5.lt
  have hq : ∀ b, rsBlk rs' b → g5 < b ∧ b < w'.heap.size := by
    rintro b ⟨q, hq, hb⟩
    obtain ⟨g, hg, hA, hn, _, _, hr⟩ := ho q hq
    rw [hA] at hb
    have := blk_some hb
    subst this
    exact ⟨hg, hr.lt⟩
  have hf : ∀ b, some b ∈ [blkOf (some ⟨g1, 0, none⟩) r.ns.length, blkOf (some ⟨g2, 0, none⟩) r.ps.length, blkOf (some ⟨g3, 0, none⟩) r.xs.length, blkOf (some ⟨g4, 0, none⟩) r.L.length, blkOf (some ⟨g5, 0, none⟩) r.rs.length] → g1 ≤ b ∧ b ≤ g5 := by
    intro b hb
    simp only [List.mem_cons, List.not_mem_nil, or_false] at hb
    rcases hb with hb | hb | hb | hb | hb <;> (have := blk_some hb.symm; omega)
  refine ⟨_, _, _, _, _, _, _, _, _, _, _, _, _, _, _, ⟨r.ns, r.ps, r.xs, r.L, rs'⟩, rfl, ?_, ⟨rfl, rfl, rfl, rfl, hm⟩, ⟨by omega, by omega, by omega, by omega, ?_⟩, hx⟩
  · refine ⟨r1.toA rfl (Nat.le_refl _) (by omega), r2.toA rfl (Nat.le_refl _) (by omega), r3.toA rfl (Nat.le_refl _) (by omega), r4.toA rfl (Nat.le_refl _) (by omega), r5.toA hlen.symm (Nat.le_refl _) (by omega), ?_, ?_, ?_, ?_, ?_, ?_⟩
    · intro q hq
      obtain ⟨g, hg, hA, hn, hc, hl, hr⟩ := ho q hq
      rw [hA, hc, hn]
      exact hr.toA rfl (Nat.le_refl _) (by omega)
    · exact sep5R (fun b hb => blk_some hb) (fun b hb => blk_some hb) (fun b hb => blk_some hb) (fun b hb => blk_some hb) (fun b hb => blk_some hb) (by omega) (by omega) (by omega) (by omega) (by omega) (by omega) (by omega) (by omega) (by omega) (by omega)
    · intro i j b hij hi hj
      simp only [List.getElem?_map, Option.map_eq_some_iff] at hi hj
      obtain ⟨q, hq1, hq2⟩ := hi
      obtain ⟨q', hq1', hq2'⟩ := hj
      obtain ⟨g, hg, hA, _⟩ := ho q (List.mem_of_getElem? hq1)
      obtain ⟨g', hg', hA', _⟩ := ho q' (List.mem_of_getElem? hq1')
      rw [hA] at hq2
      rw [hA'] at hq2'
      have e1 := blk_some hq2
      have e2 := blk_some hq2'
      exact hap i j q q' hij hq1 hq1' (by rw [hA, hA', ← e1, ← e2])
    · intro b hb hb'
      have := hf b hb
      have := hq b hb'
      omega
    · intro b hb
      have := hf b hb
      omega
    · intro b hb
      have := hq b hb
      omega
  · have : rs'.map RS.n = (r.rs.map RS.xs).map List.length := by
      rw [← hm, List.map_map]
      exact List.map_congr_left (fun q hq => by obtain ⟨_, _, _, hn, _⟩ := ho q hq; exact hn)
    rw [this]; exact k8
end Go.Proofs.YtfkpghdmljjegaaGreat

namespace Go.Proofs.YtfkpghdmljjegaaGreat
open Go.RowKit
def jA (P : Program) (fn : Func) (s : ChangeSpec) (c : OpenClaim) : Bool :=
  c.wf (OpenSpec.ofChange s) && laidOutB P && mapsRowed P && fn.params.all (P.readableRec ·) && namedTie P c.named s.vars && (c.stops == []) && (P.stops == []) && (c.knobs == []) && (P.stopKnobs == [])
def jB (P : Program) (f : FuncId) (c : OpenClaim) : Bool := (c.inPlace == P.inPlace f) && (c.unfollowed == P.unfollowed f)
def jC (P : Program) (f : FuncId) (c : OpenClaim) : Bool := (c.recurses == P.recurses f) && (c.named == P.varsNamed f)
def jD (P : Program) (fn : Func) (s : ChangeSpec) (c : OpenClaim) : Bool :=
  (c.maps == (fn.params.toList ++ s.plain.varTypes P).any (P.mapsRec ·)) && (c.ifaces == (fn.params.toList ++ s.plain.varTypes P).any (P.ifacesRec ·)) && (c.mapsOut == P.mapsAmong fn.resultTypes.toList) &&
  (c.loops == (fn.params.toList ++ s.plain.varTypes P).any (P.loopsFrom ·)) && (c.wideKeys == (fn.params.toList ++ s.plain.varTypes P ++ fn.resultTypes.toList).any (P.wideKeysFrom ·)) &&
  s.vars.all (P.varReadable ·) && fn.resultTypes.all (fun t => P.readableRec t && decide (t < P.types.size)) && (c.ifacesOut == fn.resultTypes.toList.any (P.ifacesRec ·)) && (c.loopsOut == fn.resultTypes.toList.any (P.loopsFrom ·))
def jE (P : Program) (c : OpenClaim) : Bool := (c.plainKeys == P.plainKeys) && c.shortTexts.isNone && P.stopsHeard && P.mayEnter
def jF (P : Program) (fn : Func) (s : ChangeSpec) (c : OpenClaim) : Bool :=
  (c.lifted == P.liftsFinal) && (P.make == some c.make) && (c.kinds == (if c.domain.isEmpty then [] else fn.params.toList.map fun t => match P.underlying t with | some (.int k) => some k | _ => none)) && (c.pinned == c.pinnedBy) &&
  (c.veiled == (fn.params.toList ++ s.plain.varTypes P ++ fn.resultTypes.toList).any (P.veiledRec ·)) && c.veiledFits P fn.params.toList (fn.params.toList ++ s.plain.varTypes P ++ fn.resultTypes.toList)
theorem joined_of {P : Program} {f : FuncId} {fn : Func} {s : ChangeSpec} {c : OpenClaim} (hA : jA P fn s c = true) (hB : jB P f c = true) (hC : jC P f c = true) (hD : jD P fn s c = true) (hE : jE P c = true) (hF : jF P fn s c = true) : joinedFacts P f fn s c = true := by
  unfold jA at hA
  unfold jB at hB
  unfold jC at hC
  unfold jD at hD
  unfold jE at hE
  unfold jF at hF
  unfold joinedFacts
  simp only [Bool.and_eq_true] at hA hB hC hD hE hF ⊢
  obtain ⟨⟨⟨⟨⟨⟨⟨⟨a1, a2⟩, a3⟩, a4⟩, a5⟩, a6⟩, a7⟩, a8⟩, a9⟩ := hA
  obtain ⟨⟨⟨⟨⟨⟨⟨⟨d1, d2⟩, d3⟩, d4⟩, d5⟩, d6⟩, d7⟩, d8⟩, d9⟩ := hD
  obtain ⟨⟨⟨e1, e2⟩, e3⟩, e4⟩ := hE
  obtain ⟨⟨⟨⟨⟨f1, f2⟩, f3⟩, f4⟩, f5⟩, f6⟩ := hF
  exact ⟨⟨⟨⟨⟨⟨⟨⟨⟨⟨⟨⟨⟨⟨⟨⟨⟨⟨⟨⟨⟨⟨⟨⟨⟨⟨⟨⟨⟨⟨⟨a1, a2⟩, a3⟩, a4⟩, a5⟩, a6⟩, a7⟩, a8⟩, a9⟩, hB.1⟩, hB.2⟩, hC.1⟩, hC.2⟩, d1⟩, d2⟩, d3⟩, d4⟩, d5⟩, d6⟩, d7⟩, d8⟩, d9⟩, e1⟩, e2⟩, e3⟩, e4⟩, f1⟩, f2⟩, f3⟩, f4⟩, f5⟩, f6⟩
end Go.Proofs.YtfkpghdmljjegaaGreat
