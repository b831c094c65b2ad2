/-
  UnallocatedOf, MeasuredTotal, ShipperBalance of the program; AreReadings of both.
-/
import Derived.Test.YtegkeeeohileiaaSa47
namespace Go.Proofs.Ytegkeeeohileiaa
open Go.RowKit
theorem unal_full {os : List Order} {rs : List Reading} {n : Nat} (h : n = rs.length) : unalL os 0 (rs.take n) = unalL os 0 rs := by rw [h, List.take_length]
set_option maxHeartbeats 1000000 in
theorem c_Unalloc (A1 A2 : Option Addr) (n1 c1 n2 c2 : Nat) (ns : List Node) (ps : List Pipe) (O : Option Addr) (no co : Nat) (os : List Order) (A : Option Addr) (n c : Nat) (rs : List Reading) (w : World) (hs1 : SliceOf w 3 Node.cells A1 n1 c1 ns) (hs2 : SliceOf w 5 Pipe.cells A2 n2 c2 ps) (hso : SliceOf w 4 Order.cells O no co os) (hs : SliceOf w 2 Reading.cells A n c rs) : Calls Try.prog 8 #[.agg #[.slice A1 n1 c1, .slice A2 n2 c2], .slice O no co, .slice A n c] w (RetGZ (UnQ n1 ns ps os rs) w) := by
  have hx0 : Ext w (w.alloc (.cells #[.slice A1 n1 c1, .slice A2 n2 c2] 27)) := Ext.alloc _ _
  by_cases hC : allC n1 ns ps os rs = 0
  · have HC := hide hC
    obtain ⟨_, hob, hrb⟩ := allC_ok hC
    obtain ⟨ho40, hom⟩ := orders_mem hob
    have hr48 := reads_len hrb
    have hrm := reads_mem hrb
    have HAM := hide (show Amt os from fun o ho => (hom o ho).2)
    have HRM := hide (show Rdg rs from hrm)
    have HSEP := hide (sep_of hrb)
    have hno := hso.len
    have hnr := hs.len
    have hn40 : no ≤ 40 := by omega
    have hn48 : n ≤ 48 := by omega
    have HNO := hide hno
    have HNR := hide hnr
    clear hob hrb hom hrm hno hnr ho40 hr48
    clear hC
    go_enter Try.func8, Try.ntmps8
    go_wp2_with fail
    refine (c_checkReadings A1 A2 n1 c1 n2 c2 ns ps O no co os A n c rs _ (hs1.ext hx0) (hs2.ext hx0) (hso.ext hx0) (hs.ext hx0)).mono ?_
    rw [HC.out]
    rintro e w1 ⟨rfl, hx1⟩
    have hx01 := hx0.trans hx1
    have hwz1 := hx01.size
    go_wp2_with fail
    go_loopw [9, 21] (fun u i wr => ∃ k : Nat, k ≤ n ∧ i = .int .i64 k ∧ OwnL wr w.heap.size 2 1 intC u (unalL os 0 (rs.take k)) ∧ Ext w wr) (fun _ i _ => n - (intOf i).toNat)
    case atStart => exact ⟨0, Nat.zero_le _, rfl, OwnL.nil_ _ _ _ _ _, hx01⟩
    case round =>
      obtain ⟨k, hk, rfl, hown, hx⟩ := hrel
      have hwz := hx.size
      by_cases hlt : k < n
      · obtain ⟨b, off, x, rfl, hbb, hxk, hc⟩ := hs.get hlt
        have j0w := hc 0 _ rfl
        have j1w := hc 1 _ rfl
        simp only [Nat.add_zero] at j0w
        have HX := hide hxk
        have HXB := hide (HRM.out x (List.mem_of_getElem? hxk))
        have HUT := hide (unal_take (os := os) hxk)
        clear hc hxk
        have j0 := (hx.cell _ _ hbb).trans j0w
        have j1 := (hx.cell _ _ hbb).trans j1w
        have hXI := ReadIn.new wr x
        have hxr : Ext wr (wr.alloc (.cells #[.int .i64 x.node, .int .i64 x.amount] 38)) := Ext.alloc _ _
        go_wp2_with fail
        refine (c_ContainsMatch O no co os x wr.heap.size _ (hso.ext (hx.trans hxr)) hXI).mono ?_
        cases hh : hasO os x
        · have HZ := hide ((hasO_iff (os := os) HXB.out.2).1 hh)
          rintro e w2 ⟨rfl, hx2⟩
          have ho2 := hown.ext (hxr.trans hx2)
          have hxx := (hx.trans hxr).trans hx2
          have hwz2 := hxx.size
          have hul := unal_len os 0 (rs.take k)
          rw [List.length_take] at hul
          have hul2 : (unalL os 0 (rs.take k)).length ≤ 48 := by omega
          rw [if_pos HZ.out] at HUT
          clear hul hown j0 j1
          go_wp2_with (at_builtin; go_must (refine wpList_append_where rfl _ _ 32 rfl w.heap.size 2 _ 1 8 Try.underlying32 int_info rfl (by decide) intC intC_len int_one' _ (unalL os 0 (rs.take k)) rfl (ho2.ext (Ext.alloc _ _)) w2.heap.size 0 1 1 [(k : Int)] rfl (new_int w2 _ _ rfl) (by omega) (by omega) (by simp; omega) ?_))
          intro v4 w4 ho4 hg4 _
          have hx4 := (hxx.and_alloc (.cells #[.int .i64 (k : Int)] 2)).grown hg4 (fun q hq => ho2.block_le hq)
          rw [← HUT.out] at ho4
          clear hg4 ho2
          go_wp2_with fail
          go_roundw
          case rel => exact ⟨k + 1, by omega, by go_num, ho4, hx4⟩
          case measure => simp [intOf]; omega
        · have HZ := hide (show ¬ sumZ (wts os x) = 0 from fun h => by rw [(hasO_iff (os := os) HXB.out.2).2 h] at hh; cases hh)
          rintro e w2 ⟨rfl, hx2⟩
          have ho2 := hown.ext (hxr.trans hx2)
          have hxx := (hx.trans hxr).trans hx2
          rw [if_neg HZ.out, List.append_nil] at HUT
          rw [← HUT.out] at ho2
          go_wp2_with fail
          go_roundw
          case rel => exact ⟨k + 1, by omega, by go_num, ho2, hxx⟩
          case measure => simp [intOf]; omega
      · obtain rfl : n = k := by omega
        rw [unal_full HNR.out] at hown
        go_wp2_with fail
        go_ret2
        exact ⟨_, _, 0, rfl, hown, hx, hide ⟨HC.out.symm, fun h => absurd rfl h, fun _ => rfl⟩⟩
  · have hb : (allC n1 ns ps os rs == 0) = false := by rw [beq_eq_false_iff_ne]; exact hC
    have HC := hide hC
    clear hC
    go_enter Try.func8, Try.ntmps8
    go_wp2_with fail
    refine (c_checkReadings A1 A2 n1 c1 n2 c2 ns ps O no co os A n c rs _ (hs1.ext hx0) (hs2.ext hx0) (hso.ext hx0) (hs.ext hx0)).mono ?_
    generalize hz : allC n1 ns ps os rs = Z at hb ⊢
    have HZ2 := hide hz
    clear hz
    rintro e w1 ⟨rfl, hx1⟩
    have hx01 := hx0.trans hx1
    go_wp2_with fail
    go_ret2
    exact ⟨_, [], Z, rfl, OwnL.nil_ _ _ _ _ _, hx01, hide ⟨HZ2.out.symm, fun _ => rfl, fun h => absurd (HZ2.out.trans h) HC.out⟩⟩
/-- a number and a code -/
def Ret2Z (a z : Int) (w : World) (e : Ending) (w' : World) : Prop := e = .returned (.tuple #[.int .i64 a, .int .i64 z]) ∧ Ext w w'
theorem amts_take {rs : List Reading} {k : Nat} {x : Reading} (h : rs[k]? = some x) : amts (rs.take (k + 1)) = amts (rs.take k) + x.amount := by
  unfold amts
  rw [List.map_take, List.map_take]
  exact sumZ_take (by simp [h])
theorem amts_bd {rs : List Reading} (h : Rdg rs) (k : Nat) : -(30000 * (k : Int)) ≤ amts (rs.take k) ∧ amts (rs.take k) ≤ 30000 * (k : Int) := by
  induction k with
  | zero => simp [amts, sumZ]
  | succ k ih =>
    cases hx : rs[k]? with
    | none =>
      rw [List.getElem?_eq_none_iff] at hx
      rw [List.take_of_length_le (by omega)]
      rw [List.take_of_length_le hx] at ih
      omega
    | some x =>
      rw [amts_take hx]
      have := (h x (List.mem_of_getElem? hx)).1
      omega
set_option maxHeartbeats 1000000 in
theorem c_Measured (A1 A2 : Option Addr) (n1 c1 n2 c2 : Nat) (ns : List Node) (ps : List Pipe) (A : Option Addr) (n c : Nat) (rs : List Reading) (w : World) (hs1 : SliceOf w 3 Node.cells A1 n1 c1 ns) (hs2 : SliceOf w 5 Pipe.cells A2 n2 c2 ps) (hs : SliceOf w 2 Reading.cells A n c rs) (hC : allC n1 ns ps [] rs = 0) : Calls Try.prog 13 #[.agg #[.slice A1 n1 c1, .slice A2 n2 c2], .slice A n c] w (Ret2Z (amts rs) 0 w) := by
  have hx0 : Ext w (w.alloc (.cells #[.slice A1 n1 c1, .slice A2 n2 c2] 27)) := Ext.alloc _ _
  have HC := hide hC
  obtain ⟨_, _, hrb⟩ := allC_ok hC
  have hr48 := reads_len hrb
  have HRM := hide (show Rdg rs from reads_mem hrb)
  have hnr := hs.len
  have hn48 : n ≤ 48 := by omega
  have HNR := hide hnr
  clear hrb hnr hr48 hC
  go_enter Try.func13, Try.ntmps13
  go_wp2_with fail
  refine (c_checkReadings A1 A2 n1 c1 n2 c2 ns ps none 0 0 [] A n c rs _ (hs1.ext hx0) (hs2.ext hx0) (slice_none _ _ _) (hs.ext hx0)).mono ?_
  rw [HC.out]
  rintro e w1 ⟨rfl, hx1⟩
  have hx01 := hx0.trans hx1
  go_wp2_with fail
  go_loopw [7, 18] (fun u i wr => ∃ (k : Nat) (S : Int), k ≤ n ∧ i = .int .i64 k ∧ u = .int .i64 S ∧ (-(30000 * (k : Int)) ≤ S ∧ S ≤ 30000 * (k : Int)) ∧ Hid (S = amts (rs.take k)) ∧ Ext w wr) (fun _ i _ => n - (intOf i).toNat)
  case atStart => exact ⟨0, 0, Nat.zero_le _, rfl, rfl, by omega, hide rfl, hx01⟩
  case round =>
    obtain ⟨k, S, hk, rfl, rfl, hSb, HS, hx⟩ := hrel
    by_cases hlt : k < n
    · obtain ⟨b, off, x, rfl, hbb, hxk, hc⟩ := hs.get hlt
      have j0w := hc 0 _ rfl
      have j1w := hc 1 _ rfl
      simp only [Nat.add_zero] at j0w
      have hxb := (HRM.out x (List.mem_of_getElem? hxk)).1
      have HT := hide (amts_take hxk)
      clear hc hxk
      have j0 := (hx.cell _ _ hbb).trans j0w
      have j1 := (hx.cell _ _ hbb).trans j1w
      have hxr : Ext wr (wr.alloc (.cells #[.int .i64 x.node, .int .i64 x.amount] 38)) := Ext.alloc _ _
      go_wp2_with fail
      go_roundw
      case rel => exact ⟨k + 1, S + x.amount, by omega, by go_num, rfl, by omega, hide (by rw [HT.out, HS.out]), hx.trans hxr⟩
      case measure => simp [intOf]; omega
    · obtain rfl : n = k := by omega
      have HF := hide (show S = amts rs by rw [HS.out, HNR.out, List.take_length])
      go_wp2_with fail
      go_ret2
      exact ⟨by rw [HF.out]; rfl, hx⟩
set_option maxHeartbeats 1000000 in
theorem c_impAreReadings (A1 A2 : Option Addr) (n1 c1 n2 c2 : Nat) (ns : List Node) (ps : List Pipe) (A : Option Addr) (n c : Nat) (rs : List Reading) (w : World) (hs1 : SliceOf w 3 Node.cells A1 n1 c1 ns) (hs2 : SliceOf w 5 Pipe.cells A2 n2 c2 ps) (hs : SliceOf w 2 Reading.cells A n c rs) : Calls Try.prog 11 #[.agg #[.slice A1 n1 c1, .slice A2 n2 c2], .slice A n c] w (Ret (.bool (allC n1 ns ps [] rs == 0)) w) := by
  have hx0 : Ext w (w.alloc (.cells #[.slice A1 n1 c1, .slice A2 n2 c2] 27)) := Ext.alloc _ _
  generalize hz : allC n1 ns ps [] rs = Z
  have HZ := hide hz
  clear hz
  go_enter Try.func11, Try.ntmps11
  go_wp2_with fail
  refine (c_checkReadings A1 A2 n1 c1 n2 c2 ns ps none 0 0 [] A n c rs _ (hs1.ext hx0) (hs2.ext hx0) (slice_none _ _ _) (hs.ext hx0)).mono ?_
  rw [HZ.out]
  rintro e w1 ⟨rfl, hx1⟩
  go_wp2_with fail
  go_ret
  exact Ret.bool rfl (hx0.trans hx1)
set_option maxHeartbeats 1000000 in
theorem c_specAreReadings (A1 A2 : Option Addr) (n1 c1 n2 c2 : Nat) (ns : List Node) (ps : List Pipe) (A : Option Addr) (n c : Nat) (rs : List Reading) (w : World) (hs1 : SliceOf w 3 Node.cells A1 n1 c1 ns) (hs2 : SliceOf w 5 Pipe.cells A2 n2 c2 ps) (hs : SliceOf w 2 Reading.cells A n c rs) (hnm : ∀ x ∈ ns, x.name.size ≤ 1048576) : Calls Try.prog 12 #[.agg #[.slice A1 n1 c1, .slice A2 n2 c2], .slice A n c] w (Ret (.bool (allC n1 ns ps [] rs == 0)) w) := by
  have hm1 := hs1.max
  have hp1 := hs1.cap
  have hB := Row.new w 27 [.slice A1 n1 c1, .slice A2 n2 c2]
  have hx0 : Ext w (w.alloc (.cells #[.slice A1 n1 c1, .slice A2 n2 c2] 27)) := Ext.alloc _ _
  cases hN : netB ns ps
  · have HR := hide (show (allC n1 ns ps [] rs == 0) = false by rw [allC_none, hN]; rfl)
    rw [HR.out]
    go_enter Try.func12, Try.ntmps12
    go_wp2_with fail
    refine (c_specIsNetwork A1 A2 n1 c1 n2 c2 ns ps _ (hs1.ext hx0) (hs2.ext hx0) hnm).mono ?_
    rw [hN]
    rintro e w1 ⟨rfl, hx1⟩
    go_wp2_with fail
    go_ret
    exact Ret.bool rfl (hx0.trans hx1)
  · have HR := hide (show (allC n1 ns ps [] rs == 0) = readsB n1 rs by rw [allC_none, hN, if_pos rfl]; cases readsB n1 rs <;> rfl)
    rw [HR.out]
    generalize hr : readsB n1 rs = R
    have HRB := hide hr
    clear hr
    go_enter Try.func12, Try.ntmps12
    go_wp2_with fail
    refine (c_specIsNetwork A1 A2 n1 c1 n2 c2 ns ps _ (hs1.ext hx0) (hs2.ext hx0) hnm).mono ?_
    rw [hN]
    rintro e w1 ⟨rfl, hx1⟩
    have b0 := (hB.ext hx1).cell 0
    have b1 := (hB.ext hx1).cell 1
    simp at b0 b1
    have bl := (hB.ext hx1).lt
    go_wp2_with fail
    refine (c_l28List A1 A2 n1 c1 n2 c2 A n c rs _ (by omega) (hs.ext (hx0.trans hx1))).mono ?_
    rw [HRB.out]
    rintro e w2 ⟨rfl, hx2⟩
    go_wp2_with fail
    go_ret
    exact Ret.bool rfl ((hx0.trans hx1).trans hx2)
end Go.Proofs.Ytegkeeeohileiaa
