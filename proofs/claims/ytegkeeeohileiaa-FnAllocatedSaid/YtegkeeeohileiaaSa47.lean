/-
  Allocate, UnallocatedOf and AreReadings, of both.
-/
import Derived.Test.YtegkeeeohileiaaSa46
import Derived.Test.YtegkeeeohileiaaSa40
namespace Go.Proofs.Ytegkeeeohileiaa
open Go.RowKit
/-- a list of numbers and a code -/
def RetGZ (Q : List Int → Int → Prop) (w : World) (e : Ending) (w' : World) : Prop :=
  ∃ v l z, e = .returned (.tuple #[v, .int .i64 z]) ∧ OwnL w' w.heap.size 2 1 intC v l ∧ Ext w w' ∧ Hid (Q l z)
/-- what is allocated, and the code -/
def AlQ (n1 : Int) (ns : List Node) (ps : List Pipe) (os : List Order) (rs : List Reading) (l : List Int) (z : Int) : Prop :=
  z = allC n1 ns ps os rs ∧ (z ≠ 0 → l = []) ∧ (z = 0 → Alloc os (List.replicate os.length 0) rs l ∧ Bd 10000000 l ∧ l.length = os.length)
def UnQ (n1 : Int) (ns : List Node) (ps : List Pipe) (os : List Order) (rs : List Reading) (l : List Int) (z : Int) : Prop :=
  z = allC n1 ns ps os rs ∧ (z ≠ 0 → l = []) ∧ (z = 0 → l = unalL os 0 rs)
theorem orders_mem {nn : Int} {os : List Order} (h : ordersB nn os = true) : os.length ≤ 40 ∧ ∀ o ∈ os, (0 ≤ o.shipper ∧ o.shipper ≤ 15) ∧ (-30000 ≤ o.amount ∧ o.amount ≤ 30000) := by
  unfold ordersB at h
  rw [Bool.and_eq_true, decide_eq_true_eq, List.all_eq_true] at h
  refine ⟨h.1, fun o ho => ?_⟩
  have := h.2 o ho
  simp only [orderB, Bool.and_eq_true, inB_true] at this
  exact ⟨this.1.1.1, this.1.2⟩
theorem reads_len {nn : Int} {rs : List Reading} (h : readsB nn rs = true) : rs.length ≤ 48 := by
  unfold readsB at h
  rw [Bool.and_eq_true, decide_eq_true_eq] at h
  exact h.1
set_option maxHeartbeats 1000000 in
theorem c_Allocate (A1 A2 : Option Addr) (n1 c1 n2 c2 : Nat) (ns : List Node) (ps : List Pipe) (O : Option Addr) (no co : Nat) (os : List Order) (A : Option Addr) (n c : Nat) (rs : List Reading) (w : World) (hs1 : SliceOf w 3 Node.cells A1 n1 c1 ns) (hs2 : SliceOf w 5 Pipe.cells A2 n2 c2 ps) (hso : SliceOf w 4 Order.cells O no co os) (hs : SliceOf w 2 Reading.cells A n c rs) : Calls Try.prog 6 #[.agg #[.slice A1 n1 c1, .slice A2 n2 c2], .slice O no co, .slice A n c] w (RetGZ (AlQ n1 ns ps os rs) w) := by
  have hx0 : Ext w (w.alloc (.cells #[.slice A1 n1 c1, .slice A2 n2 c2] 27)) := Ext.alloc _ _
  by_cases hC : allC n1 ns ps os rs = 0
  · have HC := hide hC
    obtain ⟨_, hob, hrb⟩ := allC_ok hC
    obtain ⟨ho40, hom⟩ := orders_mem hob
    have hr48 := reads_len hrb
    have hrm := reads_mem hrb
    have HAM := hide (show Amt os from fun o ho => (hom o ho).2)
    have HRM := hide (show Rdg rs from hrm)
    have HSEP := hide (sep_of hrb)
    have hno := hso.len
    have hnr := hs.len
    have hn40 : no ≤ 40 := by omega
    have hn48 : n ≤ 48 := by omega
    have HNO := hide hno
    have HNR := hide hnr
    clear hob hrb hom hrm hno hnr ho40 hr48
    clear hC
    go_enter Try.func6, Try.ntmps6
    go_wp2_with fail
    refine (c_checkReadings A1 A2 n1 c1 n2 c2 ns ps O no co os A n c rs _ (hs1.ext hx0) (hs2.ext hx0) (hso.ext hx0) (hs.ext hx0)).mono ?_
    rw [HC.out]
    rintro e w1 ⟨rfl, hx1⟩
    have hx01 := hx0.trans hx1
    go_wp2_with fail
    refine (c_allocated O no co os A n c rs _ (hso.ext hx01) (hs.ext hx01) hn40 hn48 HAM.out HRM.out HSEP.out).mono ?_
    rintro e w2 ⟨v, g, rfl, ho, HG, hx2⟩
    have hol := ho.lowG hx01.size
    go_wp2_with fail
    go_ret2
    exact ⟨v, g, 0, rfl, hol, hx01.trans hx2, hide ⟨HC.out.symm, fun h => absurd rfl h, fun _ => ⟨HG.out.1, HG.out.2.1.mono (by omega), HG.out.2.2⟩⟩⟩
  · have hb : (allC n1 ns ps os rs == 0) = false := by rw [beq_eq_false_iff_ne]; exact hC
    have HC := hide hC
    clear hC
    go_enter Try.func6, Try.ntmps6
    go_wp2_with fail
    refine (c_checkReadings A1 A2 n1 c1 n2 c2 ns ps O no co os A n c rs _ (hs1.ext hx0) (hs2.ext hx0) (hso.ext hx0) (hs.ext hx0)).mono ?_
    have HZ := hide (rfl : allC n1 ns ps os rs = allC n1 ns ps os rs)
    generalize hz : allC n1 ns ps os rs = Z at hb ⊢
    have HZ2 := hide hz
    clear hz HZ
    rintro e w1 ⟨rfl, hx1⟩
    have hx01 := hx0.trans hx1
    go_wp2_with fail
    go_ret2
    exact ⟨_, [], Z, rfl, OwnL.nil_ _ _ _ _ _, hx01, hide ⟨HZ2.out.symm, fun _ => rfl, fun h => absurd (HZ2.out.trans h) HC.out⟩⟩
set_option maxHeartbeats 1000000 in
theorem c_specAllocate (A1 A2 : Option Addr) (n1 c1 n2 c2 : Nat) (ns : List Node) (ps : List Pipe) (O : Option Addr) (no co : Nat) (os : List Order) (A : Option Addr) (n c : Nat) (rs : List Reading) (w : World) (hs1 : SliceOf w 3 Node.cells A1 n1 c1 ns) (hs2 : SliceOf w 5 Pipe.cells A2 n2 c2 ps) (hso : SliceOf w 4 Order.cells O no co os) (hs : SliceOf w 2 Reading.cells A n c rs) (hnm : ∀ x ∈ ns, x.name.size ≤ 1048576) : Calls Try.prog 7 #[.agg #[.slice A1 n1 c1, .slice A2 n2 c2], .slice O no co, .slice A n c] w (RetGZ (AlQ n1 ns ps os rs) w) := by
  have hx0 : Ext w (w.alloc (.cells #[.slice A1 n1 c1, .slice A2 n2 c2] 27)) := Ext.alloc _ _
  have HNM := hide hnm
  clear hnm
  by_cases hC : allC n1 ns ps os rs = 0
  · have HC := hide hC
    obtain ⟨_, hob, hrb⟩ := allC_ok hC
    obtain ⟨ho40, hom⟩ := orders_mem hob
    have hr48 := reads_len hrb
    have hrm := reads_mem hrb
    have HAM := hide (show Amt os from fun o ho => (hom o ho).2)
    have HRM := hide (show Rdg rs from hrm)
    have HSEP := hide (sep_of hrb)
    have hno := hso.len
    have hnr := hs.len
    have hn40 : no ≤ 40 := by omega
    have hn48 : n ≤ 48 := by omega
    have HNO := hide hno
    have HNR := hide hnr
    clear hob hrb hom hrm hno hnr ho40 hr48
    clear hC
    go_enter Try.func7, Try.ntmps7
    go_wp2_with fail
    refine (c_l28Code A1 A2 n1 c1 n2 c2 ns ps O no co os _ (hs1.ext hx0) (hs2.ext hx0) (hso.ext hx0) A n c rs (hs.ext hx0) HNM.out).mono ?_
    rw [HC.out]
    rintro e w1 ⟨rfl, hx1⟩
    have hx01 := hx0.trans hx1
    go_wp2_with fail
    refine (c_l28Allocate O no co os A n c rs _ (hso.ext hx01) (hs.ext hx01) hn40 hn48 HAM.out HRM.out).mono ?_
    rintro e w2 ⟨v1, v2, g, rfl, hD, HG⟩
    have hol := hD.o6.lowG hx01.size
    have hx2 := hD.ext
    clear hD
    go_wp2_with fail
    go_ret2
    exact ⟨v1, g, 0, rfl, hol, hx01.trans hx2, hide ⟨HC.out.symm, fun h => absurd rfl h, fun _ => HG.out⟩⟩
  · have hb : (allC n1 ns ps os rs == 0) = false := by rw [beq_eq_false_iff_ne]; exact hC
    have HC := hide hC
    clear hC
    go_enter Try.func7, Try.ntmps7
    go_wp2_with fail
    refine (c_l28Code A1 A2 n1 c1 n2 c2 ns ps O no co os _ (hs1.ext hx0) (hs2.ext hx0) (hso.ext hx0) A n c rs (hs.ext hx0) HNM.out).mono ?_
    generalize hz : allC n1 ns ps os rs = Z at hb ⊢
    have HZ2 := hide hz
    clear hz
    rintro e w1 ⟨rfl, hx1⟩
    have hx01 := hx0.trans hx1
    go_wp2_with fail
    go_ret2
    exact ⟨_, [], Z, rfl, OwnL.nil_ _ _ _ _ _, hx01, hide ⟨HZ2.out.symm, fun _ => rfl, fun h => absurd (HZ2.out.trans h) HC.out⟩⟩
set_option maxHeartbeats 1000000 in
theorem c_specUnalloc (A1 A2 : Option Addr) (n1 c1 n2 c2 : Nat) (ns : List Node) (ps : List Pipe) (O : Option Addr) (no co : Nat) (os : List Order) (A : Option Addr) (n c : Nat) (rs : List Reading) (w : World) (hs1 : SliceOf w 3 Node.cells A1 n1 c1 ns) (hs2 : SliceOf w 5 Pipe.cells A2 n2 c2 ps) (hso : SliceOf w 4 Order.cells O no co os) (hs : SliceOf w 2 Reading.cells A n c rs) (hnm : ∀ x ∈ ns, x.name.size ≤ 1048576) : Calls Try.prog 9 #[.agg #[.slice A1 n1 c1, .slice A2 n2 c2], .slice O no co, .slice A n c] w (RetGZ (UnQ n1 ns ps os rs) w) := by
  have hx0 : Ext w (w.alloc (.cells #[.slice A1 n1 c1, .slice A2 n2 c2] 27)) := Ext.alloc _ _
  have HNM := hide hnm
  clear hnm
  by_cases hC : allC n1 ns ps os rs = 0
  · have HC := hide hC
    obtain ⟨_, hob, hrb⟩ := allC_ok hC
    obtain ⟨ho40, hom⟩ := orders_mem hob
    have hr48 := reads_len hrb
    have hrm := reads_mem hrb
    have HAM := hide (show Amt os from fun o ho => (hom o ho).2)
    have HRM := hide (show Rdg rs from hrm)
    have HSEP := hide (sep_of hrb)
    have hno := hso.len
    have hnr := hs.len
    have hn40 : no ≤ 40 := by omega
    have hn48 : n ≤ 48 := by omega
    have HNO := hide hno
    have HNR := hide hnr
    clear hob hrb hom hrm hno hnr ho40 hr48
    clear hC
    go_enter Try.func9, Try.ntmps9
    go_wp2_with fail
    refine (c_l28Code A1 A2 n1 c1 n2 c2 ns ps O no co os _ (hs1.ext hx0) (hs2.ext hx0) (hso.ext hx0) A n c rs (hs.ext hx0) HNM.out).mono ?_
    rw [HC.out]
    rintro e w1 ⟨rfl, hx1⟩
    have hx01 := hx0.trans hx1
    go_wp2_with fail
    refine (c_l28Allocate O no co os A n c rs _ (hso.ext hx01) (hs.ext hx01) hn40 hn48 HAM.out HRM.out).mono ?_
    rintro e w2 ⟨v1, v2, g, rfl, hD, HG⟩
    have hol := hD.o7.lowG hx01.size
    have hx2 := hD.ext
    clear hD
    go_wp2_with fail
    go_ret2
    exact ⟨v2, _, 0, rfl, hol, hx01.trans hx2, hide ⟨HC.out.symm, fun h => absurd rfl h, fun _ => rfl⟩⟩
  · have hb : (allC n1 ns ps os rs == 0) = false := by rw [beq_eq_false_iff_ne]; exact hC
    have HC := hide hC
    clear hC
    go_enter Try.func9, Try.ntmps9
    go_wp2_with fail
    refine (c_l28Code A1 A2 n1 c1 n2 c2 ns ps O no co os _ (hs1.ext hx0) (hs2.ext hx0) (hso.ext hx0) A n c rs (hs.ext hx0) HNM.out).mono ?_
    generalize hz : allC n1 ns ps os rs = Z at hb ⊢
    have HZ2 := hide hz
    clear hz
    rintro e w1 ⟨rfl, hx1⟩
    have hx01 := hx0.trans hx1
    go_wp2_with fail
    go_ret2
    exact ⟨_, [], Z, rfl, OwnL.nil_ _ _ _ _ _, hx01, hide ⟨HZ2.out.symm, fun _ => rfl, fun h => absurd (HZ2.out.trans h) HC.out⟩⟩
end Go.Proofs.Ytegkeeeohileiaa
