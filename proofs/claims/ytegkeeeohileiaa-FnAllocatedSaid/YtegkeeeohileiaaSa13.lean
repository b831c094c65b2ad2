/-
  Contracts of the functions on slices of int64. The helpers of the laws on Pipe: copying, comparing, measuring, marking. Names, nodes, pipes: validity, of the program and of the reference.
-/
import Derived.Test.YtegkeeeohileiaaSa00
import Derived.Test.YtegkeeeohileiaaSa01
import Derived.Test.YtegkeeeohileiaaSa03
import Derived.Test.YtegkeeeohileiaaSa02
namespace Go.Proofs.Ytegkeeeohileiaa
open Go.RowKit

def intC (z : Int) : List Value := [.int .i64 z]
theorem intC_len (z : Int) : (intC z).length = 1 := rfl
theorem int_info : (Try.prog.info? 2).map (fun i => (i.zero, i.size, i.bytes)) = some (some (.int .i64 0), 1, 8) := by kernel_rfl
section
variable {w : World} {A : Option Addr} {n c : Nat} {xs : List Int}
theorem SliceOf.get1 (h : SliceOf w 1 intC A n c xs) {k : Nat} (hk : k < n) :
    ∃ b off x, A = some ⟨b, off, none⟩ ∧ b < w.heap.size ∧ xs[k]? = some x ∧ w.cell? ⟨b, off + k, none⟩ = some (.int .i64 x) := by
  obtain ⟨b, off, x, hA, hb, hx, hc⟩ := h.get hk
  exact ⟨b, off, x, hA, hb, hx, by simpa using hc 0 _ rfl⟩
end
theorem RowOf.set1 {w : World} {g : Nat} {t : TypeId} {L : List Int} (h : RowOf w g t intC L) {d : Nat} (hd : d < L.length) (v : Int) : RowOf (w.setCell ⟨g, d, none⟩ (.int .i64 v)) g t intC (L.set d v) := by
  have := h.put intC_len (i := d) hd v
  rw [Nat.mul_one] at this
  exact this
/-- a new slice of the call's own -/
def NewRow {α : Type} (t : TypeId) (f : α → List Value) (xs : List α) (w : World) (e : Ending) (w' : World) : Prop :=
  ∃ g, e = .returned (.slice (some ⟨g, 0, none⟩) xs.length xs.length) ∧ w.heap.size ≤ g ∧ RowOf w' g t f xs ∧ Ext w w'

def allB (zs : List Int) (lo hi : Int) : Bool := zs.all fun z => inB z lo hi



end Go.Proofs.Ytegkeeeohileiaa

namespace Go.Proofs.Ytegkeeeohileiaa
open Go.RowKit

structure Pipe where
  src : Int
  dst : Int
  k : Int
  volume : Int
  limit : Int
def Pipe.cells (x : Pipe) : List Value := [.int .i64 x.src, .int .i64 x.dst, .int .i64 x.k, .int .i64 x.volume, .int .i64 x.limit]
theorem pipe_len (x : Pipe) : x.cells.length = 5 := rfl
theorem pipe_info : (Try.prog.info? 78).map (fun i => (i.zero, i.size, i.bytes)) = some (some (.agg #[.int .i64 0, .int .i64 0, .int .i64 0, .int .i64 0, .int .i64 0]), 5, 40) := by kernel_rfl










end Go.Proofs.Ytegkeeeohileiaa

namespace Go.Proofs.Ytegkeeeohileiaa
open Go.RowKit

structure Node where
  name : ByteArray
  low : Int
  high : Int
def Node.cells (x : Node) : List Value := [.string x.name, .int .i64 x.low, .int .i64 x.high]
theorem node_len (x : Node) : x.cells.length = 3 := rfl
def chB (z : Int) : Bool := (decide (97 ≤ z) && decide (z ≤ 122)) || (decide (48 ≤ z) && decide (z ≤ 57))
def chAt (s : ByteArray) (i : Nat) : Int := if h : i < s.size then ((s[i]'h).toNat : Int) else 0
theorem chAt_eq {s : ByteArray} {i : Nat} (h : i < s.size) : ((s[i]'h).toNat : Int) = chAt s i := by rw [chAt, dif_pos h]
def nameB (s : ByteArray) : Bool := decide (1 ≤ s.size) && decide (s.size ≤ 8) && (List.range s.size).all fun i => chB (chAt s i)
def sameN (a b : ByteArray) : Bool := a.toList == b.toList
def nodeB (x : Node) : Bool := nameB x.name && decide (0 ≤ x.low) && decide (x.low ≤ x.high) && decide (x.high ≤ 100000000)
def pipeB (nn : Int) (p : Pipe) : Bool := inB p.src 0 (nn - 1) && inB p.dst 0 (nn - 1) && (p.src != p.dst) && inB p.k 1 1000 && inB p.volume 0 1000000 && inB p.limit 1 30000
theorem ch_ways (z : Int) : (97 ≤ z ∧ z ≤ 122 ∧ decide (97 ≤ z) = true ∧ decide (z ≤ 122) = true ∧ Hid (chB z = true)) ∨ (97 ≤ z ∧ 122 < z ∧ 48 ≤ z ∧ 57 < z ∧ decide (97 ≤ z) = true ∧ decide (z ≤ 122) = false ∧ decide (48 ≤ z) = true ∧ decide (z ≤ 57) = false ∧ Hid (chB z = false)) ∨
    (z < 97 ∧ 48 ≤ z ∧ z ≤ 57 ∧ decide (97 ≤ z) = false ∧ decide (48 ≤ z) = true ∧ decide (z ≤ 57) = true ∧ Hid (chB z = true)) ∨ (z < 97 ∧ 48 ≤ z ∧ 57 < z ∧ decide (97 ≤ z) = false ∧ decide (48 ≤ z) = true ∧ decide (z ≤ 57) = false ∧ Hid (chB z = false)) ∨
    (z < 97 ∧ z < 48 ∧ decide (97 ≤ z) = false ∧ decide (48 ≤ z) = false ∧ Hid (chB z = false)) := by
  simp only [Hid, chB, Bool.or_eq_true, Bool.and_eq_true, Bool.or_eq_false_iff, Bool.and_eq_false_iff, decide_eq_true_eq, decide_eq_false_iff_not]
  omega

theorem name_false {s : ByteArray} {k : Nat} (hk : k < s.size) (h : chB (chAt s k) = false) : nameB s = false := by
  simp only [nameB]; rw [all_range_false hk h]; simp
theorem name_true {s : ByteArray} (h1 : 1 ≤ s.size) (h8 : s.size ≤ 8) (h : ∀ j, j < s.size → chB (chAt s j) = true) : nameB s = true := by
  simp only [nameB]; rw [all_range_true h]; simp [h1, h8]
theorem name_end {s : ByteArray} (h1 : 1 ≤ s.size) (h : ∀ j, j < s.size → chB (chAt s j) = true) : nameB s = decide ((s.size : Int) ≤ 8) := by
  simp only [nameB]; rw [all_range_true h]; simp [h1]; omega

set_option maxHeartbeats 1000000 in
theorem c_isName (s : ByteArray) (w : World) :
    Calls Try.prog 67 #[.string s] w fun e w' => e = .returned (.bool (nameB s)) ∧ w = w' := by
  by_cases h1 : s.size < 1
  · have HR := hide (show nameB s = false by simp [nameB]; omega)
    go_enter Try.func67, Try.ntmps67
    go_wp2_with fail
    go_ret
    exact ⟨by rw [HR.out]; rfl, rfl⟩
  by_cases h8 : 8 < s.size
  · have HR := hide (show nameB s = false by simp [nameB]; omega)
    go_enter Try.func67, Try.ntmps67
    go_wp2_with fail
    go_ret
    exact ⟨by rw [HR.out]; rfl, rfl⟩
  go_enter Try.func67, Try.ntmps67
  go_wp2_with fail
  go_loop [3] (fun i => ∃ k : Nat, k ≤ s.size ∧ i = .int .i64 k ∧ Hid (∀ j, j < k → chB (chAt s j) = true)) (fun i => s.size - (intOf i).toNat)
  case atStart => exact ⟨0, Nat.zero_le _, rfl, hide (fun j hj => absurd hj (by omega))⟩
  case round =>
    obtain ⟨k, hk, rfl, HK⟩ := hrel
    by_cases hlt : k < s.size
    · have hch := chAt_eq hlt
      have HF := hide (fun h => name_false hlt h)
      have HNX : chB (chAt s k) = true → Hid (∀ j, j < k + 1 → chB (chAt s j) = true) := fun h => hide (all_upto (p := fun j => chB (chAt s j)) HK.out h)
      generalize chAt s k = z at hch HF HNX
      rcases ch_ways z with ⟨z1, z2, d1, d2, HC⟩ | ⟨z1, z2, z3, z4, d1, d2, d3, d4, HC⟩ | ⟨z1, z2, z3, d1, d2, d3, HC⟩ | ⟨z1, z2, z3, d1, d2, d3, HC⟩ | ⟨z1, z2, d1, d2, HC⟩
      · go_wp2_with fail
        go_round
        case rel => exact ⟨k + 1, by omega, by go_num, HNX HC⟩
        case measure => simp [intOf]; omega
      · go_wp2_with fail
        go_ret
        exact ⟨by rw [HF.out HC]; rfl, rfl⟩
      · go_wp2_with fail
        go_round
        case rel => exact ⟨k + 1, by omega, by go_num, HNX HC⟩
        case measure => simp [intOf]; omega
      · go_wp2_with fail
        go_ret
        exact ⟨by rw [HF.out HC]; rfl, rfl⟩
      · go_wp2_with fail
        go_ret
        exact ⟨by rw [HF.out HC]; rfl, rfl⟩
    · go_wp2_with fail
      go_ret
      exact ⟨by rw [name_true (by omega) (by omega) (fun j hj => HK.out j (by omega))]; rfl, rfl⟩

set_option maxHeartbeats 1000000 in
theorem c_l02Name (s : ByteArray) (w : World) (hs : s.size ≤ 1048576) :
    Calls Try.prog 55 #[.string s] w fun e w' => e = .returned (.bool (nameB s)) ∧ w = w' := by
  go_enter Try.func55, Try.ntmps55
  go_wp2_with fail
  go_loop [3] (fun i => ∃ k : Nat, k ≤ s.size ∧ i = .int .i64 k ∧ Hid (∀ j, j < k → chB (chAt s j) = true)) (fun i => s.size - (intOf i).toNat)
  case atStart => exact ⟨0, Nat.zero_le _, rfl, hide (fun j hj => absurd hj (by omega))⟩
  case round =>
    obtain ⟨k, hk, rfl, HK⟩ := hrel
    by_cases hlt : k < s.size
    · have hch := chAt_eq hlt
      have HF := hide (fun h => name_false hlt h)
      have HNX : chB (chAt s k) = true → Hid (∀ j, j < k + 1 → chB (chAt s j) = true) := fun h => hide (all_upto (p := fun j => chB (chAt s j)) HK.out h)
      generalize chAt s k = z at hch HF HNX
      rcases ch_ways z with ⟨z1, z2, d1, d2, HC⟩ | ⟨z1, z2, z3, z4, d1, d2, d3, d4, HC⟩ | ⟨z1, z2, z3, d1, d2, d3, HC⟩ | ⟨z1, z2, z3, d1, d2, d3, HC⟩ | ⟨z1, z2, d1, d2, HC⟩
      · go_wp2_with fail
        go_round
        case rel => exact ⟨k + 1, by omega, by go_num, HNX HC⟩
        case measure => simp [intOf]; omega
      · go_wp2_with fail
        go_ret
        exact ⟨by rw [HF.out HC]; rfl, rfl⟩
      · go_wp2_with fail
        go_round
        case rel => exact ⟨k + 1, by omega, by go_num, HNX HC⟩
        case measure => simp [intOf]; omega
      · go_wp2_with fail
        go_ret
        exact ⟨by rw [HF.out HC]; rfl, rfl⟩
      · go_wp2_with fail
        go_ret
        exact ⟨by rw [HF.out HC]; rfl, rfl⟩
    · by_cases h1 : s.size < 1
      · have HR := hide (show nameB s = false by simp [nameB]; omega)
        go_wp2_with fail
        go_ret
        exact ⟨by rw [HR.out]; rfl, rfl⟩
      go_wp2_with fail
      go_ret
      exact ⟨by rw [name_end (by omega) (fun j hj => HK.out j (by omega))]; rfl, rfl⟩

theorem node_ways (x : Node) : (nameB x.name = false ∧ Hid (nodeB x = false)) ∨ (nameB x.name = true ∧ x.low < 0 ∧ Hid (nodeB x = false)) ∨ (nameB x.name = true ∧ 0 ≤ x.low ∧ x.high < x.low ∧ Hid (nodeB x = false)) ∨
    (nameB x.name = true ∧ 0 ≤ x.low ∧ x.low ≤ x.high ∧ Hid (nodeB x = decide (x.high ≤ 100000000))) := by
  unfold nodeB Hid
  cases nameB x.name
  · simp
  · simp only [Bool.true_and]
    by_cases h1 : 0 ≤ x.low <;> by_cases h2 : x.low ≤ x.high <;> simp [h1, h2] <;> omega
set_option maxHeartbeats 1000000 in
theorem c_IsNode (x : Node) (w : World) :
    Calls Try.prog 61 #[.agg #[.string x.name, .int .i64 x.low, .int .i64 x.high]] w (Ret (.bool (nodeB x)) w) := by
  obtain ⟨s, lo, hi⟩ := x
  rcases node_ways ⟨s, lo, hi⟩ with ⟨h1, HR⟩ | ⟨h1, h2, HR⟩ | ⟨h1, h2, h3, HR⟩ | ⟨h1, h2, h3, HR⟩ <;>
  · simp only at h1
    go_enter Try.func61, Try.ntmps61
    go_wp2_with (go_at_call 67; refine (c_isName _ _).mono ?_; rintro e w' ⟨rfl, rfl⟩)
    go_ret
    exact Ret.bool HR (Ext.alloc _ _)
set_option maxHeartbeats 1000000 in
theorem c_specIsNode (x : Node) (w : World)(hs : x.name.size ≤ 1048576) :
    Calls Try.prog 43 #[.agg #[.string x.name, .int .i64 x.low, .int .i64 x.high]] w (Ret (.bool (nodeB x)) w) := by
  obtain ⟨s, lo, hi⟩ := x
  rcases node_ways ⟨s, lo, hi⟩ with ⟨h1, HR⟩ | ⟨h1, h2, HR⟩ | ⟨h1, h2, h3, HR⟩ | ⟨h1, h2, h3, HR⟩ <;>
  · simp only at h1
    go_enter Try.func43, Try.ntmps43
    go_wp2_with (go_at_call 55; refine (c_l02Name _ _ hs).mono ?_; rintro e w' ⟨rfl, rfl⟩)
    go_ret
    exact Ret.bool HR (Ext.alloc _ _)
end Go.Proofs.Ytegkeeeohileiaa
