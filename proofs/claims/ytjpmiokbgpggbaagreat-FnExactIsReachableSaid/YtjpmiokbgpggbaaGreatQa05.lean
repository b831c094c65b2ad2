/-
  Names, nodes, pipes: validity, of the program and of the reference. Networks: validity, of the program.
-/
import Derived.Test.YtjpmiokbgpggbaaGreatQa04
namespace Go.Proofs.YtjpmiokbgpggbaaGreat
open Go.RowKit

structure Node where
  name : ByteArray
  low : Int
  high : Int
def Node.cells (x : Node) : List Value := [.string x.name, .int .i64 x.low, .int .i64 x.high]
theorem node_len (x : Node) : x.cells.length = 3 := rfl
def chB (z : Int) : Bool := (decide (97 ≤ z) && decide (z ≤ 122)) || (decide (48 ≤ z) && decide (z ≤ 57))
def chAt (s : ByteArray) (i : Nat) : Int := if h : i < s.size then ((s[i]'h).toNat : Int) else 0
theorem chAt_eq {s : ByteArray} {i : Nat} (h : i < s.size) : ((s[i]'h).toNat : Int) = chAt s i := by rw [chAt, dif_pos h]
def nameB (s : ByteArray) : Bool := decide (1 ≤ s.size) && decide (s.size ≤ 8) && (List.range s.size).all fun i => chB (chAt s i)
def sameN (a b : ByteArray) : Bool := a.toList == b.toList
def nodeB (x : Node) : Bool := nameB x.name && decide (0 ≤ x.low) && decide (x.low ≤ x.high) && decide (x.high ≤ 100000000)
def pipeB (nn : Int) (p : Pipe) : Bool := inB p.src 0 (nn - 1) && inB p.dst 0 (nn - 1) && (p.src != p.dst) && inB p.k 1 1000 && inB p.volume 0 1000000 && inB p.limit 1 30000
theorem ch_ways (z : Int) : (97 ≤ z ∧ z ≤ 122 ∧ decide (97 ≤ z) = true ∧ decide (z ≤ 122) = true ∧ Hid (chB z = true)) ∨ (97 ≤ z ∧ 122 < z ∧ 48 ≤ z ∧ 57 < z ∧ decide (97 ≤ z) = true ∧ decide (z ≤ 122) = false ∧ decide (48 ≤ z) = true ∧ decide (z ≤ 57) = false ∧ Hid (chB z = false)) ∨
    (z < 97 ∧ 48 ≤ z ∧ z ≤ 57 ∧ decide (97 ≤ z) = false ∧ decide (48 ≤ z) = true ∧ decide (z ≤ 57) = true ∧ Hid (chB z = true)) ∨ (z < 97 ∧ 48 ≤ z ∧ 57 < z ∧ decide (97 ≤ z) = false ∧ decide (48 ≤ z) = true ∧ decide (z ≤ 57) = false ∧ Hid (chB z = false)) ∨
    (z < 97 ∧ z < 48 ∧ decide (97 ≤ z) = false ∧ decide (48 ≤ z) = false ∧ Hid (chB z = false)) := by
  simp only [Hid, chB, Bool.or_eq_true, Bool.and_eq_true, Bool.or_eq_false_iff, Bool.and_eq_false_iff, decide_eq_true_eq, decide_eq_false_iff_not]
  omega

theorem name_false {s : ByteArray} {k : Nat} (hk : k < s.size) (h : chB (chAt s k) = false) : nameB s = false := by
  simp only [nameB]; rw [all_range_false hk h]; simp
theorem name_true {s : ByteArray} (h1 : 1 ≤ s.size) (h8 : s.size ≤ 8) (h : ∀ j, j < s.size → chB (chAt s j) = true) : nameB s = true := by
  simp only [nameB]; rw [all_range_true h]; simp [h1, h8]
theorem name_end {s : ByteArray} (h1 : 1 ≤ s.size) (h : ∀ j, j < s.size → chB (chAt s j) = true) : nameB s = decide ((s.size : Int) ≤ 8) := by
  simp only [nameB]; rw [all_range_true h]; simp [h1]; omega

set_option maxHeartbeats 1000000 in
theorem c_isName (s : ByteArray) (w : World) :
    Calls Tryz.prog 166 #[.string s] w fun e w' => e = .returned (.bool (nameB s)) ∧ w = w' := by
  by_cases h1 : s.size < 1
  · have HR := hide (show nameB s = false by simp [nameB]; omega)
    go_enter Tryz.func166, Tryz.ntmps166
    go_wp2_with fail
    go_ret
    exact ⟨by rw [HR.out]; rfl, rfl⟩
  by_cases h8 : 8 < s.size
  · have HR := hide (show nameB s = false by simp [nameB]; omega)
    go_enter Tryz.func166, Tryz.ntmps166
    go_wp2_with fail
    go_ret
    exact ⟨by rw [HR.out]; rfl, rfl⟩
  go_enter Tryz.func166, Tryz.ntmps166
  go_wp2_with fail
  go_loop [3] (fun i => ∃ k : Nat, k ≤ s.size ∧ i = .int .i64 k ∧ Hid (∀ j, j < k → chB (chAt s j) = true)) (fun i => s.size - (intOf i).toNat)
  case atStart => exact ⟨0, Nat.zero_le _, rfl, hide (fun j hj => absurd hj (by omega))⟩
  case round =>
    obtain ⟨k, hk, rfl, HK⟩ := hrel
    by_cases hlt : k < s.size
    · have hch := chAt_eq hlt
      have HF := hide (fun h => name_false hlt h)
      have HNX : chB (chAt s k) = true → Hid (∀ j, j < k + 1 → chB (chAt s j) = true) := fun h => hide (all_upto (p := fun j => chB (chAt s j)) HK.out h)
      generalize chAt s k = z at hch HF HNX
      rcases ch_ways z with ⟨z1, z2, d1, d2, HC⟩ | ⟨z1, z2, z3, z4, d1, d2, d3, d4, HC⟩ | ⟨z1, z2, z3, d1, d2, d3, HC⟩ | ⟨z1, z2, z3, d1, d2, d3, HC⟩ | ⟨z1, z2, d1, d2, HC⟩
      · go_wp2_with fail
        go_round
        case rel => exact ⟨k + 1, by omega, by go_num, HNX HC⟩
        case measure => simp [intOf]; omega
      · go_wp2_with fail
        go_ret
        exact ⟨by rw [HF.out HC]; rfl, rfl⟩
      · go_wp2_with fail
        go_round
        case rel => exact ⟨k + 1, by omega, by go_num, HNX HC⟩
        case measure => simp [intOf]; omega
      · go_wp2_with fail
        go_ret
        exact ⟨by rw [HF.out HC]; rfl, rfl⟩
      · go_wp2_with fail
        go_ret
        exact ⟨by rw [HF.out HC]; rfl, rfl⟩
    · go_wp2_with fail
      go_ret
      exact ⟨by rw [name_true (by omega) (by omega) (fun j hj => HK.out j (by omega))]; rfl, rfl⟩

set_option maxHeartbeats 1000000 in
theorem c_l02Name (s : ByteArray) (w : World) (hs : s.size ≤ 1048576) :
    Calls Tryz.prog 162 #[.string s] w fun e w' => e = .returned (.bool (nameB s)) ∧ w = w' := by
  go_enter Tryz.func162, Tryz.ntmps162
  go_wp2_with fail
  go_loop [3] (fun i => ∃ k : Nat, k ≤ s.size ∧ i = .int .i64 k ∧ Hid (∀ j, j < k → chB (chAt s j) = true)) (fun i => s.size - (intOf i).toNat)
  case atStart => exact ⟨0, Nat.zero_le _, rfl, hide (fun j hj => absurd hj (by omega))⟩
  case round =>
    obtain ⟨k, hk, rfl, HK⟩ := hrel
    by_cases hlt : k < s.size
    · have hch := chAt_eq hlt
      have HF := hide (fun h => name_false hlt h)
      have HNX : chB (chAt s k) = true → Hid (∀ j, j < k + 1 → chB (chAt s j) = true) := fun h => hide (all_upto (p := fun j => chB (chAt s j)) HK.out h)
      generalize chAt s k = z at hch HF HNX
      rcases ch_ways z with ⟨z1, z2, d1, d2, HC⟩ | ⟨z1, z2, z3, z4, d1, d2, d3, d4, HC⟩ | ⟨z1, z2, z3, d1, d2, d3, HC⟩ | ⟨z1, z2, z3, d1, d2, d3, HC⟩ | ⟨z1, z2, d1, d2, HC⟩
      · go_wp2_with fail
        go_round
        case rel => exact ⟨k + 1, by omega, by go_num, HNX HC⟩
        case measure => simp [intOf]; omega
      · go_wp2_with fail
        go_ret
        exact ⟨by rw [HF.out HC]; rfl, rfl⟩
      · go_wp2_with fail
        go_round
        case rel => exact ⟨k + 1, by omega, by go_num, HNX HC⟩
        case measure => simp [intOf]; omega
      · go_wp2_with fail
        go_ret
        exact ⟨by rw [HF.out HC]; rfl, rfl⟩
      · go_wp2_with fail
        go_ret
        exact ⟨by rw [HF.out HC]; rfl, rfl⟩
    · by_cases h1 : s.size < 1
      · have HR := hide (show nameB s = false by simp [nameB]; omega)
        go_wp2_with fail
        go_ret
        exact ⟨by rw [HR.out]; rfl, rfl⟩
      go_wp2_with fail
      go_ret
      exact ⟨by rw [name_end (by omega) (fun j hj => HK.out j (by omega))]; rfl, rfl⟩

theorem node_ways (x : Node) : (nameB x.name = false ∧ Hid (nodeB x = false)) ∨ (nameB x.name = true ∧ x.low < 0 ∧ Hid (nodeB x = false)) ∨ (nameB x.name = true ∧ 0 ≤ x.low ∧ x.high < x.low ∧ Hid (nodeB x = false)) ∨
    (nameB x.name = true ∧ 0 ≤ x.low ∧ x.low ≤ x.high ∧ Hid (nodeB x = decide (x.high ≤ 100000000))) := by
  unfold nodeB Hid
  cases nameB x.name
  · simp
  · simp only [Bool.true_and]
    by_cases h1 : 0 ≤ x.low <;> by_cases h2 : x.low ≤ x.high <;> simp [h1, h2] <;> omega
set_option maxHeartbeats 1000000 in
theorem c_IsNode (x : Node) (w : World) :
    Calls Tryz.prog 157 #[.agg #[.string x.name, .int .i64 x.low, .int .i64 x.high]] w (Ret (.bool (nodeB x)) w) := by
  obtain ⟨s, lo, hi⟩ := x
  rcases node_ways ⟨s, lo, hi⟩ with ⟨h1, HR⟩ | ⟨h1, h2, HR⟩ | ⟨h1, h2, h3, HR⟩ | ⟨h1, h2, h3, HR⟩ <;>
  · simp only at h1
    go_enter Tryz.func157, Tryz.ntmps157
    go_wp2_with (go_at_call 166; refine (c_isName _ _).mono ?_; rintro e w' ⟨rfl, rfl⟩)
    go_ret
    exact Ret.bool HR (Ext.alloc _ _)
set_option maxHeartbeats 1000000 in
theorem c_specIsNode (x : Node) (w : World)(hs : x.name.size ≤ 1048576) :
    Calls Tryz.prog 151 #[.agg #[.string x.name, .int .i64 x.low, .int .i64 x.high]] w (Ret (.bool (nodeB x)) w) := by
  obtain ⟨s, lo, hi⟩ := x
  rcases node_ways ⟨s, lo, hi⟩ with ⟨h1, HR⟩ | ⟨h1, h2, HR⟩ | ⟨h1, h2, h3, HR⟩ | ⟨h1, h2, h3, HR⟩ <;>
  · simp only at h1
    go_enter Tryz.func151, Tryz.ntmps151
    go_wp2_with (go_at_call 162; refine (c_l02Name _ _ hs).mono ?_; rintro e w' ⟨rfl, rfl⟩)
    go_ret
    exact Ret.bool HR (Ext.alloc _ _)
end Go.Proofs.YtjpmiokbgpggbaaGreat

namespace Go.Proofs.YtjpmiokbgpggbaaGreat
open Go.RowKit

theorem SliceOf.take {α : Type} {w : World} {size : Nat} {f : α → List Value} {A : Option Addr} {n c : Nat} {xs : List α} (h : SliceOf w size f A n c xs) {k : Nat} (hk : k ≤ n) : SliceOf w size f A k c (xs.take k) := by
  obtain ⟨h1, h2, h3, h4⟩ := h
  refine ⟨by rw [List.length_take]; omega, by omega, h3, fun hk0 => ?_⟩
  obtain ⟨b, off, hA, hb, hc⟩ := h4 (by omega)
  refine ⟨b, off, hA, hb, fun i x hx j u hu => ?_⟩
  rw [List.getElem?_take] at hx
  split at hx
  · exact hc i x hx j u hu
  · cases hx
theorem sameN_comm (a b : ByteArray) : sameN a b = sameN b a := by
  unfold sameN
  rw [Bool.eq_iff_iff]
  simp only [beq_iff_eq]
  exact ⟨fun h => h.symm, fun h => h.symm⟩
def hasN (ns : List Node) (s : ByteArray) : Bool := ns.any fun y => sameN y.name s
def nodeOkB (ns : List Node) (i : Nat) : Bool := match ns[i]? with
  | some x => nodeB x && !hasN (ns.take i) x.name
  | none => true
def netB (ns : List Node) (ps : List Pipe) : Bool := decide (1 ≤ ns.length) && decide (ns.length ≤ 24) && decide (ps.length ≤ 40) && (List.range ns.length).all (nodeOkB ns) && ps.all (pipeB ns.length)

theorem c_isNodeOf (A1 A2 : Option Addr) (n1 c1 n2 c2 : Nat) (z : Int) (w : World) (hn : n1 ≤ 9223372036854775807) :
    Calls Tryz.prog 120 #[.agg #[.slice A1 n1 c1, .slice A2 n2 c2], .int .i64 z] w (Ret (.bool (inB z 0 ((n1 : Int) - 1))) w) := by
  go_enter Tryz.func120, Tryz.ntmps120
  go_wp2_with (go_at_call 32; refine (c_within _ _ _ _).mono ?_; rintro e w' ⟨rfl, rfl⟩)
  go_ret
  exact Ret.bool rfl (Ext.alloc _ _)
theorem c_l02Node (A1 A2 : Option Addr) (n1 c1 n2 c2 : Nat) (z : Int) (w : World) (hn : n1 ≤ 9223372036854775807) :
    Calls Tryz.prog 83 #[.agg #[.slice A1 n1 c1, .slice A2 n2 c2], .int .i64 z] w (Ret (.bool (inB z 0 ((n1 : Int) - 1))) w) := by
  go_enter Tryz.func83, Tryz.ntmps83
  go_wp2_with (go_at_call 37; refine (c_l01In _ _ _ _).mono ?_; rintro e w' ⟨rfl, rfl⟩)
  go_ret
  exact Ret.bool rfl (Ext.alloc _ _)

set_option maxHeartbeats 2000000 in
theorem c_l02Pipe (p : Pipe) (nn : Nat) (w : World) (hn : nn ≤ 1048576) :
    Calls Tryz.prog 152 #[.agg #[.int .i64 p.src, .int .i64 p.dst, .int .i64 p.k, .int .i64 p.volume, .int .i64 p.limit], .int .i64 nn] w (Ret (.bool (pipeB nn p)) w) := by
  obtain ⟨a, b, c, d, e⟩ := p
  go_enter Tryz.func152, Tryz.ntmps152
  go_wp2_with (go_at_call 37; refine (c_l01In _ _ _ _).mono ?_; rintro e w' ⟨rfl, rfl⟩)
  all_goals
    go_ret
    refine Ret.bool ?_ (Ext.alloc _ _)
    simp_all [pipeB]

theorem c_nodeSame (x : Node) (b : Nat) (s : ByteArray) (w : World) (hb : b < w.heap.size) (hc : w.cell? ⟨b, 0, none⟩ = some (.string s)) :
    Calls Tryz.prog 168 #[.agg #[.string x.name, .int .i64 x.low, .int .i64 x.high], .pointer (some ⟨b, 0, none⟩)] w (Ret (.bool (sameN x.name s)) w) := by
  go_enter Tryz.func168, Tryz.ntmps168
  go_wp2_with fail
  go_ret
  exact Ret.bool rfl (Ext.alloc _ _)

/-- an index that is not negative where one is found -/
def FoundN (b : Bool) (w : World) (e : Ending) (w' : World) : Prop := ∃ r : Int, e = .returned (.int .i64 r) ∧ decide (0 ≤ r) = b ∧ Ext w w'
set_option maxHeartbeats 1000000 in
theorem c_IndexNode (A : Option Addr) (n c : Nat) (ns : List Node) (b : Nat) (s : ByteArray) (w : World) (hs : SliceOf w 3 Node.cells A n c ns) (hb : b < w.heap.size) (hcb : w.cell? ⟨b, 0, none⟩ = some (.string s)) :
    Calls Tryz.prog 167 #[.slice A n c, .func (.func 168) #[] #[.pointer (some ⟨b, 0, none⟩)]] w (FoundN (hasN ns s) w) := by
  have hm := hs.max
  have hcap := hs.cap
  go_enter Tryz.func167, Tryz.ntmps167
  go_wp2_with fail
  go_loopw [4, 8] (fun r i wr => ∃ k : Nat, k ≤ n ∧ r = .int .i64 0 ∧ i = .int .i64 k ∧ Hid (∀ (j : Nat) (p : Node), j < k → ns[j]? = some p → sameN p.name s = false) ∧ Ext w wr) (fun _ i _ => n - (intOf i).toNat)
  case atStart => exact ⟨0, Nat.zero_le _, rfl, rfl, hide (fun j p hj => absurd hj (by omega)), Ext.refl _⟩
  case round =>
    obtain ⟨k, hk, rfl, rfl, HK, hx⟩ := hrel
    by_cases hlt : k < n
    · obtain ⟨bb, off, p, rfl, hbb, hxk, hc⟩ := (hs.ext hx).get hlt
      have hc0 := hc 0 _ rfl
      have hc1 := hc 1 _ rfl
      have hc2 := hc 2 _ rfl
      clear hc
      simp only [Nat.add_zero] at hc0
      have HX := hide hxk
      clear hxk
      have hcb' := (hx.cell b 0 hb).trans hcb
      have hb' := Nat.lt_of_lt_of_le hb hx.size
      cases hp : sameN p.name s
      · go_wp2_with (go_at_call 168; refine (c_nodeSame p b s _ hb' hcb').mono ?_; rw [hp]; rintro e w1 ⟨rfl, hx1⟩)
        go_roundw
        case rel =>
          refine ⟨k + 1, by omega, rfl, by go_num, hide fun j q hj hq => ?_, hx.trans hx1⟩
          by_cases e : j = k
          · subst e; rw [HX.out] at hq; injection hq with hq; subst hq; exact hp
          · exact HK.out j q (by omega) hq
        case measure => simp [intOf]; omega
      · go_wp2_with (go_at_call 168; refine (c_nodeSame p b s _ hb' hcb').mono ?_; rw [hp]; rintro e w1 ⟨rfl, hx1⟩)
        go_ret
        refine ⟨k, rfl, ?_, hx.trans hx1⟩
        have : hasN ns s = true := by rw [hasN, List.any_eq_true]; exact ⟨p, List.mem_of_getElem? HX.out, hp⟩
        rw [this]; simp
    · go_wp2_with fail
      go_ret
      refine ⟨-1, rfl, ?_, hx⟩
      have : hasN ns s = false := by
        rw [hasN, List.any_eq_false]; intro q hq
        obtain ⟨j, hj, rfl⟩ := List.mem_iff_getElem.1 hq
        simp [HK.out j _ (by have := hs.len; omega) (List.getElem?_eq_getElem hj)]
      rw [this]; simp

theorem c_nodeIndex (A1 A2 : Option Addr) (n1 c1 n2 c2 : Nat) (ns : List Node) (s : ByteArray) (w : World) (hs : SliceOf w 3 Node.cells A1 n1 c1 ns) :
    Calls Tryz.prog 158 #[.agg #[.slice A1 n1 c1, .slice A2 n2 c2], .string s] w (FoundN (hasN ns s) w) := by
  go_enter Tryz.func158, Tryz.ntmps158
  go_wp2_with fail
  refine (c_IndexNode A1 n1 c1 ns _ s _ (hs.ext ((Ext.alloc _ _).and_alloc _)) (by simp) (by simp [go_sem])).mono ?_
  rintro e w1 ⟨r, rfl, hr, hx1⟩
  go_wp2_with fail
  go_ret
  exact ⟨r, rfl, hr, ((Ext.alloc _ _).and_alloc _).trans hx1⟩
end Go.Proofs.YtjpmiokbgpggbaaGreat
