/-
  The reference's draws of a node and of a pipe. Networks: validity, of the program.
-/
import Derived.Test.YtjpmiokbgpggbaaGreatRb03
import Derived.Test.YtjpmiokbgpggbaaGreatRb06
import Derived.Test.YtjpmiokbgpggbaaGreatRb07
namespace Go.Proofs.YtjpmiokbgpggbaaGreat
open Go.RowKit
open Go.Lib (decDigits)
section
variable {w0 w : World} {a n c : Nat} {A : Option Addr}
/-- some node, its name short -/
def DrawnNode (w0 : World) (a : Nat) (A : Option Addr) (n c : Nat) (w : World) (e : Ending) (w' : World) : Prop :=
  ∃ x : Node, e = .returned (.agg #[.string x.name, .int .i64 x.low, .int .i64 x.high]) ∧ x.name.size ≤ 100 ∧ Src w0 w' a A n c ∧ Only a w w'
set_option maxHeartbeats 1000000 in
theorem c_l02DrawNode (i : Nat) (hi : i ≤ 50) (h : Src w0 w a A n c) :
    Calls Tryz.prog 163 #[.pointer (some ⟨a, 0, none⟩), .int .i64 i] w (DrawnNode w0 a A n c w) := by
  have hal := h.lt
  have hle := h.le0
  have hR := Row.new w 115 [.string ⟨#[]⟩, .int .i64 0, .int .i64 0]
  go_enter Tryz.func163, Tryz.ntmps163
  go_wp2_with fail
  refine (c_next 4000 (h.more (Ext.alloc _ _)) (by omega) (by omega)).mono ?_
  rintro e w1 ⟨x1, rfl, hx1, hx1', hs1, ho1⟩
  have hR1 := hR.only ho1 (by omega)
  have hO1 := (Only.of_ext (Ext.alloc w (.cells #[.string ⟨#[]⟩, .int .i64 0, .int .i64 0] 115)) a).trans ho1
  clear hR
  go_wp2_with fail
  refine (c_l01Dec i (by omega) _).mono ?_
  rintro e w2 ⟨rfl, hx2⟩
  have hl := decDigits_len (i + 1) i (Nat.lt_succ_self _)
  have hsz : ¬ 9223372036854775807 < (ByteArray.mk #[110]).size + (mkB (decDigits i)).size := by rw [mkB_size]; show ¬ _ < 1 + _; omega
  have hsz2 : ((ByteArray.mk #[110]) ++ mkB (decDigits i)).size ≤ 100 := by rw [ByteArray.size_append, mkB_size]; show 1 + _ ≤ 100; omega
  have hs2 := hs1.more hx2
  have hR2 := hR1.ext hx2
  have hO2 := hO1.trans (Only.of_ext hx2 a)
  clear hs1 hR1 hO1
  go_wp2_with fail
  refine (c_next 60000 hs2 (by omega) (by omega)).mono ?_
  rintro e w3 ⟨x3, rfl, hx3, hx3', hs3, ho3⟩
  have hR3 := hR2.only ho3 (by omega)
  have hO3 := hO2.trans ho3
  clear hs2 hR2 hO2
  have q0 := hR3.cell 0
  have q1 := hR3.cell 1
  have q2 := hR3.cell 2
  simp at q0 q1 q2
  have f0 := hR3.frozen 0
  have f1 := hR3.frozen 1
  have f2 := hR3.frozen 2
  have hl3 := hR3.lt
  have hf : DrawnNode w0 a A n c w (.returned (.agg #[.string ((ByteArray.mk #[110]) ++ mkB (decDigits i)), .int .i64 x1, .int .i64 (x1 + 2000 + x3)])) (putCells w3 w.heap.size 0 [.string ((ByteArray.mk #[110]) ++ mkB (decDigits i)), .int .i64 x1, .int .i64 (x1 + 2000 + x3)]) :=
    ⟨⟨_, _, _⟩, rfl, hsz2, hs3.put (by have := h.ext.size; omega) (by omega) _ _, hO3.putNew (Nat.le_refl _) _ _⟩
  have HF := hide hf
  clear hf hs3 hO3 hR3
  go_wp2_with fail
  refine bodyPost_ret (v := .agg #[.string ((ByteArray.mk #[110]) ++ mkB (decDigits i)), .int .i64 x1, .int .i64 (x1 + 2000 + x3)]) (by simp [results, Tryz.results163, go_sem, q0, q1, q2]) rfl ?_
  exact HF.out
/-- some pipe -/
def DrawnPipe (w0 : World) (a : Nat) (A : Option Addr) (n c : Nat) (w : World) (e : Ending) (w' : World) : Prop :=
  ∃ x : Pipe, e = .returned (.agg #[.int .i64 x.src, .int .i64 x.dst, .int .i64 x.k, .int .i64 x.volume, .int .i64 x.limit]) ∧ Src w0 w' a A n c ∧ Only a w w'
set_option maxHeartbeats 1000000 in
theorem c_l02DrawPipe (y z : Int) (h : Src w0 w a A n c) :
    Calls Tryz.prog 154 #[.pointer (some ⟨a, 0, none⟩), .int .i64 y, .int .i64 z] w (DrawnPipe w0 a A n c w) := by
  have hal := h.lt
  have hle := h.le0
  have hR := Row.new w 117 [.int .i64 0, .int .i64 0, .int .i64 0, .int .i64 0, .int .i64 0]
  go_enter Tryz.func154, Tryz.ntmps154
  go_wp2_with fail
  refine (c_next 2 (h.more (Ext.alloc _ _)) (by omega) (by omega)).mono ?_
  rintro e w1 ⟨x1, rfl, hx1, hx1', hs1, ho1⟩
  have hR1 := hR.only ho1 (by omega)
  have hO1 := (Only.of_ext (Ext.alloc w (.cells ([.int .i64 0, .int .i64 0, .int .i64 0, .int .i64 0, .int .i64 0]).toArray 117)) a).trans ho1
  clear hR
  by_cases h0 : x1 = 0
  · subst h0
    go_wp2_with fail
    refine (c_next 9 hs1 (by omega) (by omega)).mono ?_
    rintro e w3 ⟨x3, rfl, hx3, hx3', hs3, ho3⟩
    go_wp2_with fail
    refine (c_next 100 hs3 (by omega) (by omega)).mono ?_
    rintro e w4 ⟨x4, rfl, hx4, hx4', hs4, ho4⟩
    go_wp2_with fail
    refine (c_next 200 hs4 (by omega) (by omega)).mono ?_
    rintro e w5 ⟨x5, rfl, hx5, hx5', hs5, ho5⟩
    have hR5 := ((hR1.only ho3 (by omega)).only ho4 (by omega)).only ho5 (by omega)
    have hO5 := ((hO1.trans ho3).trans ho4).trans ho5
    have q0 := hR5.cell 0
    have q1 := hR5.cell 1
    have q2 := hR5.cell 2
    have q3 := hR5.cell 3
    have q4 := hR5.cell 4
    simp at q0 q1 q2 q3 q4
    have f0 := hR5.frozen 0
    have f1 := hR5.frozen 1
    have f2 := hR5.frozen 2
    have f3 := hR5.frozen 3
    have f4 := hR5.frozen 4
    have hl5 := hR5.lt
    have hf : DrawnPipe w0 a A n c w (.returned (.agg #[.int .i64 z, .int .i64 y, .int .i64 (1 + x3), .int .i64 x4, .int .i64 (1 + x5)])) (putCells w5 w.heap.size 0 [.int .i64 z, .int .i64 y, .int .i64 (1 + x3), .int .i64 x4, .int .i64 (1 + x5)]) := ⟨⟨_, _, _, _, _⟩, rfl, hs5.put (by have := h.ext.size; omega) (by omega) _ _, hO5.putNew (Nat.le_refl _) _ _⟩
    have HF := hide hf
    clear hf hs5 hO5 hR5 hs1 hs3 hs4 hR1 hO1
    go_wp2_with fail
    refine bodyPost_ret (v := .agg #[.int .i64 z, .int .i64 y, .int .i64 (1 + x3), .int .i64 x4, .int .i64 (1 + x5)]) (by simp [results, Tryz.results154, go_sem, q0, q1, q2, q3, q4]) rfl ?_
    exact HF.out
  · have b0 : (x1 == 0) = false := by rw [beq_eq_false_iff_ne]; exact h0
    go_wp2_with fail
    refine (c_next 9 hs1 (by omega) (by omega)).mono ?_
    rintro e w3 ⟨x3, rfl, hx3, hx3', hs3, ho3⟩
    go_wp2_with fail
    refine (c_next 100 hs3 (by omega) (by omega)).mono ?_
    rintro e w4 ⟨x4, rfl, hx4, hx4', hs4, ho4⟩
    go_wp2_with fail
    refine (c_next 200 hs4 (by omega) (by omega)).mono ?_
    rintro e w5 ⟨x5, rfl, hx5, hx5', hs5, ho5⟩
    have hR5 := ((hR1.only ho3 (by omega)).only ho4 (by omega)).only ho5 (by omega)
    have hO5 := ((hO1.trans ho3).trans ho4).trans ho5
    have q0 := hR5.cell 0
    have q1 := hR5.cell 1
    have q2 := hR5.cell 2
    have q3 := hR5.cell 3
    have q4 := hR5.cell 4
    simp at q0 q1 q2 q3 q4
    have f0 := hR5.frozen 0
    have f1 := hR5.frozen 1
    have f2 := hR5.frozen 2
    have f3 := hR5.frozen 3
    have f4 := hR5.frozen 4
    have hl5 := hR5.lt
    have hf : DrawnPipe w0 a A n c w (.returned (.agg #[.int .i64 y, .int .i64 z, .int .i64 (1 + x3), .int .i64 x4, .int .i64 (1 + x5)])) (putCells w5 w.heap.size 0 [.int .i64 y, .int .i64 z, .int .i64 (1 + x3), .int .i64 x4, .int .i64 (1 + x5)]) := ⟨⟨_, _, _, _, _⟩, rfl, hs5.put (by have := h.ext.size; omega) (by omega) _ _, hO5.putNew (Nat.le_refl _) _ _⟩
    have HF := hide hf
    clear hf hs5 hO5 hR5 hs1 hs3 hs4 hR1 hO1
    go_wp2_with fail
    refine bodyPost_ret (v := .agg #[.int .i64 y, .int .i64 z, .int .i64 (1 + x3), .int .i64 x4, .int .i64 (1 + x5)]) (by simp [results, Tryz.results154, go_sem, q0, q1, q2, q3, q4]) rfl ?_
    exact HF.out
end
end Go.Proofs.YtjpmiokbgpggbaaGreat

namespace Go.Proofs.YtjpmiokbgpggbaaGreat
open Go.RowKit

theorem SliceOf.take {α : Type} {w : World} {size : Nat} {f : α → List Value} {A : Option Addr} {n c : Nat} {xs : List α} (h : SliceOf w size f A n c xs) {k : Nat} (hk : k ≤ n) : SliceOf w size f A k c (xs.take k) := by
  obtain ⟨h1, h2, h3, h4⟩ := h
  refine ⟨by rw [List.length_take]; omega, by omega, h3, fun hk0 => ?_⟩
  obtain ⟨b, off, hA, hb, hc⟩ := h4 (by omega)
  refine ⟨b, off, hA, hb, fun i x hx j u hu => ?_⟩
  rw [List.getElem?_take] at hx
  split at hx
  · exact hc i x hx j u hu
  · cases hx
theorem sameN_comm (a b : ByteArray) : sameN a b = sameN b a := by
  unfold sameN
  rw [Bool.eq_iff_iff]
  simp only [beq_iff_eq]
  exact ⟨fun h => h.symm, fun h => h.symm⟩
def hasN (ns : List Node) (s : ByteArray) : Bool := ns.any fun y => sameN y.name s
def nodeOkB (ns : List Node) (i : Nat) : Bool := match ns[i]? with
  | some x => nodeB x && !hasN (ns.take i) x.name
  | none => true
def netB (ns : List Node) (ps : List Pipe) : Bool := decide (1 ≤ ns.length) && decide (ns.length ≤ 24) && decide (ps.length ≤ 40) && (List.range ns.length).all (nodeOkB ns) && ps.all (pipeB ns.length)

theorem c_isNodeOf (A1 A2 : Option Addr) (n1 c1 n2 c2 : Nat) (z : Int) (w : World) (hn : n1 ≤ 9223372036854775807) :
    Calls Tryz.prog 120 #[.agg #[.slice A1 n1 c1, .slice A2 n2 c2], .int .i64 z] w (Ret (.bool (inB z 0 ((n1 : Int) - 1))) w) := by
  go_enter Tryz.func120, Tryz.ntmps120
  go_wp2_with (go_at_call 32; refine (c_within _ _ _ _).mono ?_; rintro e w' ⟨rfl, rfl⟩)
  go_ret
  exact Ret.bool rfl (Ext.alloc _ _)
theorem c_l02Node (A1 A2 : Option Addr) (n1 c1 n2 c2 : Nat) (z : Int) (w : World) (hn : n1 ≤ 9223372036854775807) :
    Calls Tryz.prog 83 #[.agg #[.slice A1 n1 c1, .slice A2 n2 c2], .int .i64 z] w (Ret (.bool (inB z 0 ((n1 : Int) - 1))) w) := by
  go_enter Tryz.func83, Tryz.ntmps83
  go_wp2_with (go_at_call 37; refine (c_l01In _ _ _ _).mono ?_; rintro e w' ⟨rfl, rfl⟩)
  go_ret
  exact Ret.bool rfl (Ext.alloc _ _)

set_option maxHeartbeats 2000000 in
theorem c_l02Pipe (p : Pipe) (nn : Nat) (w : World) (hn : nn ≤ 1048576) :
    Calls Tryz.prog 152 #[.agg #[.int .i64 p.src, .int .i64 p.dst, .int .i64 p.k, .int .i64 p.volume, .int .i64 p.limit], .int .i64 nn] w (Ret (.bool (pipeB nn p)) w) := by
  obtain ⟨a, b, c, d, e⟩ := p
  go_enter Tryz.func152, Tryz.ntmps152
  go_wp2_with (go_at_call 37; refine (c_l01In _ _ _ _).mono ?_; rintro e w' ⟨rfl, rfl⟩)
  all_goals
    go_ret
    refine Ret.bool ?_ (Ext.alloc _ _)
    simp_all [pipeB]

theorem c_nodeSame (x : Node) (b : Nat) (s : ByteArray) (w : World) (hb : b < w.heap.size) (hc : w.cell? ⟨b, 0, none⟩ = some (.string s)) :
    Calls Tryz.prog 168 #[.agg #[.string x.name, .int .i64 x.low, .int .i64 x.high], .pointer (some ⟨b, 0, none⟩)] w (Ret (.bool (sameN x.name s)) w) := by
  go_enter Tryz.func168, Tryz.ntmps168
  go_wp2_with fail
  go_ret
  exact Ret.bool rfl (Ext.alloc _ _)

/-- an index that is not negative where one is found -/
def FoundN (b : Bool) (w : World) (e : Ending) (w' : World) : Prop := ∃ r : Int, e = .returned (.int .i64 r) ∧ decide (0 ≤ r) = b ∧ Ext w w'
set_option maxHeartbeats 1000000 in
theorem c_IndexNode (A : Option Addr) (n c : Nat) (ns : List Node) (b : Nat) (s : ByteArray) (w : World) (hs : SliceOf w 3 Node.cells A n c ns) (hb : b < w.heap.size) (hcb : w.cell? ⟨b, 0, none⟩ = some (.string s)) :
    Calls Tryz.prog 167 #[.slice A n c, .func (.func 168) #[] #[.pointer (some ⟨b, 0, none⟩)]] w (FoundN (hasN ns s) w) := by
  have hm := hs.max
  have hcap := hs.cap
  go_enter Tryz.func167, Tryz.ntmps167
  go_wp2_with fail
  go_loopw [4, 8] (fun r i wr => ∃ k : Nat, k ≤ n ∧ r = .int .i64 0 ∧ i = .int .i64 k ∧ Hid (∀ (j : Nat) (p : Node), j < k → ns[j]? = some p → sameN p.name s = false) ∧ Ext w wr) (fun _ i _ => n - (intOf i).toNat)
  case atStart => exact ⟨0, Nat.zero_le _, rfl, rfl, hide (fun j p hj => absurd hj (by omega)), Ext.refl _⟩
  case round =>
    obtain ⟨k, hk, rfl, rfl, HK, hx⟩ := hrel
    by_cases hlt : k < n
    · obtain ⟨bb, off, p, rfl, hbb, hxk, hc⟩ := (hs.ext hx).get hlt
      have hc0 := hc 0 _ rfl
      have hc1 := hc 1 _ rfl
      have hc2 := hc 2 _ rfl
      clear hc
      simp only [Nat.add_zero] at hc0
      have HX := hide hxk
      clear hxk
      have hcb' := (hx.cell b 0 hb).trans hcb
      have hb' := Nat.lt_of_lt_of_le hb hx.size
      cases hp : sameN p.name s
      · go_wp2_with (go_at_call 168; refine (c_nodeSame p b s _ hb' hcb').mono ?_; rw [hp]; rintro e w1 ⟨rfl, hx1⟩)
        go_roundw
        case rel =>
          refine ⟨k + 1, by omega, rfl, by go_num, hide fun j q hj hq => ?_, hx.trans hx1⟩
          by_cases e : j = k
          · subst e; rw [HX.out] at hq; injection hq with hq; subst hq; exact hp
          · exact HK.out j q (by omega) hq
        case measure => simp [intOf]; omega
      · go_wp2_with (go_at_call 168; refine (c_nodeSame p b s _ hb' hcb').mono ?_; rw [hp]; rintro e w1 ⟨rfl, hx1⟩)
        go_ret
        refine ⟨k, rfl, ?_, hx.trans hx1⟩
        have : hasN ns s = true := by rw [hasN, List.any_eq_true]; exact ⟨p, List.mem_of_getElem? HX.out, hp⟩
        rw [this]; simp
    · go_wp2_with fail
      go_ret
      refine ⟨-1, rfl, ?_, hx⟩
      have : hasN ns s = false := by
        rw [hasN, List.any_eq_false]; intro q hq
        obtain ⟨j, hj, rfl⟩ := List.mem_iff_getElem.1 hq
        simp [HK.out j _ (by have := hs.len; omega) (List.getElem?_eq_getElem hj)]
      rw [this]; simp

theorem c_nodeIndex (A1 A2 : Option Addr) (n1 c1 n2 c2 : Nat) (ns : List Node) (s : ByteArray) (w : World) (hs : SliceOf w 3 Node.cells A1 n1 c1 ns) :
    Calls Tryz.prog 158 #[.agg #[.slice A1 n1 c1, .slice A2 n2 c2], .string s] w (FoundN (hasN ns s) w) := by
  go_enter Tryz.func158, Tryz.ntmps158
  go_wp2_with fail
  refine (c_IndexNode A1 n1 c1 ns _ s _ (hs.ext ((Ext.alloc _ _).and_alloc _)) (by simp) (by simp [go_sem])).mono ?_
  rintro e w1 ⟨r, rfl, hr, hx1⟩
  go_wp2_with fail
  go_ret
  exact ⟨r, rfl, hr, ((Ext.alloc _ _).and_alloc _).trans hx1⟩
end Go.Proofs.YtjpmiokbgpggbaaGreat
