/-
  Readings: validity, of the program.
-/
import Derived.Test.YtegkeeeohileiaaSa23
import Derived.Test.YtegkeeeohileiaaSa29
namespace Go.Proofs.Ytegkeeeohileiaa
open Go.RowKit
def clash (x y : Reading) : Bool := (x.node == y.node) && (decide (0 < x.amount) == decide (0 < y.amount))
def hasR (L : List Reading) (r : Reading) : Bool := L.any fun x => clash x r
def readB (nn : Int) (r : Reading) : Bool := inB r.node 0 (nn - 1) && inB r.amount (-30000) 30000 && !(r.amount == 0)
def readOkB (nn : Int) (L : List Reading) (i : Nat) : Bool := match L[i]? with
  | some r => readB nn r && !hasR (L.take i) r
  | none => true
def readsB (nn : Int) (L : List Reading) : Bool := decide (L.length ≤ 48) && (List.range L.length).all (readOkB nn L)
theorem readOk_at {nn : Int} {L : List Reading} {k : Nat} {r : Reading} (h : L[k]? = some r) : readOkB nn L k = (readB nn r && !hasR (L.take k) r) := by unfold readOkB; rw [h]
theorem reads_no {nn : Int} {L : List Reading} {n k : Nat} (hn : n = L.length) (hk : k < n) (h : readOkB nn L k = false) : readsB nn L = false := by
  unfold readsB
  rw [all_range_false (by omega) h]; simp
theorem reads_yes {nn : Int} {L : List Reading} {n : Nat} (hn : n = L.length) (h48 : n ≤ 48) (h : ∀ j, j < n → readOkB nn L j = true) : readsB nn L = true := by
  subst hn
  unfold readsB
  rw [all_range_true h]; simp [h48]
theorem reads_long {nn : Int} {L : List Reading} {n : Nat} (hn : n = L.length) (h : ¬ n ≤ 48) : readsB nn L = false := by
  subst hn
  unfold readsB; simp [h]
theorem read_ways (nn : Int) (r : Reading) : (inB r.node 0 (nn - 1) = false ∧ Hid (readB nn r = false)) ∨ (inB r.node 0 (nn - 1) = true ∧ inB r.amount (-30000) 30000 = false ∧ Hid (readB nn r = false)) ∨
    (inB r.node 0 (nn - 1) = true ∧ inB r.amount (-30000) 30000 = true ∧ (r.amount == 0) = true ∧ Hid (readB nn r = false)) ∨ (inB r.node 0 (nn - 1) = true ∧ inB r.amount (-30000) 30000 = true ∧ (r.amount == 0) = false ∧ Hid (readB nn r = true)) := by
  unfold readB Hid
  cases inB r.node 0 (nn - 1) <;> cases inB r.amount (-30000) 30000 <;> cases (r.amount == 0) <;> simp

/-- a box of a reading, by its block -/
def ReadIn (w : World) (b : Nat) (r : Reading) : Prop := b < w.heap.size ∧ w.cell? ⟨b, 0, none⟩ = some (.int .i64 r.node) ∧ w.cell? ⟨b, 1, none⟩ = some (.int .i64 r.amount)
theorem ReadIn.ext {w w' : World} {b : Nat} {r : Reading} (h : ReadIn w b r) (hx : Ext w w') : ReadIn w' b r := ⟨Nat.lt_of_lt_of_le h.1 hx.size, (hx.cell _ _ h.1).trans h.2.1, (hx.cell _ _ h.1).trans h.2.2⟩
theorem ReadIn.new (w : World) (r : Reading) : ReadIn (w.alloc (.cells #[.int .i64 r.node, .int .i64 r.amount] 38)) w.heap.size r := ⟨by simp, by simp [go_sem], by simp [go_sem]⟩
theorem c_clash (x r : Reading) (b : Nat) (w : World) (hb : ReadIn w b r) :
    Calls Try.prog 34 #[.agg #[.int .i64 x.node, .int .i64 x.amount], .pointer (some ⟨b, 0, none⟩)] w (Ret (.bool (clash x r)) w) := by
  obtain ⟨hb0, hb1, hb2⟩ := hb
  cases hn : (x.node == r.node)
  · have HR := hide (show clash x r = false by simp [clash, hn])
    go_enter Try.func34, Try.ntmps34
    go_wp2_with fail
    go_ret
    exact Ret.bool HR.out (Ext.alloc _ _)
  · have HR := hide (show clash x r = (decide (0 < x.amount) == decide (0 < r.amount)) by simp [clash, hn])
    go_enter Try.func34, Try.ntmps34
    go_wp2_with fail
    go_ret
    exact Ret.bool HR.out (Ext.alloc _ _)

set_option maxHeartbeats 1000000 in
theorem c_IndexRead (A : Option Addr) (n c : Nat) (L : List Reading) (r : Reading) (b : Nat) (w : World) (hs : SliceOf w 2 Reading.cells A n c L) (hb : ReadIn w b r) :
    Calls Try.prog 50 #[.slice A n c, .func (.func 34) #[] #[.pointer (some ⟨b, 0, none⟩)]] w (FoundN (hasR L r) w) := by
  have hm := hs.max
  have hcap := hs.cap
  go_enter Try.func50, Try.ntmps50
  go_wp2_with fail
  go_loopw [4, 8] (fun q i wr => ∃ k : Nat, k ≤ n ∧ q = .int .i64 0 ∧ i = .int .i64 k ∧ Hid (∀ (j : Nat) (p : Reading), j < k → L[j]? = some p → clash p r = false) ∧ Ext w wr) (fun _ i _ => n - (intOf i).toNat)
  case atStart => exact ⟨0, Nat.zero_le _, rfl, rfl, hide (fun j p hj => absurd hj (by omega)), Ext.refl _⟩
  case round =>
    obtain ⟨k, hk, rfl, rfl, HK, hx⟩ := hrel
    by_cases hlt : k < n
    · obtain ⟨bb, off, p, rfl, hbb, hxk, hc⟩ := (hs.ext hx).get hlt
      have hc0 := hc 0 _ rfl
      have hc1 := hc 1 _ rfl
      clear hc
      simp only [Nat.add_zero] at hc0
      have HX := hide hxk
      clear hxk
      have hbx := hb.ext hx
      cases hp : clash p r
      · go_wp2_with (go_at_call 34; refine (c_clash p r b _ hbx).mono ?_; rw [hp]; rintro e w1 ⟨rfl, hx1⟩)
        go_roundw
        case rel =>
          refine ⟨k + 1, by omega, rfl, by go_num, hide fun j q hj hq => ?_, hx.trans hx1⟩
          by_cases e : j = k
          · subst e; rw [HX.out] at hq; injection hq with hq; subst hq; exact hp
          · exact HK.out j q (by omega) hq
        case measure => simp [intOf]; omega
      · go_wp2_with (go_at_call 34; refine (c_clash p r b _ hbx).mono ?_; rw [hp]; rintro e w1 ⟨rfl, hx1⟩)
        go_ret
        refine ⟨k, rfl, ?_, hx.trans hx1⟩
        have : hasR L r = true := by rw [hasR, List.any_eq_true]; exact ⟨p, List.mem_of_getElem? HX.out, hp⟩
        rw [this]; simp
    · go_wp2_with fail
      go_ret
      refine ⟨-1, rfl, ?_, hx⟩
      have : hasR L r = false := by
        rw [hasR, List.any_eq_false]; intro q hq
        obtain ⟨j, hj, rfl⟩ := List.mem_iff_getElem.1 hq
        simp [HK.out j _ (by have := hs.len; omega) (List.getElem?_eq_getElem hj)]
      rw [this]; simp
theorem c_ContainsRead (A : Option Addr) (n c : Nat) (L : List Reading) (r : Reading) (b : Nat) (w : World) (hs : SliceOf w 2 Reading.cells A n c L) (hb : ReadIn w b r) :
    Calls Try.prog 33 #[.slice A n c, .func (.func 34) #[] #[.pointer (some ⟨b, 0, none⟩)]] w (Ret (.bool (hasR L r)) w) := by
  go_enter Try.func33, Try.ntmps33
  go_wp2_with fail
  refine (c_IndexRead A n c L r b _ hs hb).mono ?_
  rintro e w1 ⟨q, rfl, hr, hx1⟩
  have HR := hide hr
  clear hr
  go_wp2_with fail
  go_ret
  exact Ret.bool HR.out.symm hx1

theorem c_checkNone (A1 A2 : Option Addr) (n1 c1 n2 c2 : Nat) (ns : List Node) (ps : List Pipe) (w : World) (hs1 : SliceOf w 3 Node.cells A1 n1 c1 ns) (hs2 : SliceOf w 5 Pipe.cells A2 n2 c2 ps) :
    Calls Try.prog 30 #[.agg #[.slice A1 n1 c1, .slice A2 n2 c2], .slice none 0 0] w (Ret (.int .i64 (if netB ns ps = true then 0 else 1)) w) := by
  cases hN : netB ns ps
  · rw [if_neg (by decide)]
    go_enter Try.func30, Try.ntmps30
    go_wp2_with fail
    refine (c_IsNetwork A1 A2 n1 c1 n2 c2 ns ps _ (hs1.ext (Ext.alloc _ _)) (hs2.ext (Ext.alloc _ _))).mono ?_
    rw [hN]
    rintro e w1 ⟨rfl, hx1⟩
    go_wp2_with fail
    go_ret
    exact Ret.int rfl hx1.box
  · rw [if_pos rfl]
    go_enter Try.func30, Try.ntmps30
    go_wp2_with fail
    refine (c_IsNetwork A1 A2 n1 c1 n2 c2 ns ps _ (hs1.ext (Ext.alloc _ _)) (hs2.ext (Ext.alloc _ _))).mono ?_
    rw [hN]
    rintro e w1 ⟨rfl, hx1⟩
    go_wp2_with fail
    go_loopw [17] (fun i wr => i = .int .i64 0 ∧ wr = w1) (fun _ _ => 0)
    case atStart => exact ⟨rfl, rfl⟩
    case round =>
      obtain ⟨rfl, rfl⟩ := hrel
      go_wp2_with fail
      go_ret
      exact Ret.int rfl hx1.box
end Go.Proofs.Ytegkeeeohileiaa
