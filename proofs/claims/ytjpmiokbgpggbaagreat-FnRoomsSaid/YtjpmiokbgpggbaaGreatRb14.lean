/-
  The helpers of the laws on Reading: copying, comparing, measuring, marking. Readings: validity, of the program.
-/
import Derived.Test.YtjpmiokbgpggbaaGreatRb12
import Derived.Test.YtjpmiokbgpggbaaGreatRb01
import Derived.Test.YtjpmiokbgpggbaaGreatRb13
namespace Go.Proofs.YtjpmiokbgpggbaaGreat
open Go.RowKit

structure Reading where
  node : Int
  amount : Int
def Reading.cells (x : Reading) : List Value := [.int .i64 x.node, .int .i64 x.amount]
theorem reading_len (x : Reading) : x.cells.length = 2 := rfl
theorem reading_info : (Tryz.prog.info? 93).map (fun i => (i.zero, i.size, i.bytes)) = some (some (.agg #[.int .i64 0, .int .i64 0]), 2, 16) := by kernel_rfl

theorem c_toReading (x : Reading) (w : World) :
    Calls Tryz.prog 128 #[.agg #[.int .i64 x.node, .int .i64 x.amount]] w (Ret (.agg #[.int .i64 x.node, .int .i64 x.amount]) w) := by
  go_enter Tryz.func128, Tryz.ntmps128
  go_wp2
  exact bodyPost_ret (v := .agg #[.int .i64 x.node, .int .i64 x.amount]) (by simp [results, Tryz.results128, go_sem]) rfl ⟨rfl, (((Ext.refl _).and_alloc _).and_alloc _).and_alloc _⟩

theorem c_eqReading (x : Reading) (w : World) :
    Calls Tryz.prog 133 #[.agg #[.int .i64 x.node, .int .i64 x.amount], .agg #[.int .i64 x.node, .int .i64 x.amount]] w (Ret (.bool true) w) := by
  go_enter Tryz.func133, Tryz.ntmps133
  go_wp2
  go_ret
  exact Ret.bool rfl (((Ext.refl _).and_alloc _).and_alloc _)

theorem c_szReadingS (A : Option Addr) (n c : Nat) (left : Int) (w : World) (hn : n ≤ c) (hc : c ≤ 9223372036854775807) (h0 : 0 ≤ left) (h1 : left ≤ 1048576) :
    Calls Tryz.prog 86 #[.slice A n c, .int .i64 left] w fun e w' => e = .returned (.int .i64 (if left < n then -1 else left - n)) ∧ w = w' := by
  go_enter Tryz.func86, Tryz.ntmps86
  go_wp2
  all_goals
    go_ret
    simp <;> omega


set_option maxHeartbeats 1000000 in
theorem c_toReadingS (A : Option Addr) (n c : Nat) (ts : List Reading) (w : World) (hs : SliceOf w 2 Reading.cells A n c ts) (hn : n ≤ 1048576) :
    Calls Tryz.prog 93 #[.slice A n c] w (NewRow 93 Reading.cells ts w) := by
  have hmk := fun W => run_make_flat (P := Tryz.prog) 72 93 _ _ 2 16 Tryz.underlying72 reading_info (f := Reading.cells) ⟨0, 0⟩ rfl rfl rfl (by omega) n (by omega) (by omega) W
  have hR0 := Row.new w 93 ((List.replicate n (⟨0, 0⟩ : Reading)).flatMap Reading.cells)
  go_enter Tryz.func93, Tryz.ntmps93
  go_wp2_with fail
  go_loopw [4] (fun i wr => ∃ (k : Nat) (L : List Reading), k ≤ n ∧ i = .int .i64 k ∧ L.length = n ∧ RowOf wr w.heap.size 93 Reading.cells L ∧ Hid (∀ j, j < k → L[j]? = ts[j]?) ∧ Ext w wr) (fun i _ => n - (intOf i).toNat)
  case atStart => exact ⟨0, _, Nat.zero_le _, rfl, List.length_replicate, hR0, hide (fun j hj => absurd hj (by omega)), Ext.alloc _ _⟩
  case round =>
    obtain ⟨k, L, hk, rfl, hL, hrow, HK, hx⟩ := hrel
    clear hR0 hmk
    have hgs := hrow.lt
    by_cases hlt : k < n
    · obtain ⟨b, off, x, rfl, hb, hxk, hc⟩ := (hs.ext hx).get hlt
      have hc0 := hc 0 _ rfl
      have hc1 := hc 1 _ rfl
      clear hc
      simp only [Nat.add_zero] at hc0
      have Hx := hide hxk
      have HL := hide hL
      clear hxk hL
      go_wp2_with (go_at_call 128; refine (c_toReading x _).mono ?_; rintro e w1 ⟨rfl, hx1⟩; have hrow1 := hrow.ext hx1; obtain ⟨v0, hv0⟩ := hrow1.there reading_len (i := k) (by rw [HL.out]; exact hlt) (j := 0) (by omega); have hf0 := hrow1.frozen (k * 2); obtain ⟨v1, hv1⟩ := hrow1.there reading_len (i := k) (by rw [HL.out]; exact hlt) (j := 1) (by omega); have hf1 := hrow1.frozen (k * 2 + 1); rw [Nat.add_zero] at hv0)
      go_roundw
      case rel =>
        refine ⟨k + 1, L.set k x, by omega, by go_num, by simpa using HL.out, hrow1.put reading_len (by rw [HL.out]; exact hlt) x, hide ?_, (hx.trans hx1).put (Nat.le_refl _) (k * 2) x.cells⟩
        intro j hj
        rw [List.getElem?_set]
        by_cases e : k = j
        · subst e; rw [if_pos rfl, if_pos (by rw [HL.out]; exact hlt), Hx.out]
        · rw [if_neg e]; exact HK.out j (by omega)
      case measure => simp [intOf]; omega
    · go_wp2
      go_ret
      have hLts : L = ts := by
        apply List.ext_getElem?
        intro j
        by_cases hj : j < n
        · exact HK.out j (by omega)
        · rw [List.getElem?_eq_none (by omega), List.getElem?_eq_none (by have := hs.len; omega)]
      subst hLts
      refine ⟨w.heap.size, ?_, Nat.le_refl _, hrow, hx⟩
      rw [hL]; rfl

set_option maxHeartbeats 1000000 in
theorem c_eqReadingS (A A' : Option Addr) (n c n' c' : Nat) (ts : List Reading) (w : World) (hs : SliceOf w 2 Reading.cells A n c ts) (hs' : SliceOf w 2 Reading.cells A' n' c' ts) :
    Calls Tryz.prog 100 #[.slice A n c, .slice A' n' c'] w (Ret (.bool true) w) := by
  have hl := hs.len
  obtain rfl : n = n' := by rw [hs.len, hs'.len]
  have hm := hs.max
  have hcp := hs.cap
  clear hl
  go_enter Tryz.func100, Tryz.ntmps100
  go_wp2_with fail
  go_loopw [5] (fun i wr => ∃ (k : Nat), k ≤ n ∧ i = .int .i64 k ∧ Ext w wr) (fun i _ => n - (intOf i).toNat)
  case atStart => exact ⟨0, Nat.zero_le _, rfl, Ext.refl _⟩
  case round =>
    obtain ⟨k, hk, rfl, hx⟩ := hrel
    by_cases hlt : k < n
    · obtain ⟨b, off, x, rfl, hb, hxk, hc⟩ := (hs.ext hx).get hlt
      obtain ⟨b', off', x', rfl, hb', hxk', hc'⟩ := (hs'.ext hx).get hlt
      obtain rfl : x = x' := by rw [hxk] at hxk'; injection hxk'
      have hc0 := hc 0 _ rfl
      have hc1 := hc 1 _ rfl
      have hd0 := hc' 0 _ rfl
      have hd1 := hc' 1 _ rfl
      clear hc hc' hxk hxk'
      simp only [Nat.add_zero] at hc0 hd0
      go_wp2_with fail
      refine wp_region_later (by kernel_rfl) (by kernel_rfl) ?_
      repeat (go_big_quiet_step ((go_at_call 133; exact quiet_later (c_eqReading x _))))
      refine wpQuiet_nil ?_
      intro w1 hx1
      go_wp2
      go_roundw
      case rel => exact ⟨k + 1, by omega, by go_num, hx.trans hx1⟩
      case measure => simp [intOf]; omega
    · go_wp2
      go_ret
      exact Ret.bool rfl hx


/-- the marks from a number on -/
def markReading (a : Int) (n : Nat) : List Reading := (List.range n).map fun (i : Nat) => ⟨a + 2 * (i : Int), a + 2 * (i : Int) + 1⟩
theorem markReading_at (a : Int) (n i : Nat) (h : i < n) : (markReading a n)[i]? = some ⟨a + 2 * (i : Int), a + 2 * (i : Int) + 1⟩ := by
  unfold markReading; rw [List.getElem?_map, List.getElem?_range h]; rfl
/-- the row is marked; nothing else has turned -/
def MarkedReading (g : Nat) (A : Option Addr) (n : Nat) (a : Int) (w : World) (e : Ending) (w' : World) : Prop :=
  e = .returned (.int .i64 (a + 2 * n)) ∧ OwnS w' g 93 Reading.cells A n (markReading a n) ∧ Only g w w'
set_option maxHeartbeats 1000000 in
theorem c_markReadingS (g : Nat) (A : Option Addr) (n c : Nat) (ts : List Reading) (a : Int) (w : World) (hown0 : OwnS w g 93 Reading.cells A n ts) (hn : n ≤ 1000000000) (hcap : n ≤ c) (hmax : c ≤ 9223372036854775807) (ha0 : 0 ≤ a) (ha1 : a ≤ 1000000000000) :
    Calls Tryz.prog 103 #[.slice A n c, .int .i64 a] w (MarkedReading g A n a w) := by
  go_enter Tryz.func103, Tryz.ntmps103
  go_wp2_with fail
  go_loopw [1, 5] (fun q i wr => ∃ (k : Nat) (K : Int) (L : List Reading), k ≤ n ∧ q = .int .i64 K ∧ i = .int .i64 k ∧ a + 2 * (k : Int) ≤ K ∧ K ≤ a + 2 * (k : Int) ∧ OwnS wr g 93 Reading.cells A n L ∧ Hid (∀ j, j < k → L[j]? = (markReading a n)[j]?) ∧ Only g w wr) (fun _ i _ => n - (intOf i).toNat)
  case atStart => exact ⟨0, a, ts, Nat.zero_le _, rfl, rfl, by omega, by omega, hown0, hide (fun j hj => absurd hj (by omega)), Only.refl _ _⟩
  case round =>
    obtain ⟨k, K, L, hk, rfl, rfl, hK0, hK1, hown, HK, hx⟩ := hrel
    by_cases hlt : k < n
    · have hn0 : 0 < n := by omega
      obtain ⟨rfl, _⟩ := hown.2 hn0
      obtain ⟨v0, hv0⟩ := hown.there reading_len (i := k) hlt (j := 0) (by omega)
      have hf0 := hown.frozen hn0 (k * 2)
      obtain ⟨v1, hv1⟩ := hown.there reading_len (i := k) hlt (j := 1) (by omega)
      have hf1 := hown.frozen hn0 (k * 2 + 1)
      rw [Nat.add_zero] at hv0
      have HL := hide hown.1
      go_wp2_with fail
      go_roundw
      case rel =>
        refine ⟨k + 1, _, L.set k ⟨K, K + 1⟩, by omega, rfl, by go_num, by omega, by omega, hown.put reading_len hlt ⟨K, K + 1⟩, hide ?_, hx.put (k * 2) (Reading.cells ⟨K, K + 1⟩)⟩
        intro j hj
        rw [List.getElem?_set]
        by_cases e : k = j
        · subst e
          rw [if_pos rfl, if_pos (by rw [← HL.out]; exact hlt), markReading_at _ _ _ hlt]
          congr 2 <;> omega
        · rw [if_neg e]; exact HK.out j (by omega)
      case measure => simp [intOf]; omega
    · go_wp2_with fail
      go_ret
      have hLts : L = markReading a n := by
        apply List.ext_getElem?
        intro j
        by_cases hj : j < n
        · exact HK.out j (by omega)
        · rw [List.getElem?_eq_none (by have := hown.1; omega), List.getElem?_eq_none (by simp [markReading]; omega)]
      subst hLts
      refine ⟨?_, hown, hx⟩
      obtain rfl : k = n := by omega
      have : K = a + 2 * (k : Int) := by omega
      rw [← this]; rfl

set_option maxRecDepth 8000 in
set_option maxHeartbeats 1000000 in
theorem c_heldReadingS (A : Option Addr) (n c : Nat) (a : Int) (w : World) (hs : SliceOf w 2 Reading.cells A n c (markReading a n)) (hn : n ≤ 1000000000) (ha0 : 0 ≤ a) (ha1 : a ≤ 1000000000000) :
    Calls Tryz.prog 106 #[.slice A n c, .int .i64 a] w fun e w' => e = .returned (.int .i64 (a + 2 * n)) ∧ w = w' := by
  have hcap := hs.cap
  have hmax := hs.max
  go_enter Tryz.func106, Tryz.ntmps106
  go_wp2_with fail
  go_loop [1, 5] (fun q i => ∃ (k : Nat) (K : Int), k ≤ n ∧ q = .int .i64 K ∧ i = .int .i64 k ∧ a + 2 * (k : Int) ≤ K ∧ K ≤ a + 2 * (k : Int)) (fun _ i => n - (intOf i).toNat)
  case atStart => exact ⟨0, a, Nat.zero_le _, rfl, rfl, by omega, by omega⟩
  case round =>
    obtain ⟨k, K, hk, rfl, rfl, hK0, hK1⟩ := hrel
    by_cases hlt : k < n
    · obtain ⟨b, off, x, rfl, hb, hxk, hc⟩ := hs.get hlt
      rw [markReading_at _ _ _ hlt] at hxk
      obtain rfl : (⟨K, K + 1⟩ : Reading) = x := by
        injection hxk with hxk
        rw [← hxk]
        congr 1 <;> omega
      clear hxk
      have hc0 := hc 0 _ rfl
      have hc1 := hc 1 _ rfl
      clear hc
      simp only [Nat.add_zero] at hc0
      go_wp2_with fail
      go_round
      case rel => exact ⟨k + 1, _, by omega, rfl, by go_num, by omega, by omega⟩
      case measure => simp [intOf]; omega
    · go_wp2_with fail
      go_ret
      obtain rfl : k = n := by omega
      have : K = a + 2 * (k : Int) := by omega
      exact ⟨by rw [← this]; rfl, rfl⟩

end Go.Proofs.YtjpmiokbgpggbaaGreat

namespace Go.Proofs.YtjpmiokbgpggbaaGreat
open Go.RowKit
def clash (x y : Reading) : Bool := (x.node == y.node) && (decide (0 < x.amount) == decide (0 < y.amount))
def hasR (L : List Reading) (r : Reading) : Bool := L.any fun x => clash x r
def readB (nn : Int) (r : Reading) : Bool := inB r.node 0 (nn - 1) && inB r.amount (-30000) 30000 && !(r.amount == 0)
def readOkB (nn : Int) (L : List Reading) (i : Nat) : Bool := match L[i]? with
  | some r => readB nn r && !hasR (L.take i) r
  | none => true
def readsB (nn : Int) (L : List Reading) : Bool := decide (L.length ≤ 48) && (List.range L.length).all (readOkB nn L)
theorem readOk_at {nn : Int} {L : List Reading} {k : Nat} {r : Reading} (h : L[k]? = some r) : readOkB nn L k = (readB nn r && !hasR (L.take k) r) := by unfold readOkB; rw [h]
theorem reads_no {nn : Int} {L : List Reading} {n k : Nat} (hn : n = L.length) (hk : k < n) (h : readOkB nn L k = false) : readsB nn L = false := by
  unfold readsB
  rw [all_range_false (by omega) h]; simp
theorem reads_yes {nn : Int} {L : List Reading} {n : Nat} (hn : n = L.length) (h48 : n ≤ 48) (h : ∀ j, j < n → readOkB nn L j = true) : readsB nn L = true := by
  subst hn
  unfold readsB
  rw [all_range_true h]; simp [h48]
theorem reads_long {nn : Int} {L : List Reading} {n : Nat} (hn : n = L.length) (h : ¬ n ≤ 48) : readsB nn L = false := by
  subst hn
  unfold readsB; simp [h]
theorem read_ways (nn : Int) (r : Reading) : (inB r.node 0 (nn - 1) = false ∧ Hid (readB nn r = false)) ∨ (inB r.node 0 (nn - 1) = true ∧ inB r.amount (-30000) 30000 = false ∧ Hid (readB nn r = false)) ∨
    (inB r.node 0 (nn - 1) = true ∧ inB r.amount (-30000) 30000 = true ∧ (r.amount == 0) = true ∧ Hid (readB nn r = false)) ∨ (inB r.node 0 (nn - 1) = true ∧ inB r.amount (-30000) 30000 = true ∧ (r.amount == 0) = false ∧ Hid (readB nn r = true)) := by
  unfold readB Hid
  cases inB r.node 0 (nn - 1) <;> cases inB r.amount (-30000) 30000 <;> cases (r.amount == 0) <;> simp

/-- a box of a reading, by its block -/
def ReadIn (w : World) (b : Nat) (r : Reading) : Prop := b < w.heap.size ∧ w.cell? ⟨b, 0, none⟩ = some (.int .i64 r.node) ∧ w.cell? ⟨b, 1, none⟩ = some (.int .i64 r.amount)
theorem ReadIn.ext {w w' : World} {b : Nat} {r : Reading} (h : ReadIn w b r) (hx : Ext w w') : ReadIn w' b r := ⟨Nat.lt_of_lt_of_le h.1 hx.size, (hx.cell _ _ h.1).trans h.2.1, (hx.cell _ _ h.1).trans h.2.2⟩
theorem ReadIn.new (w : World) (r : Reading) : ReadIn (w.alloc (.cells #[.int .i64 r.node, .int .i64 r.amount] 93)) w.heap.size r := ⟨by simp, by simp [go_sem], by simp [go_sem]⟩
theorem c_clash (x r : Reading) (b : Nat) (w : World) (hb : ReadIn w b r) :
    Calls Tryz.prog 122 #[.agg #[.int .i64 x.node, .int .i64 x.amount], .pointer (some ⟨b, 0, none⟩)] w (Ret (.bool (clash x r)) w) := by
  obtain ⟨hb0, hb1, hb2⟩ := hb
  cases hn : (x.node == r.node)
  · have HR := hide (show clash x r = false by simp [clash, hn])
    go_enter Tryz.func122, Tryz.ntmps122
    go_wp2_with fail
    go_ret
    exact Ret.bool HR.out (Ext.alloc _ _)
  · have HR := hide (show clash x r = (decide (0 < x.amount) == decide (0 < r.amount)) by simp [clash, hn])
    go_enter Tryz.func122, Tryz.ntmps122
    go_wp2_with fail
    go_ret
    exact Ret.bool HR.out (Ext.alloc _ _)

set_option maxHeartbeats 1000000 in
theorem c_IndexRead (A : Option Addr) (n c : Nat) (L : List Reading) (r : Reading) (b : Nat) (w : World) (hs : SliceOf w 2 Reading.cells A n c L) (hb : ReadIn w b r) :
    Calls Tryz.prog 150 #[.slice A n c, .func (.func 122) #[] #[.pointer (some ⟨b, 0, none⟩)]] w (FoundN (hasR L r) w) := by
  have hm := hs.max
  have hcap := hs.cap
  go_enter Tryz.func150, Tryz.ntmps150
  go_wp2_with fail
  go_loopw [4, 8] (fun q i wr => ∃ k : Nat, k ≤ n ∧ q = .int .i64 0 ∧ i = .int .i64 k ∧ Hid (∀ (j : Nat) (p : Reading), j < k → L[j]? = some p → clash p r = false) ∧ Ext w wr) (fun _ i _ => n - (intOf i).toNat)
  case atStart => exact ⟨0, Nat.zero_le _, rfl, rfl, hide (fun j p hj => absurd hj (by omega)), Ext.refl _⟩
  case round =>
    obtain ⟨k, hk, rfl, rfl, HK, hx⟩ := hrel
    by_cases hlt : k < n
    · obtain ⟨bb, off, p, rfl, hbb, hxk, hc⟩ := (hs.ext hx).get hlt
      have hc0 := hc 0 _ rfl
      have hc1 := hc 1 _ rfl
      clear hc
      simp only [Nat.add_zero] at hc0
      have HX := hide hxk
      clear hxk
      have hbx := hb.ext hx
      cases hp : clash p r
      · go_wp2_with (go_at_call 122; refine (c_clash p r b _ hbx).mono ?_; rw [hp]; rintro e w1 ⟨rfl, hx1⟩)
        go_roundw
        case rel =>
          refine ⟨k + 1, by omega, rfl, by go_num, hide fun j q hj hq => ?_, hx.trans hx1⟩
          by_cases e : j = k
          · subst e; rw [HX.out] at hq; injection hq with hq; subst hq; exact hp
          · exact HK.out j q (by omega) hq
        case measure => simp [intOf]; omega
      · go_wp2_with (go_at_call 122; refine (c_clash p r b _ hbx).mono ?_; rw [hp]; rintro e w1 ⟨rfl, hx1⟩)
        go_ret
        refine ⟨k, rfl, ?_, hx.trans hx1⟩
        have : hasR L r = true := by rw [hasR, List.any_eq_true]; exact ⟨p, List.mem_of_getElem? HX.out, hp⟩
        rw [this]; simp
    · go_wp2_with fail
      go_ret
      refine ⟨-1, rfl, ?_, hx⟩
      have : hasR L r = false := by
        rw [hasR, List.any_eq_false]; intro q hq
        obtain ⟨j, hj, rfl⟩ := List.mem_iff_getElem.1 hq
        simp [HK.out j _ (by have := hs.len; omega) (List.getElem?_eq_getElem hj)]
      rw [this]; simp
theorem c_ContainsRead (A : Option Addr) (n c : Nat) (L : List Reading) (r : Reading) (b : Nat) (w : World) (hs : SliceOf w 2 Reading.cells A n c L) (hb : ReadIn w b r) :
    Calls Tryz.prog 121 #[.slice A n c, .func (.func 122) #[] #[.pointer (some ⟨b, 0, none⟩)]] w (Ret (.bool (hasR L r)) w) := by
  go_enter Tryz.func121, Tryz.ntmps121
  go_wp2_with fail
  refine (c_IndexRead A n c L r b _ hs hb).mono ?_
  rintro e w1 ⟨q, rfl, hr, hx1⟩
  have HR := hide hr
  clear hr
  go_wp2_with fail
  go_ret
  exact Ret.bool HR.out.symm hx1

theorem c_checkNone (A1 A2 : Option Addr) (n1 c1 n2 c2 : Nat) (ns : List Node) (ps : List Pipe) (w : World) (hs1 : SliceOf w 3 Node.cells A1 n1 c1 ns) (hs2 : SliceOf w 5 Pipe.cells A2 n2 c2 ps) :
    Calls Tryz.prog 119 #[.agg #[.slice A1 n1 c1, .slice A2 n2 c2], .slice none 0 0] w (Ret (.int .i64 (if netB ns ps = true then 0 else 1)) w) := by
  cases hN : netB ns ps
  · rw [if_neg (by decide)]
    go_enter Tryz.func119, Tryz.ntmps119
    go_wp2_with fail
    refine (c_IsNetwork A1 A2 n1 c1 n2 c2 ns ps _ (hs1.ext (Ext.alloc _ _)) (hs2.ext (Ext.alloc _ _))).mono ?_
    rw [hN]
    rintro e w1 ⟨rfl, hx1⟩
    go_wp2_with fail
    go_ret
    exact Ret.int rfl hx1.box
  · rw [if_pos rfl]
    go_enter Tryz.func119, Tryz.ntmps119
    go_wp2_with fail
    refine (c_IsNetwork A1 A2 n1 c1 n2 c2 ns ps _ (hs1.ext (Ext.alloc _ _)) (hs2.ext (Ext.alloc _ _))).mono ?_
    rw [hN]
    rintro e w1 ⟨rfl, hx1⟩
    go_wp2_with fail
    go_loopw [17] (fun i wr => i = .int .i64 0 ∧ wr = w1) (fun _ _ => 0)
    case atStart => exact ⟨rfl, rfl⟩
    case round =>
      obtain ⟨rfl, rfl⟩ := hrel
      go_wp2_with fail
      go_ret
      exact Ret.int rfl hx1.box
end Go.Proofs.YtjpmiokbgpggbaaGreat
