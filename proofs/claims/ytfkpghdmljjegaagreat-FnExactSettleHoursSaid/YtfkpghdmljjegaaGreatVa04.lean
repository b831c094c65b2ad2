/-
  The helpers of the laws on Nomination: copying, comparing, measuring, marking. Nominations: validity of one, of the program and of the reference.
-/
import Derived.Test.YtfkpghdmljjegaaGreatVa03
import Derived.Test.YtfkpghdmljjegaaGreatVa01
namespace Go.Proofs.YtfkpghdmljjegaaGreat
open Go.RowKit

structure Nomination where
  contract : Int
  hour : Int
  sent : Int
  amount : Int
def Nomination.cells (x : Nomination) : List Value := [.int .i64 x.contract, .int .i64 x.hour, .int .i64 x.sent, .int .i64 x.amount]
theorem nomination_len (x : Nomination) : x.cells.length = 4 := rfl
theorem nomination_info : (Tryz.prog.info? 157).map (fun i => (i.zero, i.size, i.bytes)) = some (some (.agg #[.int .i64 0, .int .i64 0, .int .i64 0, .int .i64 0]), 4, 32) := by kernel_rfl

theorem c_toNomination (x : Nomination) (w : World) :
    Calls Tryz.prog 109 #[.agg #[.int .i64 x.contract, .int .i64 x.hour, .int .i64 x.sent, .int .i64 x.amount]] w (Ret (.agg #[.int .i64 x.contract, .int .i64 x.hour, .int .i64 x.sent, .int .i64 x.amount]) w) := by
  go_enter Tryz.func109, Tryz.ntmps109
  go_wp2
  exact bodyPost_ret (v := .agg #[.int .i64 x.contract, .int .i64 x.hour, .int .i64 x.sent, .int .i64 x.amount]) (by simp [results, Tryz.results109, go_sem]) rfl ⟨rfl, (((Ext.refl _).and_alloc _).and_alloc _).and_alloc _⟩

theorem c_eqNomination (x : Nomination) (w : World) :
    Calls Tryz.prog 118 #[.agg #[.int .i64 x.contract, .int .i64 x.hour, .int .i64 x.sent, .int .i64 x.amount], .agg #[.int .i64 x.contract, .int .i64 x.hour, .int .i64 x.sent, .int .i64 x.amount]] w (Ret (.bool true) w) := by
  go_enter Tryz.func118, Tryz.ntmps118
  go_wp2
  go_ret
  exact Ret.bool rfl (((Ext.refl _).and_alloc _).and_alloc _)

theorem c_szNominationS (A : Option Addr) (n c : Nat) (left : Int) (w : World) (hn : n ≤ c) (hc : c ≤ 9223372036854775807) (h0 : 0 ≤ left) (h1 : left ≤ 1048576) :
    Calls Tryz.prog 20 #[.slice A n c, .int .i64 left] w fun e w' => e = .returned (.int .i64 (if left < n then -1 else left - n)) ∧ w = w' := by
  go_enter Tryz.func20, Tryz.ntmps20
  go_wp2
  all_goals
    go_ret
    simp <;> omega


set_option maxHeartbeats 1000000 in
theorem c_toNominationS (A : Option Addr) (n c : Nat) (ts : List Nomination) (w : World) (hs : SliceOf w 4 Nomination.cells A n c ts) (hn : n ≤ 1048576) :
    Calls Tryz.prog 24 #[.slice A n c] w (NewRow 157 Nomination.cells ts w) := by
  have hmk := fun W => run_make_flat (P := Tryz.prog) 49 157 _ _ 4 32 Tryz.underlying49 nomination_info (f := Nomination.cells) ⟨0, 0, 0, 0⟩ rfl rfl rfl (by omega) n (by omega) (by omega) W
  have hR0 := Row.new w 157 ((List.replicate n (⟨0, 0, 0, 0⟩ : Nomination)).flatMap Nomination.cells)
  go_enter Tryz.func24, Tryz.ntmps24
  go_wp2_with fail
  go_loopw [4] (fun i wr => ∃ (k : Nat) (L : List Nomination), k ≤ n ∧ i = .int .i64 k ∧ L.length = n ∧ RowOf wr w.heap.size 157 Nomination.cells L ∧ Hid (∀ j, j < k → L[j]? = ts[j]?) ∧ Ext w wr) (fun i _ => n - (intOf i).toNat)
  case atStart => exact ⟨0, _, Nat.zero_le _, rfl, List.length_replicate, hR0, hide (fun j hj => absurd hj (by omega)), Ext.alloc _ _⟩
  case round =>
    obtain ⟨k, L, hk, rfl, hL, hrow, HK, hx⟩ := hrel
    clear hR0 hmk
    have hgs := hrow.lt
    by_cases hlt : k < n
    · obtain ⟨b, off, x, rfl, hb, hxk, hc⟩ := (hs.ext hx).get hlt
      have hc0 := hc 0 _ rfl
      have hc1 := hc 1 _ rfl
      have hc2 := hc 2 _ rfl
      have hc3 := hc 3 _ rfl
      clear hc
      simp only [Nat.add_zero] at hc0
      have Hx := hide hxk
      have HL := hide hL
      clear hxk hL
      go_wp2_with (go_at_call 109; refine (c_toNomination x _).mono ?_; rintro e w1 ⟨rfl, hx1⟩; have hrow1 := hrow.ext hx1; obtain ⟨v0, hv0⟩ := hrow1.there nomination_len (i := k) (by rw [HL.out]; exact hlt) (j := 0) (by omega); have hf0 := hrow1.frozen (k * 4); obtain ⟨v1, hv1⟩ := hrow1.there nomination_len (i := k) (by rw [HL.out]; exact hlt) (j := 1) (by omega); have hf1 := hrow1.frozen (k * 4 + 1); obtain ⟨v2, hv2⟩ := hrow1.there nomination_len (i := k) (by rw [HL.out]; exact hlt) (j := 2) (by omega); have hf2 := hrow1.frozen (k * 4 + 2); obtain ⟨v3, hv3⟩ := hrow1.there nomination_len (i := k) (by rw [HL.out]; exact hlt) (j := 3) (by omega); have hf3 := hrow1.frozen (k * 4 + 3); rw [Nat.add_zero] at hv0)
      go_roundw
      case rel =>
        refine ⟨k + 1, L.set k x, by omega, by go_num, by simpa using HL.out, hrow1.put nomination_len (by rw [HL.out]; exact hlt) x, hide ?_, (hx.trans hx1).put (Nat.le_refl _) (k * 4) x.cells⟩
        intro j hj
        rw [List.getElem?_set]
        by_cases e : k = j
        · subst e; rw [if_pos rfl, if_pos (by rw [HL.out]; exact hlt), Hx.out]
        · rw [if_neg e]; exact HK.out j (by omega)
      case measure => simp [intOf]; omega
    · go_wp2
      go_ret
      have hLts : L = ts := by
        apply List.ext_getElem?
        intro j
        by_cases hj : j < n
        · exact HK.out j (by omega)
        · rw [List.getElem?_eq_none (by omega), List.getElem?_eq_none (by have := hs.len; omega)]
      subst hLts
      refine ⟨w.heap.size, ?_, Nat.le_refl _, hrow, hx⟩
      rw [hL]; rfl

set_option maxHeartbeats 1000000 in
theorem c_eqNominationS (A A' : Option Addr) (n c n' c' : Nat) (ts : List Nomination) (w : World) (hs : SliceOf w 4 Nomination.cells A n c ts) (hs' : SliceOf w 4 Nomination.cells A' n' c' ts) :
    Calls Tryz.prog 29 #[.slice A n c, .slice A' n' c'] w (Ret (.bool true) w) := by
  have hl := hs.len
  obtain rfl : n = n' := by rw [hs.len, hs'.len]
  have hm := hs.max
  have hcp := hs.cap
  clear hl
  go_enter Tryz.func29, Tryz.ntmps29
  go_wp2_with fail
  go_loopw [5] (fun i wr => ∃ (k : Nat), k ≤ n ∧ i = .int .i64 k ∧ Ext w wr) (fun i _ => n - (intOf i).toNat)
  case atStart => exact ⟨0, Nat.zero_le _, rfl, Ext.refl _⟩
  case round =>
    obtain ⟨k, hk, rfl, hx⟩ := hrel
    by_cases hlt : k < n
    · obtain ⟨b, off, x, rfl, hb, hxk, hc⟩ := (hs.ext hx).get hlt
      obtain ⟨b', off', x', rfl, hb', hxk', hc'⟩ := (hs'.ext hx).get hlt
      obtain rfl : x = x' := by rw [hxk] at hxk'; injection hxk'
      have hc0 := hc 0 _ rfl
      have hc1 := hc 1 _ rfl
      have hc2 := hc 2 _ rfl
      have hc3 := hc 3 _ rfl
      have hd0 := hc' 0 _ rfl
      have hd1 := hc' 1 _ rfl
      have hd2 := hc' 2 _ rfl
      have hd3 := hc' 3 _ rfl
      clear hc hc' hxk hxk'
      simp only [Nat.add_zero] at hc0 hd0
      go_wp2_with fail
      refine wp_region_later (by kernel_rfl) (by kernel_rfl) ?_
      repeat (go_big_quiet_step ((go_at_call 118; exact quiet_later (c_eqNomination x _))))
      refine wpQuiet_nil ?_
      intro w1 hx1
      go_wp2
      go_roundw
      case rel => exact ⟨k + 1, by omega, by go_num, hx.trans hx1⟩
      case measure => simp [intOf]; omega
    · go_wp2
      go_ret
      exact Ret.bool rfl hx


/-- the marks from a number on -/
def markNomination (a : Int) (n : Nat) : List Nomination := (List.range n).map fun (i : Nat) => ⟨a + 4 * (i : Int), a + 4 * (i : Int) + 1, a + 4 * (i : Int) + 2, a + 4 * (i : Int) + 3⟩
theorem markNomination_at (a : Int) (n i : Nat) (h : i < n) : (markNomination a n)[i]? = some ⟨a + 4 * (i : Int), a + 4 * (i : Int) + 1, a + 4 * (i : Int) + 2, a + 4 * (i : Int) + 3⟩ := by
  unfold markNomination; rw [List.getElem?_map, List.getElem?_range h]; rfl
/-- the row is marked; nothing else has turned -/
def MarkedNomination (g : Nat) (A : Option Addr) (n : Nat) (a : Int) (w : World) (e : Ending) (w' : World) : Prop :=
  e = .returned (.int .i64 (a + 4 * n)) ∧ OwnS w' g 157 Nomination.cells A n (markNomination a n) ∧ Only g w w'
set_option maxHeartbeats 1000000 in
theorem c_markNominationS (g : Nat) (A : Option Addr) (n c : Nat) (ts : List Nomination) (a : Int) (w : World) (hown0 : OwnS w g 157 Nomination.cells A n ts) (hn : n ≤ 1000000000) (hcap : n ≤ c) (hmax : c ≤ 9223372036854775807) (ha0 : 0 ≤ a) (ha1 : a ≤ 1000000000000) :
    Calls Tryz.prog 32 #[.slice A n c, .int .i64 a] w (MarkedNomination g A n a w) := by
  go_enter Tryz.func32, Tryz.ntmps32
  go_wp2_with fail
  go_loopw [1, 5] (fun q i wr => ∃ (k : Nat) (K : Int) (L : List Nomination), k ≤ n ∧ q = .int .i64 K ∧ i = .int .i64 k ∧ a + 4 * (k : Int) ≤ K ∧ K ≤ a + 4 * (k : Int) ∧ OwnS wr g 157 Nomination.cells A n L ∧ Hid (∀ j, j < k → L[j]? = (markNomination a n)[j]?) ∧ Only g w wr) (fun _ i _ => n - (intOf i).toNat)
  case atStart => exact ⟨0, a, ts, Nat.zero_le _, rfl, rfl, by omega, by omega, hown0, hide (fun j hj => absurd hj (by omega)), Only.refl _ _⟩
  case round =>
    obtain ⟨k, K, L, hk, rfl, rfl, hK0, hK1, hown, HK, hx⟩ := hrel
    by_cases hlt : k < n
    · have hn0 : 0 < n := by omega
      obtain ⟨rfl, _⟩ := hown.2 hn0
      obtain ⟨v0, hv0⟩ := hown.there nomination_len (i := k) hlt (j := 0) (by omega)
      have hf0 := hown.frozen hn0 (k * 4)
      obtain ⟨v1, hv1⟩ := hown.there nomination_len (i := k) hlt (j := 1) (by omega)
      have hf1 := hown.frozen hn0 (k * 4 + 1)
      obtain ⟨v2, hv2⟩ := hown.there nomination_len (i := k) hlt (j := 2) (by omega)
      have hf2 := hown.frozen hn0 (k * 4 + 2)
      obtain ⟨v3, hv3⟩ := hown.there nomination_len (i := k) hlt (j := 3) (by omega)
      have hf3 := hown.frozen hn0 (k * 4 + 3)
      rw [Nat.add_zero] at hv0
      have HL := hide hown.1
      go_wp2_with fail
      go_roundw
      case rel =>
        refine ⟨k + 1, _, L.set k ⟨K, K + 1, K + 1 + 1, K + 1 + 1 + 1⟩, by omega, rfl, by go_num, by omega, by omega, hown.put nomination_len hlt ⟨K, K + 1, K + 1 + 1, K + 1 + 1 + 1⟩, hide ?_, hx.put (k * 4) (Nomination.cells ⟨K, K + 1, K + 1 + 1, K + 1 + 1 + 1⟩)⟩
        intro j hj
        rw [List.getElem?_set]
        by_cases e : k = j
        · subst e
          rw [if_pos rfl, if_pos (by rw [← HL.out]; exact hlt), markNomination_at _ _ _ hlt]
          congr 2 <;> omega
        · rw [if_neg e]; exact HK.out j (by omega)
      case measure => simp [intOf]; omega
    · go_wp2_with fail
      go_ret
      have hLts : L = markNomination a n := by
        apply List.ext_getElem?
        intro j
        by_cases hj : j < n
        · exact HK.out j (by omega)
        · rw [List.getElem?_eq_none (by have := hown.1; omega), List.getElem?_eq_none (by simp [markNomination]; omega)]
      subst hLts
      refine ⟨?_, hown, hx⟩
      obtain rfl : k = n := by omega
      have : K = a + 4 * (k : Int) := by omega
      rw [← this]; rfl


end Go.Proofs.YtfkpghdmljjegaaGreat

namespace Go.Proofs.YtfkpghdmljjegaaGreat
open Go.RowKit
def nomB (xs : List Contract) (x : Nomination) : Bool := match xs[x.contract.toNat]? with
  | some p => inB x.contract 0 ((xs.length : Int) - 1) && inB x.hour p.start p.stop && inB x.sent (-48) (x.hour - 2) && inB x.amount 0 p.amount
  | none => false
theorem nom_no {xs : List Contract} {x : Nomination} {n : Nat} (hn : n = xs.length) (h : inB x.contract 0 ((n : Int) - 1) = false) : nomB xs x = false := by
  subst hn
  unfold nomB
  split
  · simp [h]
  · rfl
theorem nom_at {xs : List Contract} {k : Nat} {hr st am : Int} {p : Contract} {n : Nat} (hn : n = xs.length) (hk : k < n) (h : xs[k]? = some p) : nomB xs ⟨k, hr, st, am⟩ = (inB hr p.start p.stop && inB st (-48) (hr - 2) && inB am 0 p.amount) := by
  unfold nomB
  simp only [Int.toNat_natCast]
  rw [h]
  simp only
  rw [inB_true.2 ⟨by omega, by omega⟩, Bool.true_and]
def HoursOk (xs : List Contract) : Prop := ∀ p ∈ xs, 0 ≤ p.start ∧ p.stop < 48
theorem book_hours {nn : Int} {xs : List Contract} (h : bookB nn xs = true) : HoursOk xs := by
  intro p hp
  simp only [bookB, Bool.and_eq_true, List.all_eq_true] at h
  have := h.2 p hp
  simp only [conB, Bool.and_eq_true, decide_eq_true_eq] at this
  omega

set_option maxHeartbeats 2000000 in
theorem c_isNomination (A : Option Addr) (n c : Nat) (xs : List Contract) (x : Nomination) (w : World) (hs : SliceOf w 8 Contract.cells A n c xs) (hok : HoursOk xs) :
    Calls Tryz.prog 264 #[.slice A n c, .agg #[.int .i64 x.contract, .int .i64 x.hour, .int .i64 x.sent, .int .i64 x.amount]] w (Ret (.bool (nomB xs x)) w) := by
  have hm := hs.max
  have hcap := hs.cap
  have HL := hide hs.len
  have HOK := hide hok
  clear hok
  cases h1 : inB x.contract 0 ((n : Int) - 1)
  · have HR := hide (nom_no HL.out h1)
    go_enter Tryz.func264, Tryz.ntmps264
    go_wp2_with (go_at_call 164; refine (c_within _ _ _ _).mono ?_; rintro e w' ⟨rfl, rfl⟩)
    go_ret
    exact Ret.bool HR.out (Ext.alloc _ _)
  obtain ⟨ct, hr, st, am⟩ := x
  obtain ⟨h10, h11⟩ := inB_true.1 h1
  simp only at h10 h11 h1
  obtain ⟨k, rfl⟩ := Int.eq_ofNat_of_zero_le h10
  have hk : k < n := by omega
  obtain ⟨bb, off, p, rfl, hbb, hxk, t⟩ := hs.get hk
  have t0 := (t 0 _ rfl)
  have t1 := (t 1 _ rfl)
  have t2 := (t 2 _ rfl)
  have t3 := (t 3 _ rfl)
  have t4 := (t 4 _ rfl)
  have t5 := (t 5 _ rfl)
  have t6 := (t 6 _ rfl)
  have t7 := (t 7 _ rfl)
  clear t
  simp only [Nat.add_zero] at t0
  have HR := hide (nom_at (hr := hr) (st := st) (am := am) HL.out hk hxk)
  obtain ⟨hp0, hp1⟩ := HOK.out p (List.mem_of_getElem? hxk)
  clear hxk
  go_enter Tryz.func264, Tryz.ntmps264
  go_wp2_with (go_at_call 164; refine (c_within _ _ _ _).mono ?_; rintro e w' ⟨rfl, rfl⟩)
  clear h1
  refine (c_holdsIn p hr _).mono ?_
  cases h2 : inB hr p.start p.stop
  · rw [h2] at HR
    rintro e w1 ⟨rfl, hx1⟩
    go_wp2_with fail
    go_ret
    exact Ret.bool HR.out (((Ext.alloc _ _).and_alloc _).trans hx1)
  obtain ⟨h20, h21⟩ := inB_true.1 h2
  rw [h2] at HR
  rintro e w1 ⟨rfl, hx1⟩
  have hRn := ((Row.new w 157 [.int .i64 k, .int .i64 hr, .int .i64 st, .int .i64 am]).alloc (.cells #[.int .i64 p.shipper, .int .i64 p.entry, .int .i64 p.exit, .int .i64 p.amount, .int .i64 p.cls, .int .i64 p.start, .int .i64 p.stop, .int .i64 p.price] 153)).ext hx1
  have hRc := (Row.new (w.alloc (.cells #[.int .i64 k, .int .i64 hr, .int .i64 st, .int .i64 am] 157)) 153 [.int .i64 p.shipper, .int .i64 p.entry, .int .i64 p.exit, .int .i64 p.amount, .int .i64 p.cls, .int .i64 p.start, .int .i64 p.stop, .int .i64 p.price]).ext hx1
  rw [show (w.alloc (.cells #[.int .i64 k, .int .i64 hr, .int .i64 st, .int .i64 am] 157)).heap.size = w.heap.size + 1 by simp] at hRc
  have q1 := hRn.cell 1
  have q2 := hRn.cell 2
  have q3 := hRn.cell 3
  have r3 := hRc.cell 3
  simp at q1 q2 q3 r3
  have hln := hRn.lt
  have hlc := hRc.lt
  clear hRn hRc
  go_wp2_with (go_at_call 164; refine (c_within _ _ _ _).mono ?_; rintro e w' ⟨rfl, rfl⟩)
  all_goals
    go_ret
    refine Ret.bool ?_ (((Ext.alloc _ _).and_alloc _).trans hx1)
    rw [HR.out]
    clear HR
    simp_all

set_option maxHeartbeats 2000000 in
theorem c_l21Is (A : Option Addr) (n c : Nat) (xs : List Contract) (x : Nomination) (w : World) (hs : SliceOf w 8 Contract.cells A n c xs) (hok : HoursOk xs) :
    Calls Tryz.prog 271 #[.slice A n c, .agg #[.int .i64 x.contract, .int .i64 x.hour, .int .i64 x.sent, .int .i64 x.amount]] w (Ret (.bool (nomB xs x)) w) := by
  have hm := hs.max
  have hcap := hs.cap
  have HL := hide hs.len
  have HOK := hide hok
  clear hok
  cases h1 : inB x.contract 0 ((n : Int) - 1)
  · have HR := hide (nom_no HL.out h1)
    go_enter Tryz.func271, Tryz.ntmps271
    go_wp2_with fail
    refine wp_region_ph [([0, 1, 2, 3, 4], 5), ([6, 7, 8, 9], 10), ([11, 12, 13, 14, 15, 16, 17, 18, 19, 20], 21)] [22, 23] (by kernel_rfl) (by kernel_rfl) (by intro c a w d v h; cases d <;> exact h) ?_
    simp only [wpPh, pickL, nthO]
    repeat (go_big_quiet_step (fail))
    refine wpQuiet_nil ?_
    go_wp2_with fail
    refine (c_l01In _ _ _ _).mono ?_
    rw [h1]
    rintro e w' ⟨rfl, rfl⟩
    go_wp2_with fail
    refine ⟨Ext.refl _, ?_⟩
    repeat (go_big_quiet_step (fail))
    refine wpQuiet_nil ?_
    go_wp2_with fail
    refine ⟨Ext.refl _, ?_⟩
    repeat (go_big_quiet_step (fail))
    refine wpQuiet_nil ?_
    go_wp2_with fail
    refine ⟨Ext.refl _, ?_⟩
    repeat (go_big_quiet_step (fail))
    refine wpQuiet_nil ?_
    go_wp2_with fail
    go_ret
    exact Ret.bool HR.out (Ext.alloc _ _).drew
  obtain ⟨ct, hr, st, am⟩ := x
  obtain ⟨h10, h11⟩ := inB_true.1 h1
  simp only at h10 h11 h1
  obtain ⟨k, rfl⟩ := Int.eq_ofNat_of_zero_le h10
  have hk : k < n := by omega
  obtain ⟨bb, off, p, rfl, hbb, hxk, t⟩ := hs.get hk
  have t0 := (t 0 _ rfl)
  have t1 := (t 1 _ rfl)
  have t2 := (t 2 _ rfl)
  have t3 := (t 3 _ rfl)
  have t4 := (t 4 _ rfl)
  have t5 := (t 5 _ rfl)
  have t6 := (t 6 _ rfl)
  have t7 := (t 7 _ rfl)
  clear t
  simp only [Nat.add_zero] at t0
  have HR := hide (nom_at (hr := hr) (st := st) (am := am) HL.out hk hxk)
  obtain ⟨hp0, hp1⟩ := HOK.out p (List.mem_of_getElem? hxk)
  clear hxk
  have hRn := (Row.new w 157 [.int .i64 k, .int .i64 hr, .int .i64 st, .int .i64 am])
  have q0 := hRn.cell 0
  have q1 := hRn.cell 1
  have q2 := hRn.cell 2
  have q3 := hRn.cell 3
  simp at q0 q1 q2 q3
  have hln := hRn.lt
  go_enter Tryz.func271, Tryz.ntmps271
  go_wp2_with fail
  refine wp_region_ph [([0, 1, 2, 3, 4], 5), ([6, 7, 8, 9], 10), ([11, 12, 13, 14, 15, 16, 17, 18, 19, 20], 21)] [22, 23] (by kernel_rfl) (by kernel_rfl) (by intro c a w d v h; cases d <;> exact h) ?_
  simp only [wpPh, pickL, nthO]
  repeat (go_big_quiet_step (fail))
  refine wpQuiet_nil ?_
  go_wp2_with fail
  refine (c_l01In _ _ _ _).mono ?_
  rw [h1]
  rintro e w' ⟨rfl, rfl⟩
  clear h1
  go_wp2_with fail
  refine ⟨Ext.refl _, ?_⟩
  repeat (go_big_quiet_step (fail))
  refine wpQuiet_nil ?_
  go_wp2_with fail
  refine (c_l20Hour _ _).mono ?_
  cases h47 : inB hr 0 47
  · have h2 : inB hr p.start p.stop = false := by
      have := inB_false.1 h47
      exact inB_false.2 (by omega)
    rw [h2] at HR
    clear h2
    rintro e w' ⟨rfl, rfl⟩
    go_wp2_with fail
    refine ⟨Ext.refl _, ?_⟩
    repeat (go_big_quiet_step (fail))
    refine wpQuiet_nil ?_
    go_wp2_with fail
    refine ⟨Ext.refl _, ?_⟩
    repeat (go_big_quiet_step (fail))
    refine wpQuiet_nil ?_
    go_wp2_with fail
    go_ret
    exact Ret.bool HR.out (Ext.alloc _ _).drew
  obtain ⟨h470, h471⟩ := inB_true.1 h47
  rintro e w' ⟨rfl, rfl⟩
  clear h47
  go_wp2_with fail
  refine ⟨Ext.refl _, ?_⟩
  repeat (go_big_quiet_step (fail))
  refine wpQuiet_nil ?_
  go_wp2_with fail
  refine (c_l20Holds p hr _).mono ?_
  cases h2 : inB hr p.start p.stop
  · rw [h2] at HR
    rintro e w1 ⟨rfl, hx1⟩
    go_wp2_with fail
    refine ⟨hx1, ?_⟩
    repeat (go_big_quiet_step (fail))
    refine wpQuiet_nil ?_
    go_wp2_with fail
    go_ret
    exact Ret.bool HR.out ((Ext.alloc _ _).drew.trans hx1)
  rw [h2] at HR
  rintro e w1 ⟨rfl, hx1⟩
  clear h2
  go_wp2_with fail
  refine ⟨hx1, ?_⟩
  repeat (go_big_quiet_step (fail))
  refine wpQuiet_nil ?_
  have hx1' := (Ext.refl _).drew.trans hx1
  have hR1 := hRn.ext hx1'
  have s0 := hR1.cell 0
  have s1 := hR1.cell 1
  have s2 := hR1.cell 2
  have s3 := hR1.cell 3
  simp at s0 s1 s2 s3
  have hl1 := hR1.lt
  have hb1 : w1.cell? ⟨bb, off + k * 8 + 3, none⟩ = some (.int .i64 p.amount) := ((hx1'.box).cell _ _ hbb).trans t3
  have hbl : bb < w1.heap.size := Nat.lt_of_lt_of_le hbb hx1'.box.size
  clear q0 q1 q2 q3 t0 t1 t2 t3 t4 t5 t6 t7 hRn hR1 hln
  go_wp2_with fail
  refine wp_region_ph [([0, 1, 2, 3, 4], 5), ([6, 7, 8, 9, 10, 11, 12, 13, 14], 15)] [16, 17] (by kernel_rfl) (by kernel_rfl) (by intro c a w d v h; cases d <;> exact h) ?_
  simp only [wpPh, pickL, nthO]
  repeat (go_big_quiet_step (fail))
  refine wpQuiet_nil ?_
  go_wp2_with fail
  refine (c_l01In _ _ _ _).mono ?_
  cases h3 : inB st (-48) (hr - 2)
  · rw [h3] at HR
    rintro e w' ⟨rfl, rfl⟩
    go_wp2_with fail
    refine ⟨Ext.refl _, ?_⟩
    repeat (go_big_quiet_step (fail))
    refine wpQuiet_nil ?_
    go_wp2_with fail
    refine ⟨Ext.refl _, ?_⟩
    repeat (go_big_quiet_step (fail))
    refine wpQuiet_nil ?_
    go_wp2_with fail
    go_ret
    exact Ret.bool (by rw [HR.out]; rfl) hx1'.box.drew
  rw [h3] at HR
  rintro e w' ⟨rfl, rfl⟩
  go_wp2_with fail
  refine ⟨Ext.refl _, ?_⟩
  repeat (go_big_quiet_step (fail))
  refine wpQuiet_nil ?_
  go_wp2_with fail
  refine (c_l01In _ _ _ _).mono ?_
  rintro e w' ⟨rfl, rfl⟩
  go_wp2_with fail
  refine ⟨Ext.refl _, ?_⟩
  repeat (go_big_quiet_step (fail))
  refine wpQuiet_nil ?_
  go_wp2_with fail
  go_ret
  exact Ret.bool (by rw [HR.out]; rfl) hx1'.box.drew
end Go.Proofs.YtfkpghdmljjegaaGreat
