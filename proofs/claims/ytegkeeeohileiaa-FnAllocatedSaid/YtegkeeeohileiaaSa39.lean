/-
  Orders: validity, of the program and of the reference.
-/
import Derived.Test.YtegkeeeohileiaaSa29
import Derived.Test.YtegkeeeohileiaaSa38
import Derived.Test.YtegkeeeohileiaaSa19
namespace Go.Proofs.Ytegkeeeohileiaa
open Go.RowKit
def orderB (nn : Int) (o : Order) : Bool := inB o.shipper 0 15 && inB o.node 0 (nn - 1) && inB o.amount (-30000) 30000 && inB o.cls 0 3
def ordersB (nn : Int) (os : List Order) : Bool := decide (os.length ≤ 40) && os.all (orderB nn)
/-- the code of a network and orders -/
def ordC (n1 : Int) (ns : List Node) (ps : List Pipe) (os : List Order) : Int := if netB ns ps = true then (if ordersB n1 os = true then 0 else 3) else 1
theorem orders_no {nn : Int} {os : List Order} {k : Nat} {o : Order} (h : os[k]? = some o) (hb : orderB nn o = false) : ordersB nn os = false := by
  unfold ordersB
  have : os.all (orderB nn) = false := by rw [List.all_eq_false]; exact ⟨o, List.mem_of_getElem? h, by simp [hb]⟩
  rw [this, Bool.and_false]
theorem orders_yes {nn : Int} {os : List Order} {n : Nat} (hn : n = os.length) (h40 : n ≤ 40) (h : ∀ (j : Nat) (o : Order), j < n → os[j]? = some o → orderB nn o = true) : ordersB nn os = true := by
  unfold ordersB
  rw [Bool.and_eq_true, decide_eq_true_eq, List.all_eq_true]
  refine ⟨by omega, fun o ho => ?_⟩
  obtain ⟨j, hj⟩ := List.getElem?_of_mem ho
  exact h j o (by rw [hn]; exact (List.getElem?_eq_some_iff.1 hj).1) hj
theorem orders_long {nn : Int} {os : List Order} {n : Nat} (hn : n = os.length) (h : ¬ n ≤ 40) : ordersB nn os = false := by
  unfold ordersB; rw [decide_eq_false (by omega)]; rfl
theorem ord_next {nn : Int} {os : List Order} {k : Nat} {o : Order} (h : ∀ (j : Nat) (o : Order), j < k → os[j]? = some o → orderB nn o = true) (hk : os[k]? = some o) (ho : orderB nn o = true) : ∀ (j : Nat) (o : Order), j < k + 1 → os[j]? = some o → orderB nn o = true := by
  intro j o' hj ho'
  rcases Nat.lt_or_ge j k with h1 | h1
  · exact h j o' h1 ho'
  · obtain rfl : j = k := by omega
    rw [hk] at ho'
    obtain rfl := Option.some.inj ho'
    exact ho
theorem c_isShipper (z : Int) (w : World) : Calls Try.prog 49 #[.int .i64 z] w fun e w' => e = .returned (.bool (inB z 0 15)) ∧ w = w' := by
  go_enter Try.func49, Try.ntmps49
  go_wp2_with (go_at_call 32; refine (c_within _ _ _ _).mono ?_; rintro e w' ⟨rfl, rfl⟩)
  go_ret
  exact ⟨rfl, rfl⟩
theorem c_l20Shipper (z : Int) (w : World) : Calls Try.prog 63 #[.int .i64 z] w fun e w' => e = .returned (.bool (inB z 0 15)) ∧ w = w' := by
  go_enter Try.func63, Try.ntmps63
  go_wp2_with (go_at_call 56; refine (c_l01In _ _ _ _).mono ?_; rintro e w' ⟨rfl, rfl⟩)
  go_ret
  exact ⟨rfl, rfl⟩
set_option maxHeartbeats 4000000 in
theorem c_checkOrders (A1 A2 : Option Addr) (n1 c1 n2 c2 : Nat) (ns : List Node) (ps : List Pipe) (A : Option Addr) (n c : Nat) (os : List Order) (w : World) (hs1 : SliceOf w 3 Node.cells A1 n1 c1 ns) (hs2 : SliceOf w 5 Pipe.cells A2 n2 c2 ps) (hs : SliceOf w 4 Order.cells A n c os) : Calls Try.prog 30 #[.agg #[.slice A1 n1 c1, .slice A2 n2 c2], .slice A n c] w (Ret (.int .i64 (ordC n1 ns ps os)) w) := by
  have hm1 := hs1.max
  have hp1 := hs1.cap
  have hm := hs.max
  have hcap := hs.cap
  have HL := hide hs.len
  have hB := Row.new w 27 [.slice A1 n1 c1, .slice A2 n2 c2]
  have hx0 : Ext w (w.alloc (.cells #[.slice A1 n1 c1, .slice A2 n2 c2] 27)) := Ext.alloc _ _
  cases hN : netB ns ps
  · have HR := hide (show ordC n1 ns ps os = 1 by unfold ordC; rw [hN]; rfl)
    go_enter Try.func30, Try.ntmps30
    go_wp2_with fail
    refine (c_IsNetwork A1 A2 n1 c1 n2 c2 ns ps _ (hs1.ext hx0) (hs2.ext hx0)).mono ?_
    rw [hN]
    rintro e w1 ⟨rfl, hx1⟩
    go_wp2_with fail
    go_ret
    exact Ret.int HR.out (hx0.trans hx1)
  have HRy := hide (show ordersB n1 os = true → ordC n1 ns ps os = 0 by intro h; unfold ordC; rw [hN, h]; rfl)
  have HRn := hide (show ordersB n1 os = false → ordC n1 ns ps os = 3 by intro h; unfold ordC; rw [hN, h]; rfl)
  generalize ordC n1 ns ps os = Z at *
  go_enter Try.func30, Try.ntmps30
  go_wp2_with fail
  refine (c_IsNetwork A1 A2 n1 c1 n2 c2 ns ps _ (hs1.ext hx0) (hs2.ext hx0)).mono ?_
  rw [hN]
  rintro e w1 ⟨rfl, hx1⟩
  clear hN
  by_cases h40 : n ≤ 40
  case neg =>
    have HR := hide (HRn.out (orders_long HL.out h40))
    have h40' : (40 : Int) < n := by omega
    go_wp2_with fail
    go_ret
    exact Ret.int HR.out (hx0.trans hx1)
  go_wp2_with fail
  go_loopw [17] (fun i wr => ∃ k : Nat, k ≤ n ∧ i = .int .i64 k ∧ Hid (∀ (j : Nat) (o : Order), j < k → os[j]? = some o → orderB n1 o = true) ∧ Ext (w.alloc (.cells #[.slice A1 n1 c1, .slice A2 n2 c2] 27)) wr) (fun i _ => n - (intOf i).toNat)
  case atStart => exact ⟨0, Nat.zero_le _, rfl, hide (fun j o hj => absurd hj (by omega)), hx1⟩
  case round =>
    obtain ⟨k, hk, rfl, HK, hx⟩ := hrel
    clear hx1
    have hX := hx0.trans hx
    by_cases hlt : k < n
    · obtain ⟨b, off, o, rfl, hbb, hok, hc⟩ := (hs.ext hX).get hlt
      have j0 := hc 0 _ rfl
      have j1 := hc 1 _ rfl
      have j2 := hc 2 _ rfl
      have j3 := hc 3 _ rfl
      simp only [Nat.add_zero] at j0
      have HOK := hide hok
      clear hc hok
      have hO := Row.new wr 51 o.cells
      have hxo : Ext wr (wr.alloc (.cells o.cells.toArray 51)) := Ext.alloc _ _
      obtain ⟨W1, HW1⟩ : ∃ W1, Hid (wr.alloc (.cells #[.int .i64 o.shipper, .int .i64 o.node, .int .i64 o.amount, .int .i64 o.cls] 51) = W1) := ⟨_, hide rfl⟩
      have hO : Row W1 wr.heap.size 51 o.cells := by rw [← HW1.out]; exact hO
      have hxo : Ext wr W1 := by rw [← HW1.out]; exact hxo
      have o0 := (hO).cell 0
      have o1 := (hO).cell 1
      have o2 := (hO).cell 2
      have o3 := (hO).cell 3
      simp [Order.cells] at o0 o1 o2 o3
      have ol := (hO).lt
      have b0 := (hB.ext (hx.trans hxo)).cell 0
      have b1 := (hB.ext (hx.trans hxo)).cell 1
      simp at b0 b1
      have bl := (hB.ext (hx.trans hxo)).lt
      go_wp2_with fail
      rw [HW1.out]
      refine (c_isShipper _ _).mono ?_
      rintro e w' ⟨rfl, rfl⟩
      cases g1 : inB o.shipper 0 15
      · have HB := hide (HRn.out (orders_no HOK.out (by simp [orderB, *])))
        go_wp2_with fail
        go_ret
        exact Ret.int HB.out (hX.trans hxo)
      go_wp2_with fail
      refine (c_isNodeOf A1 A2 n1 c1 n2 c2 o.node _ (by omega)).mono ?_
      rintro e w2 ⟨rfl, hx2⟩
      have hO2 := hO.ext hx2
      clear o0 o1 o2 o3 ol b0 b1 bl hO
      have o0 := (hO2).cell 0
      have o1 := (hO2).cell 1
      have o2 := (hO2).cell 2
      have o3 := (hO2).cell 3
      simp [Order.cells] at o0 o1 o2 o3
      have ol := (hO2).lt
      have hX2 := (hX.trans hxo).trans hx2
      cases g2 : inB o.node 0 ((n1 : Int) - 1)
      · have HB := hide (HRn.out (orders_no HOK.out (by simp [orderB, *])))
        go_wp2_with fail
        go_ret
        exact Ret.int HB.out hX2
      cases g3 : inB o.amount (-30000) 30000
      · have HB := hide (HRn.out (orders_no HOK.out (by simp [orderB, *])))
        go_wp2_with (go_at_call 32; refine (c_within _ _ _ _).mono ?_; rintro e w' ⟨rfl, rfl⟩)
        go_ret
        exact Ret.int HB.out hX2
      cases g4 : inB o.cls 0 3
      · have HB := hide (HRn.out (orders_no HOK.out (by simp [orderB, *])))
        go_wp2_with (go_at_call 32; refine (c_within _ _ _ _).mono ?_; rintro e w' ⟨rfl, rfl⟩)
        go_ret
        exact Ret.int HB.out hX2
      · have HKN := hide (ord_next HK.out HOK.out (by simp [orderB, *]))
        go_wp2_with (go_at_call 32; refine (c_within _ _ _ _).mono ?_; rintro e w' ⟨rfl, rfl⟩)
        go_roundw
        case rel => exact ⟨k + 1, by omega, by go_num, HKN, hx.trans (hxo.trans hx2)⟩
        case measure => simp [intOf]; omega
    · obtain rfl : n = k := by omega
      have HR := hide (HRy.out (orders_yes HL.out h40 HK.out))
      go_wp2_with fail
      go_ret
      exact Ret.int HR.out hX
set_option maxHeartbeats 4000000 in
theorem c_l22List (A1 A2 : Option Addr) (n1 c1 n2 c2 : Nat) (A : Option Addr) (n c : Nat) (os : List Order) (w : World) (hs : SliceOf w 4 Order.cells A n c os) (hm1 : n1 ≤ 9223372036854775807) : Calls Try.prog 54 #[.agg #[.slice A1 n1 c1, .slice A2 n2 c2], .slice A n c] w (Ret (.bool (ordersB n1 os)) w) := by
  have hm := hs.max
  have hcap := hs.cap
  have HL := hide hs.len
  have hB := Row.new w 27 [.slice A1 n1 c1, .slice A2 n2 c2]
  have hx0 : Ext w (w.alloc (.cells #[.slice A1 n1 c1, .slice A2 n2 c2] 27)) := Ext.alloc _ _
  by_cases h40 : n ≤ 40
  case neg =>
    have HR := hide (orders_long (nn := n1) HL.out h40)
    have h40' : (40 : Int) < n := by omega
    go_enter Try.func54, Try.ntmps54
    go_wp2_with fail
    go_ret
    exact Ret.bool HR.out hx0
  have HRy := hide (show (∀ (j : Nat) (o : Order), j < n → os[j]? = some o → orderB n1 o = true) → ordersB n1 os = true from fun h => orders_yes HL.out h40 h)
  have HRn := hide (show ∀ (k : Nat) (o : Order), os[k]? = some o → orderB n1 o = false → ordersB n1 os = false from fun k o h1 h2 => orders_no h1 h2)
  generalize ordersB n1 os = Z at *
  go_enter Try.func54, Try.ntmps54
  go_wp2_with fail
  go_loopw [5] (fun i wr => ∃ k : Nat, k ≤ n ∧ i = .int .i64 k ∧ Hid (∀ (j : Nat) (o : Order), j < k → os[j]? = some o → orderB n1 o = true) ∧ Ext (w.alloc (.cells #[.slice A1 n1 c1, .slice A2 n2 c2] 27)) wr) (fun i _ => n - (intOf i).toNat)
  case atStart => exact ⟨0, Nat.zero_le _, rfl, hide (fun j o hj => absurd hj (by omega)), Ext.refl _⟩
  case round =>
    obtain ⟨k, hk, rfl, HK, hx⟩ := hrel
    have hX := hx0.trans hx
    by_cases hlt : k < n
    · obtain ⟨b, off, o, rfl, hbb, hok, hc⟩ := (hs.ext hX).get hlt
      have j0 := hc 0 _ rfl
      have j1 := hc 1 _ rfl
      have j2 := hc 2 _ rfl
      have j3 := hc 3 _ rfl
      simp only [Nat.add_zero] at j0
      have HOK := hide hok
      clear hc hok
      have hO := Row.new wr 51 o.cells
      have hxo : Ext wr (wr.alloc (.cells o.cells.toArray 51)) := Ext.alloc _ _
      obtain ⟨W1, HW1⟩ : ∃ W1, Hid (wr.alloc (.cells #[.int .i64 o.shipper, .int .i64 o.node, .int .i64 o.amount, .int .i64 o.cls] 51) = W1) := ⟨_, hide rfl⟩
      have hO : Row W1 wr.heap.size 51 o.cells := by rw [← HW1.out]; exact hO
      have hxo : Ext wr W1 := by rw [← HW1.out]; exact hxo
      have o0 := (hO).cell 0
      have o1 := (hO).cell 1
      have o2 := (hO).cell 2
      have o3 := (hO).cell 3
      simp [Order.cells] at o0 o1 o2 o3
      have ol := (hO).lt
      have b0 := (hB.ext (hx.trans hxo)).cell 0
      have b1 := (hB.ext (hx.trans hxo)).cell 1
      simp at b0 b1
      have bl := (hB.ext (hx.trans hxo)).lt
      go_wp2_with fail
      rw [HW1.out]
      refine (c_l20Shipper _ _).mono ?_
      rintro e w' ⟨rfl, rfl⟩
      cases g1 : inB o.shipper 0 15
      · have HB := hide (HRn.out _ _ HOK.out (by simp [orderB, *]))
        go_wp2_with fail
        go_ret
        exact Ret.bool HB.out (hX.trans hxo)
      go_wp2_with fail
      refine (c_l02Node A1 A2 n1 c1 n2 c2 o.node _ (by omega)).mono ?_
      rintro e w2 ⟨rfl, hx2⟩
      have hO2 := hO.ext hx2
      clear o0 o1 o2 o3 ol b0 b1 bl hO
      have o0 := (hO2).cell 0
      have o1 := (hO2).cell 1
      have o2 := (hO2).cell 2
      have o3 := (hO2).cell 3
      simp [Order.cells] at o0 o1 o2 o3
      have ol := (hO2).lt
      have hX2 := (hX.trans hxo).trans hx2
      cases g2 : inB o.node 0 ((n1 : Int) - 1)
      · have HB := hide (HRn.out _ _ HOK.out (by simp [orderB, *]))
        go_wp2_with fail
        go_ret
        exact Ret.bool HB.out hX2
      cases g3 : inB o.amount (-30000) 30000
      · have HB := hide (HRn.out _ _ HOK.out (by simp [orderB, *]))
        go_wp2_with (first | (go_at_call 56; refine (c_l01In _ _ _ _).mono ?_; rintro e w' ⟨rfl, rfl⟩) | (go_at_call 46; refine (c_l05Flow _ _).mono ?_; rintro e w' ⟨rfl, rfl⟩))
        go_ret
        exact Ret.bool HB.out hX2
      cases g4 : inB o.cls 0 3
      · have HB := hide (HRn.out _ _ HOK.out (by simp [orderB, *]))
        go_wp2_with (first | (go_at_call 56; refine (c_l01In _ _ _ _).mono ?_; rintro e w' ⟨rfl, rfl⟩) | (go_at_call 46; refine (c_l05Flow _ _).mono ?_; rintro e w' ⟨rfl, rfl⟩))
        go_ret
        exact Ret.bool HB.out hX2
      · have HKN := hide (ord_next HK.out HOK.out (by simp [orderB, *]))
        go_wp2_with (first | (go_at_call 56; refine (c_l01In _ _ _ _).mono ?_; rintro e w' ⟨rfl, rfl⟩) | (go_at_call 46; refine (c_l05Flow _ _).mono ?_; rintro e w' ⟨rfl, rfl⟩))
        go_roundw
        case rel => exact ⟨k + 1, by omega, by go_num, HKN, hx.trans (hxo.trans hx2)⟩
        case measure => simp [intOf]; omega
    · obtain rfl : n = k := by omega
      have HR := hide (HRy.out HK.out)
      go_wp2_with fail
      go_ret
      exact Ret.bool HR.out hX
set_option maxHeartbeats 1000000 in
theorem c_l22Code (A1 A2 : Option Addr) (n1 c1 n2 c2 : Nat) (ns : List Node) (ps : List Pipe) (A : Option Addr) (n c : Nat) (os : List Order) (w : World) (hs1 : SliceOf w 3 Node.cells A1 n1 c1 ns) (hs2 : SliceOf w 5 Pipe.cells A2 n2 c2 ps) (hs : SliceOf w 4 Order.cells A n c os) (hnm : ∀ x ∈ ns, x.name.size ≤ 1048576) : Calls Try.prog 37 #[.agg #[.slice A1 n1 c1, .slice A2 n2 c2], .slice A n c] w (Ret (.int .i64 (ordC n1 ns ps os)) w) := by
  have hm1 := hs1.max
  have hp1 := hs1.cap
  have hB := Row.new w 27 [.slice A1 n1 c1, .slice A2 n2 c2]
  have hx0 : Ext w (w.alloc (.cells #[.slice A1 n1 c1, .slice A2 n2 c2] 27)) := Ext.alloc _ _
  have HNM := hide hnm
  clear hnm
  cases hN : netB ns ps
  · have HR := hide (show ordC n1 ns ps os = 1 by unfold ordC; rw [hN]; rfl)
    go_enter Try.func37, Try.ntmps37
    go_wp2_with fail
    refine (c_specIsNetwork A1 A2 n1 c1 n2 c2 ns ps _ (hs1.ext hx0) (hs2.ext hx0) HNM.out).mono ?_
    rw [hN]
    rintro e w1 ⟨rfl, hx1⟩
    go_wp2_with fail
    go_ret
    exact Ret.int HR.out (hx0.trans hx1)
  have HRy := hide (show ordersB n1 os = true → ordC n1 ns ps os = 0 by intro h; unfold ordC; rw [hN, h]; rfl)
  have HRn := hide (show ordersB n1 os = false → ordC n1 ns ps os = 3 by intro h; unfold ordC; rw [hN, h]; rfl)
  generalize ordC n1 ns ps os = Z at *
  go_enter Try.func37, Try.ntmps37
  go_wp2_with fail
  refine (c_specIsNetwork A1 A2 n1 c1 n2 c2 ns ps _ (hs1.ext hx0) (hs2.ext hx0) HNM.out).mono ?_
  rw [hN]
  rintro e w1 ⟨rfl, hx1⟩
  have b0 := (hB.ext hx1).cell 0
  have b1 := (hB.ext hx1).cell 1
  simp at b0 b1
  have bl := (hB.ext hx1).lt
  go_wp2_with fail
  refine (c_l22List A1 A2 n1 c1 n2 c2 A n c os _ (hs.ext (hx0.trans hx1)) (by omega)).mono ?_
  cases ho : ordersB n1 os
  · have HR := hide (HRn.out ho)
    rintro e w2 ⟨rfl, hx2⟩
    go_wp2_with fail
    go_ret
    exact Ret.int HR.out (hx0.trans (hx1.trans hx2))
  · have HR := hide (HRy.out ho)
    rintro e w2 ⟨rfl, hx2⟩
    go_wp2_with fail
    go_ret
    exact Ret.int HR.out (hx0.trans (hx1.trans hx2))
/-- the code of a network, orders and readings -/
def allC (n1 : Int) (ns : List Node) (ps : List Pipe) (os : List Order) (rs : List Reading) : Int := if ordC n1 ns ps os = 0 then (if readsB n1 rs = true then 0 else 3) else ordC n1 ns ps os
set_option maxHeartbeats 1000000 in
theorem c_l28Code (A1 A2 : Option Addr) (n1 c1 n2 c2 : Nat) (ns : List Node) (ps : List Pipe) (A : Option Addr) (n c : Nat) (os : List Order) (w : World) (hs1 : SliceOf w 3 Node.cells A1 n1 c1 ns) (hs2 : SliceOf w 5 Pipe.cells A2 n2 c2 ps) (hs : SliceOf w 4 Order.cells A n c os) (B : Option Addr) (m d : Nat) (rs : List Reading) (hr : SliceOf w 2 Reading.cells B m d rs) (hnm : ∀ x ∈ ns, x.name.size ≤ 1048576) : Calls Try.prog 20 #[.agg #[.slice A1 n1 c1, .slice A2 n2 c2], .slice A n c, .slice B m d] w (Ret (.int .i64 (allC n1 ns ps os rs)) w) := by
  have hm1 := hs1.max
  have hp1 := hs1.cap
  have hB := Row.new w 27 [.slice A1 n1 c1, .slice A2 n2 c2]
  have hx0 : Ext w (w.alloc (.cells #[.slice A1 n1 c1, .slice A2 n2 c2] 27)) := Ext.alloc _ _
  have HNM := hide hnm
  clear hnm
  by_cases hC : ordC n1 ns ps os = 0
  · have HC := hide hC
    have HRy := hide (show readsB n1 rs = true → allC n1 ns ps os rs = 0 by intro h; unfold allC; rw [if_pos hC, if_pos h])
    have HRn := hide (show readsB n1 rs = false → allC n1 ns ps os rs = 3 by intro h; unfold allC; rw [if_pos hC, if_neg (by rw [h]; decide)])
    generalize allC n1 ns ps os rs = Z at *
    clear hC
    go_enter Try.func20, Try.ntmps20
    go_wp2_with fail
    refine (c_l22Code A1 A2 n1 c1 n2 c2 ns ps A n c os _ (hs1.ext hx0) (hs2.ext hx0) (hs.ext hx0) HNM.out).mono ?_
    rw [HC.out]
    rintro e w1 ⟨rfl, hx1⟩
    have b0 := (hB.ext hx1).cell 0
    have b1 := (hB.ext hx1).cell 1
    simp at b0 b1
    have bl := (hB.ext hx1).lt
    go_wp2_with fail
    refine (c_l28List A1 A2 n1 c1 n2 c2 B m d rs _ (by omega) (hr.ext (hx0.trans hx1))).mono ?_
    cases ho : readsB n1 rs
    · have HR := hide (HRn.out ho)
      rintro e w2 ⟨rfl, hx2⟩
      go_wp2_with fail
      go_ret
      exact Ret.int HR.out (hx0.trans (hx1.trans hx2))
    · have HR := hide (HRy.out ho)
      rintro e w2 ⟨rfl, hx2⟩
      go_wp2_with fail
      go_ret
      exact Ret.int HR.out (hx0.trans (hx1.trans hx2))
  · have HR := hide (show allC n1 ns ps os rs = ordC n1 ns ps os by unfold allC; rw [if_neg hC])
    rw [HR.out]
    have hb : (ordC n1 ns ps os == 0) = false := by rw [beq_eq_false_iff_ne]; exact hC
    clear hC
    go_enter Try.func20, Try.ntmps20
    go_wp2_with fail
    refine (c_l22Code A1 A2 n1 c1 n2 c2 ns ps A n c os _ (hs1.ext hx0) (hs2.ext hx0) (hs.ext hx0) HNM.out).mono ?_
    rintro e w1 ⟨rfl, hx1⟩
    generalize ordC n1 ns ps os = Z at *
    go_wp2_with fail
    go_ret
    exact Ret.int rfl (hx0.trans hx1)
end Go.Proofs.Ytegkeeeohileiaa
