/-
  Allocating, of the reference: all readings. Orders: validity, of the program and of the reference. Orders and readings together: validity, of the program.
-/
import Derived.Test.YtpgbmhpddgjccaaGreatSa29
import Derived.Test.YtpgbmhpddgjccaaGreatSa26
import Derived.Test.YtpgbmhpddgjccaaGreatSa07
import Derived.Test.YtpgbmhpddgjccaaGreatSa15
namespace Go.Proofs.YtpgbmhpddgjccaaGreat
open Go.RowKit
theorem drop_at {α : Type} {l : List α} {k : Nat} {x : α} (h : l[k]? = some x) : l.drop k = x :: l.drop (k + 1) := by
  obtain ⟨hk, rfl⟩ := List.getElem?_eq_some_iff.1 h
  exact List.drop_eq_getElem_cons hk
theorem ShSt.new6 {w wr wr' : World} {v6 v7 v' : Value} {o o' r : List Int} (h : ShSt w wr v6 v7 o r) (hx : Ext wr wr') (ho : OwnL wr' wr.heap.size 2 1 intC v' o') : ShSt w wr' v' v7 o' r :=
  ⟨ho.lowG h.ext.size, h.o7.ext hx, fun k hk h2 => by have h3 := ho.block_le hk; have h4 := (h.o7.ltG h2).2; omega, h.ext.trans hx⟩
/-- readings that are allocated: small and not 0 -/
def Rdg (rs : List Reading) : Prop := ∀ x ∈ rs, (-30000 ≤ x.amount ∧ x.amount ≤ 30000) ∧ x.amount ≠ 0
/-- what the orders get, and the places of the unallocated readings -/
def RetAl (os : List Order) (rs : List Reading) (w : World) (e : Ending) (w' : World) : Prop :=
  ∃ v1 v2 g, e = .returned (.tuple #[v1, v2]) ∧ ShSt w w' v1 v2 g (unalL os 0 rs) ∧ Hid (Alloc os (List.replicate os.length 0) rs g ∧ Bd 10000000 g ∧ g.length = os.length)
set_option maxHeartbeats 1000000 in
theorem c_l28Allocate (A : Option Addr) (n c : Nat) (os : List Order) (B : Option Addr) (m d : Nat) (rs : List Reading) (w : World) (hs : SliceOf w 4 Order.cells A n c os) (hr : SliceOf w 2 Reading.cells B m d rs) (hn : n ≤ 40) (hm : m ≤ 48) (ha : Amt os) (hrd : Rdg rs) :
    Calls Tryz.prog 193 #[.slice A n c, .slice B m d] w (RetAl os rs w) := by
  have HL := hide hs.len
  have HM := hide hr.len
  have HA := hide ha
  have HR := hide hrd
  clear ha hrd
  have hmk := fun W => run_make_flat (P := Tryz.prog) 24 2 _ _ 1 8 Tryz.underlying24 int_info (f := intC) 0 rfl rfl rfl (by omega) n (by omega) (by omega) W
  have hS0 : ShSt w ((w.alloc (.cells ((List.replicate n (0 : Int)).flatMap intC).toArray 2)).alloc (.cells #[] 2)) (.slice (some ⟨w.heap.size, 0, none⟩) n n) (.slice (some ⟨w.heap.size + 1, 0, none⟩) 0 0) (List.replicate n 0) (unalL os 0 (rs.take 0)) :=
    ⟨(own_rep w w.heap.size _ n rfl (Nat.le_refl _) (by omega)).ext (Ext.alloc _ _), own_new _ w.heap.size _ _ _ _ (by simp) (by omega), fun k hk h2 => by simp [Value.ownBlock] at hk h2; omega, (Ext.alloc _ _).and_alloc _⟩
  have hb0 : Bd 0 (List.replicate n 0) := fun y hy => by have := List.eq_of_mem_replicate hy; omega
  go_enter Tryz.func193, Tryz.ntmps193
  go_wp2_with fail
  clear hmk
  go_loopw [6, 7, 8] (fun u v i wr => ∃ (k : Nat) (g : List Int), k ≤ m ∧ i = .int .i64 k ∧ g.length = n ∧ ShSt w wr u v g (unalL os 0 (rs.take k)) ∧ Hid (∀ g', Alloc os g (rs.drop k) g' → Alloc os (List.replicate os.length 0) rs g') ∧ Hid (Bd (60000 * (k : Int)) g)) (fun _ _ i _ => m - (intOf i).toNat)
  case atStart => exact ⟨0, List.replicate n 0, Nat.zero_le _, rfl, by simp, hS0, hide (fun g' h => by rw [← HL.out]; exact h), hide (by simpa using hb0)⟩
  case round =>
    clear hS0 hb0
    obtain ⟨k, g, hk, rfl, hgl, hD, HAl, HBd⟩ := hrel
    have hx := hD.ext
    have hwz := hx.size
    by_cases hlt : k < m
    · obtain ⟨b, off, x, rfl, hbb, hxk, hc⟩ := hr.get hlt
      have j0w := hc 0 _ rfl
      have j1w := hc 1 _ rfl
      simp only [Nat.add_zero] at j0w
      have HX := hide hxk
      have hxb := HR.out x (List.mem_of_getElem? hxk)
      clear hc hxk
      have j0 := (hx.cell _ _ hbb).trans j0w
      have j1 := (hx.cell _ _ hbb).trans j1w
      have hbw : b < wr.heap.size := by omega
      go_wp2_with fail
      refine (c_l28Weights A n c os x _ (hs.ext hx) (by omega) HA.out).mono ?_
      rintro e w2 ⟨v9, ws, rfl, ho9, hwse, hx2⟩
      obtain rfl := hwse.out
      obtain ⟨A9, c9, rfl, hs9⟩ := ho9.sl intC_len (by omega)
      have hw9l : (wts os x).length = n := by rw [wts, List.length_map, ← HL.out]
      have hwb : ∀ z ∈ wts os x, 0 ≤ z ∧ z ≤ 30000 := fun z hz => by
        obtain ⟨o, ho, rfl⟩ := List.mem_map.1 hz
        exact wt_bd (HA.out o ho)
      have hallB : allB (wts os x) (-1000000000) 1000000000 = true := List.all_eq_true.2 (fun z hz => inB_true.2 (by have := hwb z hz; omega))
      have HS0 := hide (sumZ_nonneg (fun z hz => (hwb z hz).1))
      have HU := hide (unal_take (os := os) HX.out)
      have HDr := hide (drop_at HX.out)
      have HSk := hide (fun (g' : List Int) (hz : sumZ (wts os x) = 0) (h : Alloc os g (rs.drop (k + 1)) g') => Alloc.skip hz h)
      have HAd := hide (fun (g' sh : List Int) (hz : 0 < sumZ (wts os x)) (hd : Shares (absZ x.amount) (wts os x) sh) (h : Alloc os (addS (sgn x) g sh) (rs.drop (k + 1)) g') => Alloc.add hz hd h)
      generalize wts os x = ws at *
      rw [hw9l] at hs9
      have HWB := hide hwb
      have hD2 := hD.more hx2
      have j2 := (hx2.cell _ _ hbw).trans j1
      clear hwb ho9 hD j0 j1
      go_wp2_with fail
      refine (c_l01Sum A9 n c9 ws _ hs9 hallB (by omega)).mono ?_
      rw [sumI_eq]
      obtain ⟨sm, hsm⟩ : ∃ sm, sumZ ws = sm := ⟨_, rfl⟩
      have HSM := hide hsm
      rw [hsm]
      rw [hsm] at HS0 HU
      rintro e w' ⟨rfl, rfl⟩
      clear hsm hallB
      by_cases h0 : sm = 0
      · have hb0 : (sm == 0) = true := by rw [beq_iff_eq]; exact h0
        rw [h0] at HU HSM
        have hul := unal_len os 0 (rs.take k)
        rw [List.length_take] at hul
        have HUL := hide (show (unalL os 0 (rs.take k)).length ≤ k by omega)
        rw [if_pos rfl] at HU
        clear hul h0
        go_wp2_with (at_builtin; go_must (refine wpList_append_where rfl _ _ 24 rfl w.heap.size 2 _ 1 8 Tryz.underlying24 int_info rfl (by decide) intC intC_len int_one' _ (unalL os 0 (rs.take k)) rfl (hD2.o7.ext (Ext.alloc _ _)) w2.heap.size 0 1 1 [(k : Int)] rfl (new_int w2 _ _ rfl) (by have := HUL.out; omega) (by omega) (by have := hD2.ext.size; simp; omega) ?_))
        intro v' w4 ho4 hg4 hb4
        have hD4 := hD2.app7 (Ext.alloc _ _) ho4 hg4 (by simpa using hb4)
        rw [← HU.out] at hD4
        clear hD2 ho4 hg4 hb4
        go_wp2_with fail
        go_roundw
        case rel => exact ⟨k + 1, g, by omega, by go_num, hgl, hD4, hide (fun g' h => HAl.out g' (by rw [HDr.out]; exact HSk.out g' HSM.out h)), hide (HBd.out.mono (by omega))⟩
        case measure => simp [intOf]; omega
      · have hb0 : (sm == 0) = false := by rw [beq_eq_false_iff_ne]; exact h0
        have h0p : 0 < sm := by have := HS0.out; omega
        rw [if_neg h0, List.append_nil] at HU
        by_cases hneg : x.amount < 0
        · have e1 : IntKind.i64.wrap ((-1) * x.amount) = -x.amount := by rw [show (-1) * x.amount = -x.amount by omega]; exact IntWalk.i64_in _ (by omega)
          have hsg : sgn x = -1 := by unfold sgn; rw [if_pos hneg]
          have hab : absZ x.amount = -x.amount := by unfold absZ; rw [if_pos hneg]
          have HSG := hide hsg
          have HAB := hide hab
          clear hsg hab
          obtain ⟨A6, c6, rfl, hs6⟩ := hD2.o6.sl intC_len (by omega)
          rw [hgl] at hs6
          go_wp2_with fail
          refine (c_l01Shares A9 n c9 ws (-x.amount) w2 hs9 ⟨by omega, HWB.out, by omega, by rw [HSM.out]; exact h0p⟩).mono ?_
          rintro e w3 ⟨v3, sh, rfl, ho3, HSH, hx3⟩
          obtain ⟨A3, c3, rfl, hs3⟩ := ho3.sl intC_len (by omega)
          have hshl : sh.length = n := by rw [HSH.out.1.len, hw9l]
          rw [hshl] at hs3
          go_wp2_with fail
          refine (c_l05Add _ n _ g A3 n c3 sh (-1) w3 (hs6.ext hx3) hs3 rfl (by omega) (by decide) (HBd.out.mono (by omega)) (fun y hy => by have := HSH.out.2 y hy; omega)).mono ?_
          rintro e w4 ⟨v4, g4, rfl, ho4, HG4, hx4⟩
          have hD4 := (hD2.more hx3).new6 hx4 ho4
          have h4l : g4.length = n := by rw [HG4.out]; rw [addS_len (by omega)]; exact hgl
          have HB4 := hide (show Bd (60000 * ((k + 1 : Nat) : Int)) g4 by rw [HG4.out]; exact (addS_bd (by decide) HBd.out (K := 60000) (fun y hy => by have := HSH.out.2 y hy; omega)).mono (by omega))
          have HA4 := hide (fun (g' : List Int) (h : Alloc os g4 (rs.drop (k + 1)) g') => HAl.out g' (by rw [HDr.out]; exact HAd.out g' sh (by rw [HSM.out]; exact h0p) (by rw [HAB.out]; exact HSH.out.1) (by rw [HSG.out, ← HG4.out]; exact h)))
          rw [← HU.out] at hD4
          clear hD2 ho4 ho3 hs3 hs6
          go_wp2_with fail
          go_roundw
          case rel => exact ⟨k + 1, g4, by omega, by go_num, h4l, hD4, HA4, HB4⟩
          case measure => simp [intOf]; omega
        · have e1 : IntKind.i64.wrap ((1) * x.amount) = x.amount := by rw [show (1) * x.amount = x.amount by omega]; exact IntWalk.i64_in _ (by omega)
          have hsg : sgn x = 1 := by unfold sgn; rw [if_neg hneg]
          have hab : absZ x.amount = x.amount := by unfold absZ; rw [if_neg hneg]
          have HSG := hide hsg
          have HAB := hide hab
          clear hsg hab
          obtain ⟨A6, c6, rfl, hs6⟩ := hD2.o6.sl intC_len (by omega)
          rw [hgl] at hs6
          go_wp2_with fail
          refine (c_l01Shares A9 n c9 ws (x.amount) w2 hs9 ⟨by omega, HWB.out, by omega, by rw [HSM.out]; exact h0p⟩).mono ?_
          rintro e w3 ⟨v3, sh, rfl, ho3, HSH, hx3⟩
          obtain ⟨A3, c3, rfl, hs3⟩ := ho3.sl intC_len (by omega)
          have hshl : sh.length = n := by rw [HSH.out.1.len, hw9l]
          rw [hshl] at hs3
          go_wp2_with fail
          refine (c_l05Add _ n _ g A3 n c3 sh (1) w3 (hs6.ext hx3) hs3 rfl (by omega) (by decide) (HBd.out.mono (by omega)) (fun y hy => by have := HSH.out.2 y hy; omega)).mono ?_
          rintro e w4 ⟨v4, g4, rfl, ho4, HG4, hx4⟩
          have hD4 := (hD2.more hx3).new6 hx4 ho4
          have h4l : g4.length = n := by rw [HG4.out]; rw [addS_len (by omega)]; exact hgl
          have HB4 := hide (show Bd (60000 * ((k + 1 : Nat) : Int)) g4 by rw [HG4.out]; exact (addS_bd (by decide) HBd.out (K := 60000) (fun y hy => by have := HSH.out.2 y hy; omega)).mono (by omega))
          have HA4 := hide (fun (g' : List Int) (h : Alloc os g4 (rs.drop (k + 1)) g') => HAl.out g' (by rw [HDr.out]; exact HAd.out g' sh (by rw [HSM.out]; exact h0p) (by rw [HAB.out]; exact HSH.out.1) (by rw [HSG.out, ← HG4.out]; exact h)))
          rw [← HU.out] at hD4
          clear hD2 ho4 ho3 hs3 hs6
          go_wp2_with fail
          go_roundw
          case rel => exact ⟨k + 1, g4, by omega, by go_num, h4l, hD4, HA4, HB4⟩
          case measure => simp [intOf]; omega
    · obtain rfl : m = k := by omega
      have HT := hide (show rs.take m = rs by rw [HM.out, List.take_length])
      have HDr := hide (show rs.drop m = [] by rw [HM.out, List.drop_length])
      rw [HT.out] at hD
      have HF := hide (⟨HAl.out g (by rw [HDr.out]; exact Alloc.nil g), HBd.out.mono (by omega), by rw [← HL.out]; exact hgl⟩ : Alloc os (List.replicate os.length 0) rs g ∧ Bd 10000000 g ∧ g.length = os.length)
      go_wp2_with fail
      go_ret2
      exact ⟨_, _, g, rfl, hD, HF⟩
end Go.Proofs.YtpgbmhpddgjccaaGreat

namespace Go.Proofs.YtpgbmhpddgjccaaGreat
open Go.RowKit
def orderB (nn : Int) (o : Order) : Bool := inB o.shipper 0 15 && inB o.node 0 (nn - 1) && inB o.amount (-30000) 30000 && inB o.cls 0 3
def ordersB (nn : Int) (os : List Order) : Bool := decide (os.length ≤ 40) && os.all (orderB nn)
/-- the code of a network and orders -/
def ordC (n1 : Int) (ns : List Node) (ps : List Pipe) (os : List Order) : Int := if netB ns ps = true then (if ordersB n1 os = true then 0 else 3) else 1
theorem orders_no {nn : Int} {os : List Order} {k : Nat} {o : Order} (h : os[k]? = some o) (hb : orderB nn o = false) : ordersB nn os = false := by
  unfold ordersB
  have : os.all (orderB nn) = false := by rw [List.all_eq_false]; exact ⟨o, List.mem_of_getElem? h, by simp [hb]⟩
  rw [this, Bool.and_false]
theorem orders_yes {nn : Int} {os : List Order} {n : Nat} (hn : n = os.length) (h40 : n ≤ 40) (h : ∀ (j : Nat) (o : Order), j < n → os[j]? = some o → orderB nn o = true) : ordersB nn os = true := by
  unfold ordersB
  rw [Bool.and_eq_true, decide_eq_true_eq, List.all_eq_true]
  refine ⟨by omega, fun o ho => ?_⟩
  obtain ⟨j, hj⟩ := List.getElem?_of_mem ho
  exact h j o (by rw [hn]; exact (List.getElem?_eq_some_iff.1 hj).1) hj
theorem orders_long {nn : Int} {os : List Order} {n : Nat} (hn : n = os.length) (h : ¬ n ≤ 40) : ordersB nn os = false := by
  unfold ordersB; rw [decide_eq_false (by omega)]; rfl
theorem ord_next {nn : Int} {os : List Order} {k : Nat} {o : Order} (h : ∀ (j : Nat) (o : Order), j < k → os[j]? = some o → orderB nn o = true) (hk : os[k]? = some o) (ho : orderB nn o = true) : ∀ (j : Nat) (o : Order), j < k + 1 → os[j]? = some o → orderB nn o = true := by
  intro j o' hj ho'
  rcases Nat.lt_or_ge j k with h1 | h1
  · exact h j o' h1 ho'
  · obtain rfl : j = k := by omega
    rw [hk] at ho'
    obtain rfl := Option.some.inj ho'
    exact ho
theorem c_isShipperO (z : Int) (w : World) : Calls Tryz.prog 232 #[.int .i64 z] w fun e w' => e = .returned (.bool (inB z 0 15)) ∧ w = w' := by
  go_enter Tryz.func232, Tryz.ntmps232
  go_wp2_with (go_at_call 152; refine (c_within _ _ _ _).mono ?_; rintro e w' ⟨rfl, rfl⟩)
  go_ret
  exact ⟨rfl, rfl⟩
theorem c_l20Shipper (z : Int) (w : World) : Calls Tryz.prog 269 #[.int .i64 z] w fun e w' => e = .returned (.bool (inB z 0 15)) ∧ w = w' := by
  go_enter Tryz.func269, Tryz.ntmps269
  go_wp2_with (go_at_call 189; refine (c_l01In _ _ _ _).mono ?_; rintro e w' ⟨rfl, rfl⟩)
  go_ret
  exact ⟨rfl, rfl⟩
set_option maxHeartbeats 4000000 in
theorem c_checkOrders (A1 A2 : Option Addr) (n1 c1 n2 c2 : Nat) (ns : List Node) (ps : List Pipe) (A : Option Addr) (n c : Nat) (os : List Order) (w : World) (hs1 : SliceOf w 3 Node.cells A1 n1 c1 ns) (hs2 : SliceOf w 5 Pipe.cells A2 n2 c2 ps) (hs : SliceOf w 4 Order.cells A n c os) : Calls Tryz.prog 182 #[.agg #[.slice A1 n1 c1, .slice A2 n2 c2], .slice A n c] w (Ret (.int .i64 (ordC n1 ns ps os)) w) := by
  have hm1 := hs1.max
  have hp1 := hs1.cap
  have hm := hs.max
  have hcap := hs.cap
  have HL := hide hs.len
  have hB := Row.new w 45 [.slice A1 n1 c1, .slice A2 n2 c2]
  have hx0 : Ext w (w.alloc (.cells #[.slice A1 n1 c1, .slice A2 n2 c2] 45)) := Ext.alloc _ _
  cases hN : netB ns ps
  · have HR := hide (show ordC n1 ns ps os = 1 by unfold ordC; rw [hN]; rfl)
    go_enter Tryz.func182, Tryz.ntmps182
    go_wp2_with fail
    refine (c_IsNetwork A1 A2 n1 c1 n2 c2 ns ps _ (hs1.ext hx0) (hs2.ext hx0)).mono ?_
    rw [hN]
    rintro e w1 ⟨rfl, hx1⟩
    go_wp2_with fail
    go_ret
    exact Ret.int HR.out (hx0.trans hx1)
  have HRy := hide (show ordersB n1 os = true → ordC n1 ns ps os = 0 by intro h; unfold ordC; rw [hN, h]; rfl)
  have HRn := hide (show ordersB n1 os = false → ordC n1 ns ps os = 3 by intro h; unfold ordC; rw [hN, h]; rfl)
  generalize ordC n1 ns ps os = Z at *
  go_enter Tryz.func182, Tryz.ntmps182
  go_wp2_with fail
  refine (c_IsNetwork A1 A2 n1 c1 n2 c2 ns ps _ (hs1.ext hx0) (hs2.ext hx0)).mono ?_
  rw [hN]
  rintro e w1 ⟨rfl, hx1⟩
  clear hN
  by_cases h40 : n ≤ 40
  case neg =>
    have HR := hide (HRn.out (orders_long HL.out h40))
    have h40' : (40 : Int) < n := by omega
    go_wp2_with fail
    go_ret
    exact Ret.int HR.out (hx0.trans hx1)
  go_wp2_with fail
  go_loopw [17] (fun i wr => ∃ k : Nat, k ≤ n ∧ i = .int .i64 k ∧ Hid (∀ (j : Nat) (o : Order), j < k → os[j]? = some o → orderB n1 o = true) ∧ Ext (w.alloc (.cells #[.slice A1 n1 c1, .slice A2 n2 c2] 45)) wr) (fun i _ => n - (intOf i).toNat)
  case atStart => exact ⟨0, Nat.zero_le _, rfl, hide (fun j o hj => absurd hj (by omega)), hx1⟩
  case round =>
    obtain ⟨k, hk, rfl, HK, hx⟩ := hrel
    clear hx1
    have hX := hx0.trans hx
    by_cases hlt : k < n
    · obtain ⟨b, off, o, rfl, hbb, hok, hc⟩ := (hs.ext hX).get hlt
      have j0 := hc 0 _ rfl
      have j1 := hc 1 _ rfl
      have j2 := hc 2 _ rfl
      have j3 := hc 3 _ rfl
      simp only [Nat.add_zero] at j0
      have HOK := hide hok
      clear hc hok
      have hO := Row.new wr 193 o.cells
      have hxo : Ext wr (wr.alloc (.cells o.cells.toArray 193)) := Ext.alloc _ _
      obtain ⟨W1, HW1⟩ : ∃ W1, Hid (wr.alloc (.cells #[.int .i64 o.shipper, .int .i64 o.node, .int .i64 o.amount, .int .i64 o.cls] 193) = W1) := ⟨_, hide rfl⟩
      have hO : Row W1 wr.heap.size 193 o.cells := by rw [← HW1.out]; exact hO
      have hxo : Ext wr W1 := by rw [← HW1.out]; exact hxo
      have o0 := (hO).cell 0
      have o1 := (hO).cell 1
      have o2 := (hO).cell 2
      have o3 := (hO).cell 3
      simp [Order.cells] at o0 o1 o2 o3
      have ol := (hO).lt
      have b0 := (hB.ext (hx.trans hxo)).cell 0
      have b1 := (hB.ext (hx.trans hxo)).cell 1
      simp at b0 b1
      have bl := (hB.ext (hx.trans hxo)).lt
      go_wp2_with fail
      rw [HW1.out]
      refine (c_isShipperO _ _).mono ?_
      rintro e w' ⟨rfl, rfl⟩
      cases g1 : inB o.shipper 0 15
      · have HB := hide (HRn.out (orders_no HOK.out (by simp [orderB, *])))
        go_wp2_with fail
        go_ret
        exact Ret.int HB.out (hX.trans hxo)
      go_wp2_with fail
      refine (c_isNodeOf A1 A2 n1 c1 n2 c2 o.node _ (by omega)).mono ?_
      rintro e w2 ⟨rfl, hx2⟩
      have hO2 := hO.ext hx2
      clear o0 o1 o2 o3 ol b0 b1 bl hO
      have o0 := (hO2).cell 0
      have o1 := (hO2).cell 1
      have o2 := (hO2).cell 2
      have o3 := (hO2).cell 3
      simp [Order.cells] at o0 o1 o2 o3
      have ol := (hO2).lt
      have hX2 := (hX.trans hxo).trans hx2
      cases g2 : inB o.node 0 ((n1 : Int) - 1)
      · have HB := hide (HRn.out (orders_no HOK.out (by simp [orderB, *])))
        go_wp2_with fail
        go_ret
        exact Ret.int HB.out hX2
      cases g3 : inB o.amount (-30000) 30000
      · have HB := hide (HRn.out (orders_no HOK.out (by simp [orderB, *])))
        go_wp2_with (go_at_call 152; refine (c_within _ _ _ _).mono ?_; rintro e w' ⟨rfl, rfl⟩)
        go_ret
        exact Ret.int HB.out hX2
      cases g4 : inB o.cls 0 3
      · have HB := hide (HRn.out (orders_no HOK.out (by simp [orderB, *])))
        go_wp2_with (go_at_call 152; refine (c_within _ _ _ _).mono ?_; rintro e w' ⟨rfl, rfl⟩)
        go_ret
        exact Ret.int HB.out hX2
      · have HKN := hide (ord_next HK.out HOK.out (by simp [orderB, *]))
        go_wp2_with (go_at_call 152; refine (c_within _ _ _ _).mono ?_; rintro e w' ⟨rfl, rfl⟩)
        go_roundw
        case rel => exact ⟨k + 1, by omega, by go_num, HKN, hx.trans (hxo.trans hx2)⟩
        case measure => simp [intOf]; omega
    · obtain rfl : n = k := by omega
      have HR := hide (HRy.out (orders_yes HL.out h40 HK.out))
      go_wp2_with fail
      go_ret
      exact Ret.int HR.out hX
set_option maxHeartbeats 4000000 in
theorem c_l22List (A1 A2 : Option Addr) (n1 c1 n2 c2 : Nat) (A : Option Addr) (n c : Nat) (os : List Order) (w : World) (hs : SliceOf w 4 Order.cells A n c os) (hm1 : n1 ≤ 9223372036854775807) : Calls Tryz.prog 231 #[.agg #[.slice A1 n1 c1, .slice A2 n2 c2], .slice A n c] w (Ret (.bool (ordersB n1 os)) w) := by
  have hm := hs.max
  have hcap := hs.cap
  have HL := hide hs.len
  have hB := Row.new w 45 [.slice A1 n1 c1, .slice A2 n2 c2]
  have hx0 : Ext w (w.alloc (.cells #[.slice A1 n1 c1, .slice A2 n2 c2] 45)) := Ext.alloc _ _
  by_cases h40 : n ≤ 40
  case neg =>
    have HR := hide (orders_long (nn := n1) HL.out h40)
    have h40' : (40 : Int) < n := by omega
    go_enter Tryz.func231, Tryz.ntmps231
    go_wp2_with fail
    go_ret
    exact Ret.bool HR.out hx0
  have HRy := hide (show (∀ (j : Nat) (o : Order), j < n → os[j]? = some o → orderB n1 o = true) → ordersB n1 os = true from fun h => orders_yes HL.out h40 h)
  have HRn := hide (show ∀ (k : Nat) (o : Order), os[k]? = some o → orderB n1 o = false → ordersB n1 os = false from fun k o h1 h2 => orders_no h1 h2)
  generalize ordersB n1 os = Z at *
  go_enter Tryz.func231, Tryz.ntmps231
  go_wp2_with fail
  go_loopw [5] (fun i wr => ∃ k : Nat, k ≤ n ∧ i = .int .i64 k ∧ Hid (∀ (j : Nat) (o : Order), j < k → os[j]? = some o → orderB n1 o = true) ∧ Ext (w.alloc (.cells #[.slice A1 n1 c1, .slice A2 n2 c2] 45)) wr) (fun i _ => n - (intOf i).toNat)
  case atStart => exact ⟨0, Nat.zero_le _, rfl, hide (fun j o hj => absurd hj (by omega)), Ext.refl _⟩
  case round =>
    obtain ⟨k, hk, rfl, HK, hx⟩ := hrel
    have hX := hx0.trans hx
    by_cases hlt : k < n
    · obtain ⟨b, off, o, rfl, hbb, hok, hc⟩ := (hs.ext hX).get hlt
      have j0 := hc 0 _ rfl
      have j1 := hc 1 _ rfl
      have j2 := hc 2 _ rfl
      have j3 := hc 3 _ rfl
      simp only [Nat.add_zero] at j0
      have HOK := hide hok
      clear hc hok
      have hO := Row.new wr 193 o.cells
      have hxo : Ext wr (wr.alloc (.cells o.cells.toArray 193)) := Ext.alloc _ _
      obtain ⟨W1, HW1⟩ : ∃ W1, Hid (wr.alloc (.cells #[.int .i64 o.shipper, .int .i64 o.node, .int .i64 o.amount, .int .i64 o.cls] 193) = W1) := ⟨_, hide rfl⟩
      have hO : Row W1 wr.heap.size 193 o.cells := by rw [← HW1.out]; exact hO
      have hxo : Ext wr W1 := by rw [← HW1.out]; exact hxo
      have o0 := (hO).cell 0
      have o1 := (hO).cell 1
      have o2 := (hO).cell 2
      have o3 := (hO).cell 3
      simp [Order.cells] at o0 o1 o2 o3
      have ol := (hO).lt
      have b0 := (hB.ext (hx.trans hxo)).cell 0
      have b1 := (hB.ext (hx.trans hxo)).cell 1
      simp at b0 b1
      have bl := (hB.ext (hx.trans hxo)).lt
      go_wp2_with fail
      rw [HW1.out]
      refine (c_l20Shipper _ _).mono ?_
      rintro e w' ⟨rfl, rfl⟩
      cases g1 : inB o.shipper 0 15
      · have HB := hide (HRn.out _ _ HOK.out (by simp [orderB, *]))
        go_wp2_with fail
        go_ret
        exact Ret.bool HB.out (hX.trans hxo)
      go_wp2_with fail
      refine (c_l02Node A1 A2 n1 c1 n2 c2 o.node _ (by omega)).mono ?_
      rintro e w2 ⟨rfl, hx2⟩
      have hO2 := hO.ext hx2
      clear o0 o1 o2 o3 ol b0 b1 bl hO
      have o0 := (hO2).cell 0
      have o1 := (hO2).cell 1
      have o2 := (hO2).cell 2
      have o3 := (hO2).cell 3
      simp [Order.cells] at o0 o1 o2 o3
      have ol := (hO2).lt
      have hX2 := (hX.trans hxo).trans hx2
      cases g2 : inB o.node 0 ((n1 : Int) - 1)
      · have HB := hide (HRn.out _ _ HOK.out (by simp [orderB, *]))
        go_wp2_with fail
        go_ret
        exact Ret.bool HB.out hX2
      cases g3 : inB o.amount (-30000) 30000
      · have HB := hide (HRn.out _ _ HOK.out (by simp [orderB, *]))
        go_wp2_with (first | (go_at_call 189; refine (c_l01In _ _ _ _).mono ?_; rintro e w' ⟨rfl, rfl⟩) | (go_at_call 192; refine (c_l05Flow _ _).mono ?_; rintro e w' ⟨rfl, rfl⟩))
        go_ret
        exact Ret.bool HB.out hX2
      cases g4 : inB o.cls 0 3
      · have HB := hide (HRn.out _ _ HOK.out (by simp [orderB, *]))
        go_wp2_with (first | (go_at_call 189; refine (c_l01In _ _ _ _).mono ?_; rintro e w' ⟨rfl, rfl⟩) | (go_at_call 192; refine (c_l05Flow _ _).mono ?_; rintro e w' ⟨rfl, rfl⟩))
        go_ret
        exact Ret.bool HB.out hX2
      · have HKN := hide (ord_next HK.out HOK.out (by simp [orderB, *]))
        go_wp2_with (first | (go_at_call 189; refine (c_l01In _ _ _ _).mono ?_; rintro e w' ⟨rfl, rfl⟩) | (go_at_call 192; refine (c_l05Flow _ _).mono ?_; rintro e w' ⟨rfl, rfl⟩))
        go_roundw
        case rel => exact ⟨k + 1, by omega, by go_num, HKN, hx.trans (hxo.trans hx2)⟩
        case measure => simp [intOf]; omega
    · obtain rfl : n = k := by omega
      have HR := hide (HRy.out HK.out)
      go_wp2_with fail
      go_ret
      exact Ret.bool HR.out hX
set_option maxHeartbeats 1000000 in
theorem c_l22Code (A1 A2 : Option Addr) (n1 c1 n2 c2 : Nat) (ns : List Node) (ps : List Pipe) (A : Option Addr) (n c : Nat) (os : List Order) (w : World) (hs1 : SliceOf w 3 Node.cells A1 n1 c1 ns) (hs2 : SliceOf w 5 Pipe.cells A2 n2 c2 ps) (hs : SliceOf w 4 Order.cells A n c os) (hnm : ∀ x ∈ ns, x.name.size ≤ 1048576) : Calls Tryz.prog 180 #[.agg #[.slice A1 n1 c1, .slice A2 n2 c2], .slice A n c] w (Ret (.int .i64 (ordC n1 ns ps os)) w) := by
  have hm1 := hs1.max
  have hp1 := hs1.cap
  have hB := Row.new w 45 [.slice A1 n1 c1, .slice A2 n2 c2]
  have hx0 : Ext w (w.alloc (.cells #[.slice A1 n1 c1, .slice A2 n2 c2] 45)) := Ext.alloc _ _
  have HNM := hide hnm
  clear hnm
  cases hN : netB ns ps
  · have HR := hide (show ordC n1 ns ps os = 1 by unfold ordC; rw [hN]; rfl)
    go_enter Tryz.func180, Tryz.ntmps180
    go_wp2_with fail
    refine (c_specIsNetwork A1 A2 n1 c1 n2 c2 ns ps _ (hs1.ext hx0) (hs2.ext hx0) HNM.out).mono ?_
    rw [hN]
    rintro e w1 ⟨rfl, hx1⟩
    go_wp2_with fail
    go_ret
    exact Ret.int HR.out (hx0.trans hx1)
  have HRy := hide (show ordersB n1 os = true → ordC n1 ns ps os = 0 by intro h; unfold ordC; rw [hN, h]; rfl)
  have HRn := hide (show ordersB n1 os = false → ordC n1 ns ps os = 3 by intro h; unfold ordC; rw [hN, h]; rfl)
  generalize ordC n1 ns ps os = Z at *
  go_enter Tryz.func180, Tryz.ntmps180
  go_wp2_with fail
  refine (c_specIsNetwork A1 A2 n1 c1 n2 c2 ns ps _ (hs1.ext hx0) (hs2.ext hx0) HNM.out).mono ?_
  rw [hN]
  rintro e w1 ⟨rfl, hx1⟩
  have b0 := (hB.ext hx1).cell 0
  have b1 := (hB.ext hx1).cell 1
  simp at b0 b1
  have bl := (hB.ext hx1).lt
  go_wp2_with fail
  refine (c_l22List A1 A2 n1 c1 n2 c2 A n c os _ (hs.ext (hx0.trans hx1)) (by omega)).mono ?_
  cases ho : ordersB n1 os
  · have HR := hide (HRn.out ho)
    rintro e w2 ⟨rfl, hx2⟩
    go_wp2_with fail
    go_ret
    exact Ret.int HR.out (hx0.trans (hx1.trans hx2))
  · have HR := hide (HRy.out ho)
    rintro e w2 ⟨rfl, hx2⟩
    go_wp2_with fail
    go_ret
    exact Ret.int HR.out (hx0.trans (hx1.trans hx2))
/-- the code of a network, orders and readings -/
def allC (n1 : Int) (ns : List Node) (ps : List Pipe) (os : List Order) (rs : List Reading) : Int := if ordC n1 ns ps os = 0 then (if readsB n1 rs = true then 0 else 3) else ordC n1 ns ps os
end Go.Proofs.YtpgbmhpddgjccaaGreat

namespace Go.Proofs.YtpgbmhpddgjccaaGreat
open Go.RowKit
set_option maxHeartbeats 4000000 in
theorem c_checkReads0 (A1 A2 : Option Addr) (n1 c1 n2 c2 : Nat) (ns : List Node) (ps : List Pipe) (O : Option Addr) (no co : Nat) (os : List Order) (A : Option Addr) (n c : Nat) (L : List Reading) (w : World) (hs1 : SliceOf w 3 Node.cells A1 n1 c1 ns) (hs2 : SliceOf w 5 Pipe.cells A2 n2 c2 ps) (hso : SliceOf w 4 Order.cells O no co os) (hs : SliceOf w 2 Reading.cells A n c L) (hN : ordC n1 ns ps os = 0) :
    Calls Tryz.prog 226 #[.agg #[.slice A1 n1 c1, .slice A2 n2 c2], .slice O no co, .slice A n c] w (Ret (.int .i64 (if readsB n1 L = true then 0 else 3)) w) := by
  have hm1 := hs1.max
  have hp1 := hs1.cap
  have hm := hs.max
  have hcap := hs.cap
  have HL := hide hs.len
  have HRy := hide (show readsB n1 L = true → (if readsB n1 L = true then (0 : Int) else 3) = 0 by intro h; rw [if_pos h])
  have HRn := hide (show readsB n1 L = false → (if readsB n1 L = true then (0 : Int) else 3) = 3 by intro h; rw [if_neg (by rw [h]; decide)])
  have HN := hide hN
  clear hN
  generalize (if readsB n1 L = true then (0 : Int) else 3) = Z at *
  by_cases h48 : n ≤ 48
  case neg =>
    have HR := hide (HRn.out (reads_long HL.out h48))
    have h2' : (48 : Int) < n := by omega
    go_enter Tryz.func226, Tryz.ntmps226
    go_wp2_with fail
    refine (c_checkOrders A1 A2 n1 c1 n2 c2 ns ps O no co os _ (hs1.ext (Ext.alloc _ _)) (hs2.ext (Ext.alloc _ _)) (hso.ext (Ext.alloc _ _))).mono ?_
    rw [HN.out]
    rintro e w1 ⟨rfl, hx1⟩
    go_wp2_with fail
    go_ret
    exact Ret.int HR.out hx1.box
  go_enter Tryz.func226, Tryz.ntmps226
  go_wp2_with fail
  refine (c_checkOrders A1 A2 n1 c1 n2 c2 ns ps O no co os _ (hs1.ext (Ext.alloc _ _)) (hs2.ext (Ext.alloc _ _)) (hso.ext (Ext.alloc _ _))).mono ?_
  rw [HN.out]
  rintro e w1 ⟨rfl, hx1⟩
  have hX1 : NetBox w A1 A2 n1 c1 n2 c2 w1 := ⟨hx1⟩
  clear hx1
  go_wp2_with fail
  go_loopw [21] (fun i wr => ∃ k : Nat, k ≤ n ∧ i = .int .i64 k ∧ Hid (∀ j, j < k → readOkB n1 L j = true) ∧ NetBox w A1 A2 n1 c1 n2 c2 wr) (fun i _ => n - (intOf i).toNat)
  case atStart => exact ⟨0, Nat.zero_le _, rfl, hide (fun j hj => absurd hj (by omega)), hX1⟩
  case round =>
    obtain ⟨k, hk, rfl, HK, hX⟩ := hrel
    clear hX1
    have hx := hX.ext.box
    obtain ⟨x0, x1, hz⟩ := hX.cell
    by_cases hlt : k < n
    · obtain ⟨bb, off, r, rfl, hbb, hxk, t⟩ := (hs.ext hx).get hlt
      have t0 := t 0 _ rfl
      have t1 := t 1 _ rfl
      simp only [Nat.add_zero] at t0
      clear t
      have HX := hide (readOk_at (nn := n1) hxk)
      clear hxk
      have hRI := ReadIn.new wr r
      rcases read_ways n1 r with ⟨h1, HB⟩ | hways
      · rw [HB] at HX
        have HR := hide (HRn.out (reads_no HL.out hlt HX.out))
        go_wp2_with fail
        refine (c_isNodeOf A1 A2 n1 c1 n2 c2 r.node _ (by omega)).mono ?_
        rw [h1]
        rintro e w2 ⟨rfl, hx2⟩
        go_wp2_with fail
        go_ret
        exact Ret.int HR.out ((hx.and_alloc _).trans hx2)
      have h1 : inB r.node 0 ((n1 : Int) - 1) = true := by rcases hways with ⟨h, _⟩ | ⟨h, _⟩ | ⟨h, _⟩ <;> exact h
      have HWY := hide hways
      clear hways
      go_wp2_with fail
      refine (c_isNodeOf A1 A2 n1 c1 n2 c2 r.node _ (by omega)).mono ?_
      rw [h1]
      rintro e w2 ⟨rfl, hx2⟩
      clear h1
      have hR2 := hRI.ext hx2
      obtain ⟨hl2, v0, v1⟩ := hR2
      have hX2 : NetBox w A1 A2 n1 c1 n2 c2 w2 := ⟨(hX.ext.and_alloc _).trans hx2⟩
      rcases HWY.out with ⟨_, h2, HB⟩ | ⟨_, h2, h3, HB⟩ | ⟨_, h2, h3, HB⟩
      · rw [HB] at HX
        have HR := hide (HRn.out (reads_no HL.out hlt HX.out))
        go_wp2_with (go_at_call 152; refine (c_within _ _ _ _).mono ?_; rintro e w' ⟨rfl, rfl⟩)
        go_ret
        exact Ret.int HR.out hX2.ext.box
      · rw [HB] at HX
        have HR := hide (HRn.out (reads_no HL.out hlt HX.out))
        go_wp2_with (go_at_call 152; refine (c_within _ _ _ _).mono ?_; rintro e w' ⟨rfl, rfl⟩)
        go_ret
        exact Ret.int HR.out hX2.ext.box
      · rw [HB] at HX
        have hs2k := (hs.ext hX2.ext.box).take (show k ≤ n by omega)
        go_wp2_with (go_at_call 152; refine (c_within _ _ _ _).mono ?_; rintro e w' ⟨rfl, rfl⟩)
        refine (c_ContainsRead _ k c (L.take k) r _ _ hs2k (hRI.ext hx2)).mono ?_
        cases hh : hasR (L.take k) r
        · rw [hh] at HX
          have HO := hide (all_upto HK.out HX.out)
          rintro e w3 ⟨rfl, hx3⟩
          go_wp2_with fail
          go_roundw
          case rel => exact ⟨k + 1, by omega, by go_num, HO, ⟨hX2.ext.trans hx3⟩⟩
          case measure => simp [intOf]; omega
        · rw [hh] at HX
          have HR := hide (HRn.out (reads_no HL.out hlt HX.out))
          rintro e w3 ⟨rfl, hx3⟩
          go_wp2_with fail
          go_ret
          exact Ret.int HR.out (hX2.ext.box.trans hx3)
    · have HR := hide (HRy.out (reads_yes HL.out h48 (fun j hj => HK.out j (by omega))))
      go_wp2_with fail
      go_ret
      exact Ret.int HR.out hx


theorem ordC_ok {n1 : Int} {ns : List Node} {ps : List Pipe} {os : List Order} (h : ordC n1 ns ps os = 0) : netB ns ps = true ∧ ordersB n1 os = true := by
  unfold ordC at h
  split at h
  · rename_i h1
    refine ⟨h1, ?_⟩
    split at h
    · assumption
    · cases h
  · cases h
theorem allC_ok {n1 : Int} {ns : List Node} {ps : List Pipe} {os : List Order} {rs : List Reading} (h : allC n1 ns ps os rs = 0) : netB ns ps = true ∧ ordersB n1 os = true ∧ readsB n1 rs = true := by
  unfold allC at h
  split at h
  · rename_i h1
    obtain ⟨a, b⟩ := ordC_ok h1
    refine ⟨a, b, ?_⟩
    split at h
    · assumption
    · cases h
  · rename_i h1; exact absurd h h1
theorem allC_none (n1 : Int) (ns : List Node) (ps : List Pipe) (rs : List Reading) : allC n1 ns ps [] rs = if netB ns ps = true then (if readsB n1 rs = true then 0 else 3) else 1 := by
  unfold allC ordC
  have h : ordersB n1 [] = true := rfl
  cases netB ns ps
  · rfl
  · rw [h]; rfl
set_option maxHeartbeats 1000000 in
theorem c_checkReadings (A1 A2 : Option Addr) (n1 c1 n2 c2 : Nat) (ns : List Node) (ps : List Pipe) (O : Option Addr) (no co : Nat) (os : List Order) (A : Option Addr) (n c : Nat) (rs : List Reading) (w : World) (hs1 : SliceOf w 3 Node.cells A1 n1 c1 ns) (hs2 : SliceOf w 5 Pipe.cells A2 n2 c2 ps) (hso : SliceOf w 4 Order.cells O no co os) (hs : SliceOf w 2 Reading.cells A n c rs) : Calls Tryz.prog 226 #[.agg #[.slice A1 n1 c1, .slice A2 n2 c2], .slice O no co, .slice A n c] w (Ret (.int .i64 (allC n1 ns ps os rs)) w) := by
  by_cases hC : ordC n1 ns ps os = 0
  · unfold allC
    rw [if_pos hC]
    exact c_checkReads0 A1 A2 n1 c1 n2 c2 ns ps O no co os A n c rs w hs1 hs2 hso hs hC
  · have HR := hide (show allC n1 ns ps os rs = ordC n1 ns ps os by unfold allC; rw [if_neg hC])
    rw [HR.out]
    have hb : (ordC n1 ns ps os == 0) = false := by rw [beq_eq_false_iff_ne]; exact hC
    have hx0 : Ext w (w.alloc (.cells #[.slice A1 n1 c1, .slice A2 n2 c2] 45)) := Ext.alloc _ _
    clear hC
    go_enter Tryz.func226, Tryz.ntmps226
    go_wp2_with fail
    refine (c_checkOrders A1 A2 n1 c1 n2 c2 ns ps O no co os _ (hs1.ext hx0) (hs2.ext hx0) (hso.ext hx0)).mono ?_
    rintro e w1 ⟨rfl, hx1⟩
    generalize ordC n1 ns ps os = Z at *
    go_wp2_with fail
    go_ret
    exact Ret.int rfl (hx0.trans hx1)
theorem slice_none {α : Type} (w : World) (size : Nat) (f : α → List Value) : SliceOf w size f none 0 0 [] := ⟨rfl, Nat.le_refl _, Nat.zero_le _, fun h => absurd h (Nat.lt_irrefl 0)⟩
end Go.Proofs.YtpgbmhpddgjccaaGreat
