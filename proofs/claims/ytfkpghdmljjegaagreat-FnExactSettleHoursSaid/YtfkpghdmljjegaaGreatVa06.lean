/-
  Lists of readings: validity, of the program and of the reference. Rooms: validity, of the program and of the reference. Rooms: validity, of the reference; the current hour, of both. The helpers of the laws on Node: copying, comparing, measuring, marking. The helpers of the laws on nodes, networks, lists of lists: measuring.
-/
import Derived.Test.YtfkpghdmljjegaaGreatVa05
import Derived.Test.YtfkpghdmljjegaaGreatVa01
namespace Go.Proofs.YtfkpghdmljjegaaGreat
open Go.RowKit
set_option maxHeartbeats 4000000 in
theorem c_AreReadings (A1 A2 : Option Addr) (n1 c1 n2 c2 : Nat) (ns : List Node) (ps : List Pipe) (A : Option Addr) (n c : Nat) (L : List Reading) (w : World) (hs1 : SliceOf w 3 Node.cells A1 n1 c1 ns) (hs2 : SliceOf w 5 Pipe.cells A2 n2 c2 ps) (hs : SliceOf w 2 Reading.cells A n c L) (hN : netB ns ps = true) :
    Calls Tryz.prog 227 #[.agg #[.slice A1 n1 c1, .slice A2 n2 c2], .slice none 0 0, .slice A n c] w (Ret (.int .i64 (if readsB n1 L = true then 0 else 3)) w) := by
  have hm1 := hs1.max
  have hp1 := hs1.cap
  have hm := hs.max
  have hcap := hs.cap
  have HL := hide hs.len
  have HRy := hide (show readsB n1 L = true → (if readsB n1 L = true then (0 : Int) else 3) = 0 by intro h; rw [if_pos h])
  have HRn := hide (show readsB n1 L = false → (if readsB n1 L = true then (0 : Int) else 3) = 3 by intro h; rw [if_neg (by rw [h]; decide)])
  have HN := hide hN
  clear hN
  generalize (if readsB n1 L = true then (0 : Int) else 3) = Z at *
  by_cases h48 : n ≤ 48
  case neg =>
    have HR := hide (HRn.out (reads_long HL.out h48))
    have h2' : (48 : Int) < n := by omega
    go_enter Tryz.func227, Tryz.ntmps227
    go_wp2_with fail
    refine (c_checkNone A1 A2 n1 c1 n2 c2 ns ps _ (hs1.ext (Ext.alloc _ _)) (hs2.ext (Ext.alloc _ _))).mono ?_
    rw [if_pos HN.out]
    rintro e w1 ⟨rfl, hx1⟩
    go_wp2_with fail
    go_ret
    exact Ret.int HR.out hx1.box
  go_enter Tryz.func227, Tryz.ntmps227
  go_wp2_with fail
  refine (c_checkNone A1 A2 n1 c1 n2 c2 ns ps _ (hs1.ext (Ext.alloc _ _)) (hs2.ext (Ext.alloc _ _))).mono ?_
  rw [if_pos HN.out]
  rintro e w1 ⟨rfl, hx1⟩
  have hX1 : NetBox w A1 A2 n1 c1 n2 c2 w1 := ⟨hx1⟩
  clear hx1
  go_wp2_with fail
  go_loopw [21] (fun i wr => ∃ k : Nat, k ≤ n ∧ i = .int .i64 k ∧ Hid (∀ j, j < k → readOkB n1 L j = true) ∧ NetBox w A1 A2 n1 c1 n2 c2 wr) (fun i _ => n - (intOf i).toNat)
  case atStart => exact ⟨0, Nat.zero_le _, rfl, hide (fun j hj => absurd hj (by omega)), hX1⟩
  case round =>
    obtain ⟨k, hk, rfl, HK, hX⟩ := hrel
    clear hX1
    have hx := hX.ext.box
    obtain ⟨x0, x1, hz⟩ := hX.cell
    by_cases hlt : k < n
    · obtain ⟨bb, off, r, rfl, hbb, hxk, t⟩ := (hs.ext hx).get hlt
      have t0 := t 0 _ rfl
      have t1 := t 1 _ rfl
      simp only [Nat.add_zero] at t0
      clear t
      have HX := hide (readOk_at (nn := n1) hxk)
      clear hxk
      have hRI := ReadIn.new wr r
      rcases read_ways n1 r with ⟨h1, HB⟩ | hways
      · rw [HB] at HX
        have HR := hide (HRn.out (reads_no HL.out hlt HX.out))
        go_wp2_with fail
        refine (c_isNodeOf A1 A2 n1 c1 n2 c2 r.node _ (by omega)).mono ?_
        rw [h1]
        rintro e w2 ⟨rfl, hx2⟩
        go_wp2_with fail
        go_ret
        exact Ret.int HR.out ((hx.and_alloc _).trans hx2)
      have h1 : inB r.node 0 ((n1 : Int) - 1) = true := by rcases hways with ⟨h, _⟩ | ⟨h, _⟩ | ⟨h, _⟩ <;> exact h
      have HWY := hide hways
      clear hways
      go_wp2_with fail
      refine (c_isNodeOf A1 A2 n1 c1 n2 c2 r.node _ (by omega)).mono ?_
      rw [h1]
      rintro e w2 ⟨rfl, hx2⟩
      clear h1
      have hR2 := hRI.ext hx2
      obtain ⟨hl2, v0, v1⟩ := hR2
      have hX2 : NetBox w A1 A2 n1 c1 n2 c2 w2 := ⟨(hX.ext.and_alloc _).trans hx2⟩
      rcases HWY.out with ⟨_, h2, HB⟩ | ⟨_, h2, h3, HB⟩ | ⟨_, h2, h3, HB⟩
      · rw [HB] at HX
        have HR := hide (HRn.out (reads_no HL.out hlt HX.out))
        go_wp2_with (go_at_call 164; refine (c_within _ _ _ _).mono ?_; rintro e w' ⟨rfl, rfl⟩)
        go_ret
        exact Ret.int HR.out hX2.ext.box
      · rw [HB] at HX
        have HR := hide (HRn.out (reads_no HL.out hlt HX.out))
        go_wp2_with (go_at_call 164; refine (c_within _ _ _ _).mono ?_; rintro e w' ⟨rfl, rfl⟩)
        go_ret
        exact Ret.int HR.out hX2.ext.box
      · rw [HB] at HX
        have hs2k := (hs.ext hX2.ext.box).take (show k ≤ n by omega)
        go_wp2_with (go_at_call 164; refine (c_within _ _ _ _).mono ?_; rintro e w' ⟨rfl, rfl⟩)
        refine (c_ContainsRead _ k c (L.take k) r _ _ hs2k (hRI.ext hx2)).mono ?_
        cases hh : hasR (L.take k) r
        · rw [hh] at HX
          have HO := hide (all_upto HK.out HX.out)
          rintro e w3 ⟨rfl, hx3⟩
          go_wp2_with fail
          go_roundw
          case rel => exact ⟨k + 1, by omega, by go_num, HO, ⟨hX2.ext.trans hx3⟩⟩
          case measure => simp [intOf]; omega
        · rw [hh] at HX
          have HR := hide (HRn.out (reads_no HL.out hlt HX.out))
          rintro e w3 ⟨rfl, hx3⟩
          go_wp2_with fail
          go_ret
          exact Ret.int HR.out (hX2.ext.box.trans hx3)
    · have HR := hide (HRy.out (reads_yes HL.out h48 (fun j hj => HK.out j (by omega))))
      go_wp2_with fail
      go_ret
      exact Ret.int HR.out hx

theorem hasR_true {L : List Reading} {k m : Nat} {r q : Reading} (hm : m < k) (hq : L[m]? = some q) (h : clash q r = true) : hasR (L.take k) r = true := by
  rw [hasR, List.any_eq_true]
  exact ⟨q, List.mem_of_getElem? (i := m) (by rw [List.getElem?_take, if_pos hm]; exact hq), h⟩
theorem hasR_false {L : List Reading} {k : Nat} {r : Reading} (h : ∀ (j : Nat) (q : Reading), j < k → L[j]? = some q → clash q r = false) : hasR (L.take k) r = false := by
  rw [hasR, List.any_eq_false]
  intro q hq
  obtain ⟨j, hj, hje⟩ := List.mem_iff_getElem.1 hq
  have h1 : (L.take k)[j]? = some q := by rw [List.getElem?_eq_getElem hj, hje]
  rw [List.getElem?_take] at h1
  split at h1
  · rename_i hjk
    rw [h j q hjk h1]; simp
  · cases h1
theorem c_l05Flow (z : Int) (w : World) :
    Calls Tryz.prog 206 #[.int .i64 z] w fun e w' => e = .returned (.bool (inB z (-30000) 30000)) ∧ w = w' := by
  go_enter Tryz.func206, Tryz.ntmps206
  go_wp2_with (go_at_call 169; refine (c_l01In _ _ _ _).mono ?_; rintro e w' ⟨rfl, rfl⟩)
  go_ret
  exact ⟨rfl, rfl⟩
theorem clash_ways (q r : Reading) : ((q.node == r.node) = false ∧ Hid (clash q r = false)) ∨ ((q.node == r.node) = true ∧ (decide (0 < q.amount) == decide (0 < r.amount)) = false ∧ Hid (clash q r = false)) ∨
    ((q.node == r.node) = true ∧ (decide (0 < q.amount) == decide (0 < r.amount)) = true ∧ Hid (clash q r = true)) := by
  unfold clash Hid
  cases (q.node == r.node) <;> cases (decide (0 < q.amount) == decide (0 < r.amount)) <;> simp
set_option maxHeartbeats 4000000 in
theorem c_l28List (A1 A2 : Option Addr) (n1 c1 n2 c2 : Nat) (A : Option Addr) (n c : Nat) (L : List Reading) (w : World) (hn1 : n1 ≤ 9223372036854775807) (hs : SliceOf w 2 Reading.cells A n c L) :
    Calls Tryz.prog 135 #[.agg #[.slice A1 n1 c1, .slice A2 n2 c2], .slice A n c] w (Ret (.bool (readsB n1 L)) w) := by
  have hm := hs.max
  have hcap := hs.cap
  have HL := hide hs.len
  by_cases h48 : n ≤ 48
  case neg =>
    have HR := hide (reads_long (nn := n1) HL.out h48)
    have h2' : (48 : Int) < n := by omega
    go_enter Tryz.func135, Tryz.ntmps135
    go_wp2_with fail
    go_ret
    exact Ret.bool HR.out (Ext.alloc _ _)
  go_enter Tryz.func135, Tryz.ntmps135
  go_wp2_with fail
  go_loopw [5] (fun i wr => ∃ k : Nat, k ≤ n ∧ i = .int .i64 k ∧ Hid (∀ j, j < k → readOkB n1 L j = true) ∧ NetBox w A1 A2 n1 c1 n2 c2 wr) (fun i _ => n - (intOf i).toNat)
  case atStart => exact ⟨0, Nat.zero_le _, rfl, hide (fun j hj => absurd hj (by omega)), ⟨Ext.refl _⟩⟩
  case round =>
    obtain ⟨k, hk, rfl, HK, hX⟩ := hrel
    have hx := hX.ext.box
    obtain ⟨x0, x1, hz⟩ := hX.cell
    by_cases hlt : k < n
    · obtain ⟨bb, off, r, rfl, hbb, hxk, t⟩ := (hs.ext hx).get hlt
      have t0 := t 0 _ rfl
      have t1 := t 1 _ rfl
      simp only [Nat.add_zero] at t0
      clear t
      have HX := hide (readOk_at (nn := n1) hxk)
      clear hxk
      have hRI := ReadIn.new wr r
      rcases read_ways n1 r with ⟨h1, HB⟩ | hways
      · rw [HB] at HX
        have HR := hide (reads_no HL.out hlt HX.out)
        go_wp2_with fail
        refine (c_l02Node A1 A2 n1 c1 n2 c2 r.node _ (by omega)).mono ?_
        rw [h1]
        rintro e w2 ⟨rfl, hx2⟩
        go_wp2_with fail
        go_ret
        exact Ret.bool HR.out ((hx.and_alloc _).trans hx2)
      have h1 : inB r.node 0 ((n1 : Int) - 1) = true := by rcases hways with ⟨h, _⟩ | ⟨h, _⟩ | ⟨h, _⟩ <;> exact h
      have HWY := hide hways
      clear hways
      go_wp2_with fail
      refine (c_l02Node A1 A2 n1 c1 n2 c2 r.node _ (by omega)).mono ?_
      rw [h1]
      rintro e w2 ⟨rfl, hx2⟩
      clear h1
      have hR2 := hRI.ext hx2
      obtain ⟨hl2, v0, v1⟩ := hR2
      have hX2 : NetBox w (A1) A2 n1 c1 n2 c2 w2 := ⟨(hX.ext.and_alloc _).trans hx2⟩
      rcases HWY.out with ⟨_, h2, HB⟩ | ⟨_, h2, h3, HB⟩ | ⟨_, h2, h3, HB⟩
      · rw [HB] at HX
        have HR := hide (reads_no HL.out hlt HX.out)
        go_wp2_with (go_at_call 206; refine (c_l05Flow _ _).mono ?_; rintro e w' ⟨rfl, rfl⟩)
        go_ret
        exact Ret.bool HR.out hX2.ext.box
      · rw [HB] at HX
        have HR := hide (reads_no HL.out hlt HX.out)
        go_wp2_with (go_at_call 206; refine (c_l05Flow _ _).mono ?_; rintro e w' ⟨rfl, rfl⟩)
        go_ret
        exact Ret.bool HR.out hX2.ext.box
      · rw [HB] at HX
        have hRr := hRI.ext hx2
        go_wp2_with (go_at_call 206; refine (c_l05Flow _ _).mono ?_; rintro e w' ⟨rfl, rfl⟩)
        clear v0 v1 hl2 hx2 hx hX hRI t0 t1 x0 x1 hbb
        go_loopw [7] (fun i wx => ∃ m : Nat, m ≤ k ∧ i = .int .i64 m ∧ Hid (∀ (j : Nat) (q : Reading), j < m → L[j]? = some q → clash q r = false) ∧ NetBox w A1 A2 n1 c1 n2 c2 wx ∧ ReadIn wx wr.heap.size r) (fun i _ => k - (intOf i).toNat)
        case atStart => exact ⟨0, Nat.zero_le _, rfl, hide (fun j q hj => absurd hj (by omega)), hX2, hRr⟩
        case round =>
          obtain ⟨m, hm', rfl, HM, hX, hRx⟩ := hrel
          clear hX2 hRr
          have hx := hX.ext.box
          obtain ⟨hl2, v0, v1⟩ := hRx
          by_cases hlt2 : m < k
          · have hmn : m < n := by omega
            obtain ⟨b1, off1, q, hA1, hbb, hqm, hd⟩ := (hs.ext hx).get hmn
            simp only [Option.some.injEq, Addr.mk.injEq] at hA1
            obtain ⟨rfl, rfl, -⟩ := hA1
            have hd0 := hd 0 _ rfl
            have hd1 := hd 1 _ rfl
            simp only [Nat.add_zero] at hd0
            have HQ := hide hqm
            clear hd hqm
            rcases clash_ways q r with ⟨hc1', HC⟩ | ⟨hc1', hc2', HC⟩ | ⟨hc1', hc2', HC⟩
            · go_wp2_with fail
              refine wp_region_later (by kernel_rfl) (by kernel_rfl) ?_
              repeat (go_big_quiet_step (fail))
              refine wpQuiet_nil ?_
              intro w3 hx3
              go_wp2_with fail
              go_roundw
              case rel =>
                refine ⟨m + 1, by omega, by go_num, hide fun j q' hj hq' => ?_, ⟨hX.ext.trans hx3⟩, ReadIn.ext ⟨hl2, v0, v1⟩ hx3⟩
                by_cases e : j = m
                · subst e; rw [HQ.out] at hq'; injection hq' with hq'; subst hq'; exact HC
                · exact HM.out j q' (by omega) hq'
              case measure => simp [intOf]; omega
            · go_wp2_with fail
              refine wp_region_later (by kernel_rfl) (by kernel_rfl) ?_
              repeat (go_big_quiet_step (fail))
              refine wpQuiet_nil ?_
              intro w3 hx3
              go_wp2_with fail
              go_roundw
              case rel =>
                refine ⟨m + 1, by omega, by go_num, hide fun j q' hj hq' => ?_, ⟨hX.ext.trans hx3⟩, ReadIn.ext ⟨hl2, v0, v1⟩ hx3⟩
                by_cases e : j = m
                · subst e; rw [HQ.out] at hq'; injection hq' with hq'; subst hq'; exact HC
                · exact HM.out j q' (by omega) hq'
              case measure => simp [intOf]; omega
            · have hh := hasR_true hlt2 HQ.out HC
              rw [hh] at HX
              have HR := hide (reads_no HL.out hlt HX.out)
              clear hh
              go_wp2_with fail
              refine wp_region_later (by kernel_rfl) (by kernel_rfl) ?_
              repeat (go_big_quiet_step (fail))
              refine wpQuiet_nil ?_
              intro w3 hx3
              go_wp2_with fail
              go_ret
              exact Ret.bool HR.out (hx.trans hx3)
          · have hh := hasR_false (L := L) (k := k) (r := r) (fun j q hj hq => HM.out j q (by omega) hq)
            rw [hh] at HX
            have HO := hide (all_upto HK.out HX.out)
            clear hh
            go_wp2_with fail
            go_roundw
            case rel => exact ⟨k + 1, by omega, by go_num, HO, hX⟩
            case measure => simp [intOf]; omega
    · have HR := hide (reads_yes HL.out h48 (fun j hj => HK.out j (by omega)))
      go_wp2_with fail
      go_ret
      exact Ret.bool HR.out hx
end Go.Proofs.YtfkpghdmljjegaaGreat

namespace Go.Proofs.YtfkpghdmljjegaaGreat
open Go.RowKit
/-- a list of readings, and where it lies -/
structure RS where
  A : Option Addr
  n : Nat
  c : Nat
  xs : List Reading
def RS.cells (r : RS) : List Value := [.slice r.A r.n r.c]
theorem rs_len (r : RS) : r.cells.length = 1 := rfl
structure Room where
  ns : List Node
  ps : List Pipe
  xs : List Contract
  L : List Nomination
  rs : List RS
structure RoomAt (w : World) (A1 A2 A3 A4 A5 : Option Addr) (n1 c1 n2 c2 n3 c3 n4 c4 n5 c5 : Nat) (r : Room) : Prop where
  s1 : SliceOf w 3 Node.cells A1 n1 c1 r.ns
  s2 : SliceOf w 5 Pipe.cells A2 n2 c2 r.ps
  s3 : SliceOf w 8 Contract.cells A3 n3 c3 r.xs
  s4 : SliceOf w 4 Nomination.cells A4 n4 c4 r.L
  s5 : SliceOf w 1 RS.cells A5 n5 c5 r.rs
  s6 : ∀ q ∈ r.rs, SliceOf w 2 Reading.cells q.A q.n q.c q.xs
section
variable {w w' : World} {A1 A2 A3 A4 A5 : Option Addr} {n1 c1 n2 c2 n3 c3 n4 c4 n5 c5 : Nat} {r : Room}
theorem RoomAt.ext (h : RoomAt w A1 A2 A3 A4 A5 n1 c1 n2 c2 n3 c3 n4 c4 n5 c5 r) (hx : Ext w w') : RoomAt w' A1 A2 A3 A4 A5 n1 c1 n2 c2 n3 c3 n4 c4 n5 c5 r :=
  ⟨h.s1.ext hx, h.s2.ext hx, h.s3.ext hx, h.s4.ext hx, h.s5.ext hx, fun q hq => (h.s6 q hq).ext hx⟩
end
/-- a box of a room, by its block -/
structure RoomIn (w : World) (b : Nat) (A1 A2 A3 A4 A5 : Option Addr) (n1 c1 n2 c2 n3 c3 n4 c4 n5 c5 : Nat) : Prop where
  lt : b < w.heap.size
  x0 : w.cell? ⟨b, 0, none⟩ = some (.slice A1 n1 c1)
  x1 : w.cell? ⟨b, 1, none⟩ = some (.slice A2 n2 c2)
  x2 : w.cell? ⟨b, 2, none⟩ = some (.slice A3 n3 c3)
  x3 : w.cell? ⟨b, 3, none⟩ = some (.slice A4 n4 c4)
  x4 : w.cell? ⟨b, 4, none⟩ = some (.slice A5 n5 c5)
section
variable {w w' : World} {b : Nat} {A1 A2 A3 A4 A5 : Option Addr} {n1 c1 n2 c2 n3 c3 n4 c4 n5 c5 : Nat}
theorem RoomIn.ext (h : RoomIn w b A1 A2 A3 A4 A5 n1 c1 n2 c2 n3 c3 n4 c4 n5 c5) (hx : Ext w w') : RoomIn w' b A1 A2 A3 A4 A5 n1 c1 n2 c2 n3 c3 n4 c4 n5 c5 :=
  ⟨Nat.lt_of_lt_of_le h.lt hx.size, (hx.cell _ _ h.lt).trans h.x0, (hx.cell _ _ h.lt).trans h.x1, (hx.cell _ _ h.lt).trans h.x2, (hx.cell _ _ h.lt).trans h.x3, (hx.cell _ _ h.lt).trans h.x4⟩
end
theorem RoomIn.new (w : World) (A1 A2 A3 A4 A5 : Option Addr) (n1 c1 n2 c2 n3 c3 n4 c4 n5 c5 : Nat) (t : TypeId) : RoomIn (w.alloc (.cells #[.slice A1 n1 c1, .slice A2 n2 c2, .slice A3 n3 c3, .slice A4 n4 c4, .slice A5 n5 c5] t)) w.heap.size A1 A2 A3 A4 A5 n1 c1 n2 c2 n3 c3 n4 c4 n5 c5 := by
  have hR := Row.new w t [.slice A1 n1 c1, .slice A2 n2 c2, .slice A3 n3 c3, .slice A4 n4 c4, .slice A5 n5 c5]
  exact ⟨by simp, hR.cell 0, hR.cell 1, hR.cell 2, hR.cell 3, hR.cell 4⟩
def roomB (n1 : Int) (r : Room) : Bool := nomsOk n1 r.ns r.ps r.xs r.L && inB (r.rs.length : Int) 1 48 && r.rs.all (fun q => readsB n1 q.xs)
theorem c_areReadings (A1 A2 : Option Addr) (n1 c1 n2 c2 : Nat) (ns : List Node) (ps : List Pipe) (A : Option Addr) (n c : Nat) (L : List Reading) (w : World) (hs1 : SliceOf w 3 Node.cells A1 n1 c1 ns) (hs2 : SliceOf w 5 Pipe.cells A2 n2 c2 ps) (hs : SliceOf w 2 Reading.cells A n c L) (hN : netB ns ps = true) :
    Calls Tryz.prog 167 #[.agg #[.slice A1 n1 c1, .slice A2 n2 c2], .slice A n c] w (Ret (.bool (readsB n1 L)) w) := by
  cases hb : readsB n1 L
  · go_enter Tryz.func167, Tryz.ntmps167
    go_wp2_with fail
    refine (c_AreReadings A1 A2 n1 c1 n2 c2 ns ps A n c L _ (hs1.ext (Ext.alloc _ _)) (hs2.ext (Ext.alloc _ _)) (hs.ext (Ext.alloc _ _)) hN).mono ?_
    rw [if_neg (by rw [hb]; decide)]
    rintro e w1 ⟨rfl, hx1⟩
    go_wp2_with fail
    go_ret
    exact Ret.bool rfl hx1.box
  · go_enter Tryz.func167, Tryz.ntmps167
    go_wp2_with fail
    refine (c_AreReadings A1 A2 n1 c1 n2 c2 ns ps A n c L _ (hs1.ext (Ext.alloc _ _)) (hs2.ext (Ext.alloc _ _)) (hs.ext (Ext.alloc _ _)) hN).mono ?_
    rw [if_pos hb]
    rintro e w1 ⟨rfl, hx1⟩
    go_wp2_with fail
    go_ret
    exact Ret.bool rfl hx1.box
end Go.Proofs.YtfkpghdmljjegaaGreat

namespace Go.Proofs.YtfkpghdmljjegaaGreat
open Go.RowKit
end Go.Proofs.YtfkpghdmljjegaaGreat

namespace Go.Proofs.YtfkpghdmljjegaaGreat
open Go.RowKit

theorem node_info : (Tryz.prog.info? 223).map (fun i => (i.zero, i.size, i.bytes)) = some (some (.agg #[.string ByteArray.empty, .int .i64 0, .int .i64 0]), 3, 32) := by kernel_rfl

theorem c_toNode (x : Node) (w : World) :
    Calls Tryz.prog 182 #[.agg #[.string x.name, .int .i64 x.low, .int .i64 x.high]] w (Ret (.agg #[.string x.name, .int .i64 x.low, .int .i64 x.high]) w) := by
  go_enter Tryz.func182, Tryz.ntmps182
  go_wp2
  exact bodyPost_ret (v := .agg #[.string x.name, .int .i64 x.low, .int .i64 x.high]) (by simp [results, Tryz.results182, go_sem]) rfl ⟨rfl, (((Ext.refl _).and_alloc _).and_alloc _).and_alloc _⟩

theorem c_eqNode (x : Node) (w : World) :
    Calls Tryz.prog 191 #[.agg #[.string x.name, .int .i64 x.low, .int .i64 x.high], .agg #[.string x.name, .int .i64 x.low, .int .i64 x.high]] w (Ret (.bool true) w) := by
  go_enter Tryz.func191, Tryz.ntmps191
  go_wp2
  go_ret
  exact Ret.bool rfl (((Ext.refl _).and_alloc _).and_alloc _)



set_option maxHeartbeats 1000000 in
theorem c_toNodeS (A : Option Addr) (n c : Nat) (ts : List Node) (w : World) (hs : SliceOf w 3 Node.cells A n c ts) (hn : n ≤ 1048576) :
    Calls Tryz.prog 106 #[.slice A n c] w (NewRow 223 Node.cells ts w) := by
  have hmk := fun W => run_make_flat (P := Tryz.prog) 42 223 _ _ 3 32 Tryz.underlying42 node_info (f := Node.cells) ⟨ByteArray.empty, 0, 0⟩ rfl rfl rfl (by omega) n (by omega) (by omega) W
  have hR0 := Row.new w 223 ((List.replicate n (⟨ByteArray.empty, 0, 0⟩ : Node)).flatMap Node.cells)
  go_enter Tryz.func106, Tryz.ntmps106
  go_wp2_with fail
  go_loopw [4] (fun i wr => ∃ (k : Nat) (L : List Node), k ≤ n ∧ i = .int .i64 k ∧ L.length = n ∧ RowOf wr w.heap.size 223 Node.cells L ∧ Hid (∀ j, j < k → L[j]? = ts[j]?) ∧ Ext w wr) (fun i _ => n - (intOf i).toNat)
  case atStart => exact ⟨0, _, Nat.zero_le _, rfl, List.length_replicate, hR0, hide (fun j hj => absurd hj (by omega)), Ext.alloc _ _⟩
  case round =>
    obtain ⟨k, L, hk, rfl, hL, hrow, HK, hx⟩ := hrel
    clear hR0 hmk
    have hgs := hrow.lt
    by_cases hlt : k < n
    · obtain ⟨b, off, x, rfl, hb, hxk, hc⟩ := (hs.ext hx).get hlt
      have hc0 := hc 0 _ rfl
      have hc1 := hc 1 _ rfl
      have hc2 := hc 2 _ rfl
      clear hc
      simp only [Nat.add_zero] at hc0
      have Hx := hide hxk
      have HL := hide hL
      clear hxk hL
      go_wp2_with (go_at_call 182; refine (c_toNode x _).mono ?_; rintro e w1 ⟨rfl, hx1⟩; have hrow1 := hrow.ext hx1; obtain ⟨v0, hv0⟩ := hrow1.there node_len (i := k) (by rw [HL.out]; exact hlt) (j := 0) (by omega); have hf0 := hrow1.frozen (k * 3); obtain ⟨v1, hv1⟩ := hrow1.there node_len (i := k) (by rw [HL.out]; exact hlt) (j := 1) (by omega); have hf1 := hrow1.frozen (k * 3 + 1); obtain ⟨v2, hv2⟩ := hrow1.there node_len (i := k) (by rw [HL.out]; exact hlt) (j := 2) (by omega); have hf2 := hrow1.frozen (k * 3 + 2); rw [Nat.add_zero] at hv0)
      go_roundw
      case rel =>
        refine ⟨k + 1, L.set k x, by omega, by go_num, by simpa using HL.out, hrow1.put node_len (by rw [HL.out]; exact hlt) x, hide ?_, (hx.trans hx1).put (Nat.le_refl _) (k * 3) x.cells⟩
        intro j hj
        rw [List.getElem?_set]
        by_cases e : k = j
        · subst e; rw [if_pos rfl, if_pos (by rw [HL.out]; exact hlt), Hx.out]
        · rw [if_neg e]; exact HK.out j (by omega)
      case measure => simp [intOf]; omega
    · go_wp2
      go_ret
      have hLts : L = ts := by
        apply List.ext_getElem?
        intro j
        by_cases hj : j < n
        · exact HK.out j (by omega)
        · rw [List.getElem?_eq_none (by omega), List.getElem?_eq_none (by have := hs.len; omega)]
      subst hLts
      refine ⟨w.heap.size, ?_, Nat.le_refl _, hrow, hx⟩
      rw [hL]; rfl

set_option maxHeartbeats 1000000 in
theorem c_eqNodeS (A A' : Option Addr) (n c n' c' : Nat) (ts : List Node) (w : World) (hs : SliceOf w 3 Node.cells A n c ts) (hs' : SliceOf w 3 Node.cells A' n' c' ts) :
    Calls Tryz.prog 115 #[.slice A n c, .slice A' n' c'] w (Ret (.bool true) w) := by
  have hl := hs.len
  obtain rfl : n = n' := by rw [hs.len, hs'.len]
  have hm := hs.max
  have hcp := hs.cap
  clear hl
  go_enter Tryz.func115, Tryz.ntmps115
  go_wp2_with fail
  go_loopw [5] (fun i wr => ∃ (k : Nat), k ≤ n ∧ i = .int .i64 k ∧ Ext w wr) (fun i _ => n - (intOf i).toNat)
  case atStart => exact ⟨0, Nat.zero_le _, rfl, Ext.refl _⟩
  case round =>
    obtain ⟨k, hk, rfl, hx⟩ := hrel
    by_cases hlt : k < n
    · obtain ⟨b, off, x, rfl, hb, hxk, hc⟩ := (hs.ext hx).get hlt
      obtain ⟨b', off', x', rfl, hb', hxk', hc'⟩ := (hs'.ext hx).get hlt
      obtain rfl : x = x' := by rw [hxk] at hxk'; injection hxk'
      have hc0 := hc 0 _ rfl
      have hc1 := hc 1 _ rfl
      have hc2 := hc 2 _ rfl
      have hd0 := hc' 0 _ rfl
      have hd1 := hc' 1 _ rfl
      have hd2 := hc' 2 _ rfl
      clear hc hc' hxk hxk'
      simp only [Nat.add_zero] at hc0 hd0
      go_wp2_with fail
      refine wp_region_later (by kernel_rfl) (by kernel_rfl) ?_
      repeat (go_big_quiet_step ((go_at_call 191; exact quiet_later (c_eqNode x _))))
      refine wpQuiet_nil ?_
      intro w1 hx1
      go_wp2
      go_roundw
      case rel => exact ⟨k + 1, by omega, by go_num, hx.trans hx1⟩
      case measure => simp [intOf]; omega
    · go_wp2
      go_ret
      exact Ret.bool rfl hx




end Go.Proofs.YtfkpghdmljjegaaGreat

namespace Go.Proofs.YtfkpghdmljjegaaGreat
open Go.RowKit
/-- what a measuring helper leaves: -1, or what is left and what is known then -/
def Sized (P : Prop) (left : Int) (w : World) (e : Ending) (w' : World) : Prop := ∃ z : Int, e = .returned (.int .i64 z) ∧ Ext w w' ∧ (z = -1 ∨ (0 ≤ z ∧ z ≤ left ∧ P))
def Named (ns : List Node) : Prop := ∀ x ∈ ns, x.name.size ≤ 1048576
def Named0 (ns : List Node) : Prop := ∀ x ∈ ns, x.name.size ≤ 9223372036854775807
theorem c_szNode (x : Node) (left : Int) (w : World) (h0 : 0 ≤ left) (h1 : left ≤ 1048576) (hx : x.name.size ≤ 9223372036854775807) :
    Calls Tryz.prog 175 #[.agg #[.string x.name, .int .i64 x.low, .int .i64 x.high], .int .i64 left] w (Sized (x.name.size ≤ 1048576) left w) := by
  by_cases h : left < x.name.size
  · have e1 : IntKind.i64.wrap (left - (x.name.size : Int)) = left - (x.name.size : Int) := IntWalk.i64_in _ (by omega)
    have h' : left - (x.name.size : Int) < 0 := by omega
    go_enter Tryz.func175, Tryz.ntmps175
    go_wp2_with fail
    go_ret
    exact ⟨-1, rfl, Ext.alloc _ _, .inl rfl⟩
  · have e1 : IntKind.i64.wrap (left - (x.name.size : Int)) = left - (x.name.size : Int) := IntWalk.i64_in _ (by omega)
    have h' : ¬ left - (x.name.size : Int) < 0 := by omega
    go_enter Tryz.func175, Tryz.ntmps175
    go_wp2_with fail
    go_ret
    exact ⟨_, rfl, Ext.alloc _ _, .inr ⟨by omega, by omega, by omega⟩⟩
set_option maxHeartbeats 1000000 in
theorem c_szNodeS (A : Option Addr) (n c : Nat) (ns : List Node) (left : Int) (w : World) (hs : SliceOf w 3 Node.cells A n c ns) (hnm : Named0 ns) (h0 : 0 ≤ left) (h1 : left ≤ 1048576) :
    Calls Tryz.prog 98 #[.slice A n c, .int .i64 left] w (Sized (n ≤ 1048576 ∧ Named ns) left w) := by
  have hm := hs.max
  have hcap := hs.cap
  have HL := hide hs.len
  have HNM := hide hnm
  clear hnm
  by_cases h : left < n
  · have h' : left - (n : Int) < 0 := by omega
    go_enter Tryz.func98, Tryz.ntmps98
    go_wp2_with fail
    go_ret
    exact ⟨-1, rfl, Ext.refl _, .inl rfl⟩
  have h' : ¬ left - (n : Int) < 0 := by omega
  have hn : n ≤ 1048576 := by omega
  go_enter Tryz.func98, Tryz.ntmps98
  go_wp2_with fail
  go_loopw [1, 5] (fun z i wr => ∃ (k : Nat) (y : Int), k ≤ n ∧ z = .int .i64 y ∧ i = .int .i64 k ∧ 0 ≤ y ∧ y ≤ left ∧ Hid (∀ (j : Nat) (p : Node), j < k → ns[j]? = some p → p.name.size ≤ 1048576) ∧ Ext w wr) (fun _ i _ => n - (intOf i).toNat)
  case atStart => exact ⟨0, _, Nat.zero_le _, rfl, rfl, by omega, by omega, hide (fun j p hj => absurd hj (by omega)), Ext.refl _⟩
  case round =>
    obtain ⟨k, y, hk, rfl, rfl, hy0, hy1, HK, hx⟩ := hrel
    by_cases hlt : k < n
    · obtain ⟨bb, off, p, rfl, hbb, hxk, t⟩ := (hs.ext hx).get hlt
      have t0 := t 0 _ rfl
      have t1 := t 1 _ rfl
      have t2 := t 2 _ rfl
      simp only [Nat.add_zero] at t0
      have hp := HNM.out p (List.mem_of_getElem? hxk)
      have HX := hide hxk
      clear hxk t
      go_wp2_with fail
      refine (c_szNode p y _ hy0 (by omega) hp).mono ?_
      rintro e w1 ⟨z, rfl, hx1, rfl | ⟨hz0, hz1, hz2⟩⟩
      · go_wp2_with fail
        go_ret
        exact ⟨-1, rfl, hx.trans hx1, .inl rfl⟩
      · have hz' : ¬ z < 0 := by omega
        go_wp2_with fail
        go_roundw
        case rel =>
          refine ⟨k + 1, z, by omega, rfl, by go_num, by omega, by omega, hide fun j q hj hq => ?_, hx.trans hx1⟩
          by_cases e : j = k
          · subst e; rw [HX.out] at hq; injection hq with hq; subst hq; exact hz2
          · exact HK.out j q (by omega) hq
        case measure => simp [intOf]; omega
    · go_wp2_with fail
      go_ret
      refine ⟨y, rfl, hx, .inr ⟨hy0, hy1, hn, fun q hq => ?_⟩⟩
      obtain ⟨j, hj, rfl⟩ := List.mem_iff_getElem.1 hq
      exact HK.out j _ (by have := HL.out; omega) (List.getElem?_eq_getElem hj)
theorem c_szNetwork (A1 A2 : Option Addr) (n1 c1 n2 c2 : Nat) (ns : List Node) (left : Int) (w : World) (hs1 : SliceOf w 3 Node.cells A1 n1 c1 ns) (h21 : n2 ≤ c2) (h22 : c2 ≤ 9223372036854775807) (hnm : Named0 ns) (h0 : 0 ≤ left) (h1 : left ≤ 1048576) :
    Calls Tryz.prog 18 #[.agg #[.slice A1 n1 c1, .slice A2 n2 c2], .int .i64 left] w (Sized ((n1 ≤ 1048576 ∧ Named ns) ∧ n2 ≤ 1048576) left w) := by
  go_enter Tryz.func18, Tryz.ntmps18
  go_wp2_with fail
  refine (c_szNodeS A1 n1 c1 ns left _ (hs1.ext (Ext.alloc _ _)) hnm h0 h1).mono ?_
  rintro e w1 ⟨z, rfl, hx1, rfl | ⟨hz0, hz1, hz2⟩⟩
  · go_wp2_with fail
    go_ret
    exact ⟨-1, rfl, hx1.box, .inl rfl⟩
  have hz' : ¬ z < 0 := by omega
  have hcl := hx1.cell
  go_wp2_with fail
  refine (c_szPipeS A2 n2 c2 z _ h21 h22 hz0 (by omega)).mono ?_
  rintro e w' ⟨rfl, rfl⟩
  by_cases h : z < n2
  · rw [if_pos h]
    go_wp2_with fail
    go_ret
    exact ⟨-1, rfl, hx1.box, .inl rfl⟩
  · rw [if_neg h]
    have h' : ¬ z - (n2 : Int) < 0 := by omega
    go_wp2_with fail
    go_ret
    exact ⟨_, rfl, hx1.box, .inr ⟨by omega, by omega, hz2, by omega⟩⟩
end Go.Proofs.YtfkpghdmljjegaaGreat
