/-
  Lists of readings: validity, of the program and of the reference.
-/
import Derived.Test.YtegkeeeohileiaaSa37
namespace Go.Proofs.Ytegkeeeohileiaa
open Go.RowKit
set_option maxHeartbeats 4000000 in
theorem c_AreReadings (A1 A2 : Option Addr) (n1 c1 n2 c2 : Nat) (ns : List Node) (ps : List Pipe) (A : Option Addr) (n c : Nat) (L : List Reading) (w : World) (hs1 : SliceOf w 3 Node.cells A1 n1 c1 ns) (hs2 : SliceOf w 5 Pipe.cells A2 n2 c2 ps) (hs : SliceOf w 2 Reading.cells A n c L) (hN : netB ns ps = true) :
    Calls Try.prog 18 #[.agg #[.slice A1 n1 c1, .slice A2 n2 c2], .slice none 0 0, .slice A n c] w (Ret (.int .i64 (if readsB n1 L = true then 0 else 3)) w) := by
  have hm1 := hs1.max
  have hp1 := hs1.cap
  have hm := hs.max
  have hcap := hs.cap
  have HL := hide hs.len
  have HRy := hide (show readsB n1 L = true → (if readsB n1 L = true then (0 : Int) else 3) = 0 by intro h; rw [if_pos h])
  have HRn := hide (show readsB n1 L = false → (if readsB n1 L = true then (0 : Int) else 3) = 3 by intro h; rw [if_neg (by rw [h]; decide)])
  have HN := hide hN
  clear hN
  generalize (if readsB n1 L = true then (0 : Int) else 3) = Z at *
  by_cases h48 : n ≤ 48
  case neg =>
    have HR := hide (HRn.out (reads_long HL.out h48))
    have h2' : (48 : Int) < n := by omega
    go_enter Try.func18, Try.ntmps18
    go_wp2_with fail
    refine (c_checkNone A1 A2 n1 c1 n2 c2 ns ps _ (hs1.ext (Ext.alloc _ _)) (hs2.ext (Ext.alloc _ _))).mono ?_
    rw [if_pos HN.out]
    rintro e w1 ⟨rfl, hx1⟩
    go_wp2_with fail
    go_ret
    exact Ret.int HR.out hx1.box
  go_enter Try.func18, Try.ntmps18
  go_wp2_with fail
  refine (c_checkNone A1 A2 n1 c1 n2 c2 ns ps _ (hs1.ext (Ext.alloc _ _)) (hs2.ext (Ext.alloc _ _))).mono ?_
  rw [if_pos HN.out]
  rintro e w1 ⟨rfl, hx1⟩
  have hX1 : NetBox w A1 A2 n1 c1 n2 c2 w1 := ⟨hx1⟩
  clear hx1
  go_wp2_with fail
  go_loopw [21] (fun i wr => ∃ k : Nat, k ≤ n ∧ i = .int .i64 k ∧ Hid (∀ j, j < k → readOkB n1 L j = true) ∧ NetBox w A1 A2 n1 c1 n2 c2 wr) (fun i _ => n - (intOf i).toNat)
  case atStart => exact ⟨0, Nat.zero_le _, rfl, hide (fun j hj => absurd hj (by omega)), hX1⟩
  case round =>
    obtain ⟨k, hk, rfl, HK, hX⟩ := hrel
    clear hX1
    have hx := hX.ext.box
    obtain ⟨x0, x1, hz⟩ := hX.cell
    by_cases hlt : k < n
    · obtain ⟨bb, off, r, rfl, hbb, hxk, t⟩ := (hs.ext hx).get hlt
      have t0 := t 0 _ rfl
      have t1 := t 1 _ rfl
      simp only [Nat.add_zero] at t0
      clear t
      have HX := hide (readOk_at (nn := n1) hxk)
      clear hxk
      have hRI := ReadIn.new wr r
      rcases read_ways n1 r with ⟨h1, HB⟩ | hways
      · rw [HB] at HX
        have HR := hide (HRn.out (reads_no HL.out hlt HX.out))
        go_wp2_with fail
        refine (c_isNodeOf A1 A2 n1 c1 n2 c2 r.node _ (by omega)).mono ?_
        rw [h1]
        rintro e w2 ⟨rfl, hx2⟩
        go_wp2_with fail
        go_ret
        exact Ret.int HR.out ((hx.and_alloc _).trans hx2)
      have h1 : inB r.node 0 ((n1 : Int) - 1) = true := by rcases hways with ⟨h, _⟩ | ⟨h, _⟩ | ⟨h, _⟩ <;> exact h
      have HWY := hide hways
      clear hways
      go_wp2_with fail
      refine (c_isNodeOf A1 A2 n1 c1 n2 c2 r.node _ (by omega)).mono ?_
      rw [h1]
      rintro e w2 ⟨rfl, hx2⟩
      clear h1
      have hR2 := hRI.ext hx2
      obtain ⟨hl2, v0, v1⟩ := hR2
      have hX2 : NetBox w A1 A2 n1 c1 n2 c2 w2 := ⟨(hX.ext.and_alloc _).trans hx2⟩
      rcases HWY.out with ⟨_, h2, HB⟩ | ⟨_, h2, h3, HB⟩ | ⟨_, h2, h3, HB⟩
      · rw [HB] at HX
        have HR := hide (HRn.out (reads_no HL.out hlt HX.out))
        go_wp2_with (go_at_call 32; refine (c_within _ _ _ _).mono ?_; rintro e w' ⟨rfl, rfl⟩)
        go_ret
        exact Ret.int HR.out hX2.ext.box
      · rw [HB] at HX
        have HR := hide (HRn.out (reads_no HL.out hlt HX.out))
        go_wp2_with (go_at_call 32; refine (c_within _ _ _ _).mono ?_; rintro e w' ⟨rfl, rfl⟩)
        go_ret
        exact Ret.int HR.out hX2.ext.box
      · rw [HB] at HX
        have hs2k := (hs.ext hX2.ext.box).take (show k ≤ n by omega)
        go_wp2_with (go_at_call 32; refine (c_within _ _ _ _).mono ?_; rintro e w' ⟨rfl, rfl⟩)
        refine (c_ContainsRead _ k c (L.take k) r _ _ hs2k (hRI.ext hx2)).mono ?_
        cases hh : hasR (L.take k) r
        · rw [hh] at HX
          have HO := hide (all_upto HK.out HX.out)
          rintro e w3 ⟨rfl, hx3⟩
          go_wp2_with fail
          go_roundw
          case rel => exact ⟨k + 1, by omega, by go_num, HO, ⟨hX2.ext.trans hx3⟩⟩
          case measure => simp [intOf]; omega
        · rw [hh] at HX
          have HR := hide (HRn.out (reads_no HL.out hlt HX.out))
          rintro e w3 ⟨rfl, hx3⟩
          go_wp2_with fail
          go_ret
          exact Ret.int HR.out (hX2.ext.box.trans hx3)
    · have HR := hide (HRy.out (reads_yes HL.out h48 (fun j hj => HK.out j (by omega))))
      go_wp2_with fail
      go_ret
      exact Ret.int HR.out hx

theorem hasR_true {L : List Reading} {k m : Nat} {r q : Reading} (hm : m < k) (hq : L[m]? = some q) (h : clash q r = true) : hasR (L.take k) r = true := by
  rw [hasR, List.any_eq_true]
  exact ⟨q, List.mem_of_getElem? (i := m) (by rw [List.getElem?_take, if_pos hm]; exact hq), h⟩
theorem hasR_false {L : List Reading} {k : Nat} {r : Reading} (h : ∀ (j : Nat) (q : Reading), j < k → L[j]? = some q → clash q r = false) : hasR (L.take k) r = false := by
  rw [hasR, List.any_eq_false]
  intro q hq
  obtain ⟨j, hj, hje⟩ := List.mem_iff_getElem.1 hq
  have h1 : (L.take k)[j]? = some q := by rw [List.getElem?_eq_getElem hj, hje]
  rw [List.getElem?_take] at h1
  split at h1
  · rename_i hjk
    rw [h j q hjk h1]; simp
  · cases h1
theorem c_l05Flow (z : Int) (w : World) :
    Calls Try.prog 46 #[.int .i64 z] w fun e w' => e = .returned (.bool (inB z (-30000) 30000)) ∧ w = w' := by
  go_enter Try.func46, Try.ntmps46
  go_wp2_with (go_at_call 56; refine (c_l01In _ _ _ _).mono ?_; rintro e w' ⟨rfl, rfl⟩)
  go_ret
  exact ⟨rfl, rfl⟩
theorem clash_ways (q r : Reading) : ((q.node == r.node) = false ∧ Hid (clash q r = false)) ∨ ((q.node == r.node) = true ∧ (decide (0 < q.amount) == decide (0 < r.amount)) = false ∧ Hid (clash q r = false)) ∨
    ((q.node == r.node) = true ∧ (decide (0 < q.amount) == decide (0 < r.amount)) = true ∧ Hid (clash q r = true)) := by
  unfold clash Hid
  cases (q.node == r.node) <;> cases (decide (0 < q.amount) == decide (0 < r.amount)) <;> simp
set_option maxHeartbeats 4000000 in
theorem c_l28List (A1 A2 : Option Addr) (n1 c1 n2 c2 : Nat) (A : Option Addr) (n c : Nat) (L : List Reading) (w : World) (hn1 : n1 ≤ 9223372036854775807) (hs : SliceOf w 2 Reading.cells A n c L) :
    Calls Try.prog 26 #[.agg #[.slice A1 n1 c1, .slice A2 n2 c2], .slice A n c] w (Ret (.bool (readsB n1 L)) w) := by
  have hm := hs.max
  have hcap := hs.cap
  have HL := hide hs.len
  by_cases h48 : n ≤ 48
  case neg =>
    have HR := hide (reads_long (nn := n1) HL.out h48)
    have h2' : (48 : Int) < n := by omega
    go_enter Try.func26, Try.ntmps26
    go_wp2_with fail
    go_ret
    exact Ret.bool HR.out (Ext.alloc _ _)
  go_enter Try.func26, Try.ntmps26
  go_wp2_with fail
  go_loopw [5] (fun i wr => ∃ k : Nat, k ≤ n ∧ i = .int .i64 k ∧ Hid (∀ j, j < k → readOkB n1 L j = true) ∧ NetBox w A1 A2 n1 c1 n2 c2 wr) (fun i _ => n - (intOf i).toNat)
  case atStart => exact ⟨0, Nat.zero_le _, rfl, hide (fun j hj => absurd hj (by omega)), ⟨Ext.refl _⟩⟩
  case round =>
    obtain ⟨k, hk, rfl, HK, hX⟩ := hrel
    have hx := hX.ext.box
    obtain ⟨x0, x1, hz⟩ := hX.cell
    by_cases hlt : k < n
    · obtain ⟨bb, off, r, rfl, hbb, hxk, t⟩ := (hs.ext hx).get hlt
      have t0 := t 0 _ rfl
      have t1 := t 1 _ rfl
      simp only [Nat.add_zero] at t0
      clear t
      have HX := hide (readOk_at (nn := n1) hxk)
      clear hxk
      have hRI := ReadIn.new wr r
      rcases read_ways n1 r with ⟨h1, HB⟩ | hways
      · rw [HB] at HX
        have HR := hide (reads_no HL.out hlt HX.out)
        go_wp2_with fail
        refine (c_l02Node A1 A2 n1 c1 n2 c2 r.node _ (by omega)).mono ?_
        rw [h1]
        rintro e w2 ⟨rfl, hx2⟩
        go_wp2_with fail
        go_ret
        exact Ret.bool HR.out ((hx.and_alloc _).trans hx2)
      have h1 : inB r.node 0 ((n1 : Int) - 1) = true := by rcases hways with ⟨h, _⟩ | ⟨h, _⟩ | ⟨h, _⟩ <;> exact h
      have HWY := hide hways
      clear hways
      go_wp2_with fail
      refine (c_l02Node A1 A2 n1 c1 n2 c2 r.node _ (by omega)).mono ?_
      rw [h1]
      rintro e w2 ⟨rfl, hx2⟩
      clear h1
      have hR2 := hRI.ext hx2
      obtain ⟨hl2, v0, v1⟩ := hR2
      have hX2 : NetBox w (A1) A2 n1 c1 n2 c2 w2 := ⟨(hX.ext.and_alloc _).trans hx2⟩
      rcases HWY.out with ⟨_, h2, HB⟩ | ⟨_, h2, h3, HB⟩ | ⟨_, h2, h3, HB⟩
      · rw [HB] at HX
        have HR := hide (reads_no HL.out hlt HX.out)
        go_wp2_with (go_at_call 46; refine (c_l05Flow _ _).mono ?_; rintro e w' ⟨rfl, rfl⟩)
        go_ret
        exact Ret.bool HR.out hX2.ext.box
      · rw [HB] at HX
        have HR := hide (reads_no HL.out hlt HX.out)
        go_wp2_with (go_at_call 46; refine (c_l05Flow _ _).mono ?_; rintro e w' ⟨rfl, rfl⟩)
        go_ret
        exact Ret.bool HR.out hX2.ext.box
      · rw [HB] at HX
        have hRr := hRI.ext hx2
        go_wp2_with (go_at_call 46; refine (c_l05Flow _ _).mono ?_; rintro e w' ⟨rfl, rfl⟩)
        clear v0 v1 hl2 hx2 hx hX hRI t0 t1 x0 x1 hbb
        go_loopw [7] (fun i wx => ∃ m : Nat, m ≤ k ∧ i = .int .i64 m ∧ Hid (∀ (j : Nat) (q : Reading), j < m → L[j]? = some q → clash q r = false) ∧ NetBox w A1 A2 n1 c1 n2 c2 wx ∧ ReadIn wx wr.heap.size r) (fun i _ => k - (intOf i).toNat)
        case atStart => exact ⟨0, Nat.zero_le _, rfl, hide (fun j q hj => absurd hj (by omega)), hX2, hRr⟩
        case round =>
          obtain ⟨m, hm', rfl, HM, hX, hRx⟩ := hrel
          clear hX2 hRr
          have hx := hX.ext.box
          obtain ⟨hl2, v0, v1⟩ := hRx
          by_cases hlt2 : m < k
          · have hmn : m < n := by omega
            obtain ⟨b1, off1, q, hA1, hbb, hqm, hd⟩ := (hs.ext hx).get hmn
            simp only [Option.some.injEq, Addr.mk.injEq] at hA1
            obtain ⟨rfl, rfl, -⟩ := hA1
            have hd0 := hd 0 _ rfl
            have hd1 := hd 1 _ rfl
            simp only [Nat.add_zero] at hd0
            have HQ := hide hqm
            clear hd hqm
            rcases clash_ways q r with ⟨hc1', HC⟩ | ⟨hc1', hc2', HC⟩ | ⟨hc1', hc2', HC⟩
            · go_wp2_with fail
              refine wp_region_later (by kernel_rfl) (by kernel_rfl) ?_
              repeat (go_big_quiet_step (fail))
              refine wpQuiet_nil ?_
              intro w3 hx3
              go_wp2_with fail
              go_roundw
              case rel =>
                refine ⟨m + 1, by omega, by go_num, hide fun j q' hj hq' => ?_, ⟨hX.ext.trans hx3⟩, ReadIn.ext ⟨hl2, v0, v1⟩ hx3⟩
                by_cases e : j = m
                · subst e; rw [HQ.out] at hq'; injection hq' with hq'; subst hq'; exact HC
                · exact HM.out j q' (by omega) hq'
              case measure => simp [intOf]; omega
            · go_wp2_with fail
              refine wp_region_later (by kernel_rfl) (by kernel_rfl) ?_
              repeat (go_big_quiet_step (fail))
              refine wpQuiet_nil ?_
              intro w3 hx3
              go_wp2_with fail
              go_roundw
              case rel =>
                refine ⟨m + 1, by omega, by go_num, hide fun j q' hj hq' => ?_, ⟨hX.ext.trans hx3⟩, ReadIn.ext ⟨hl2, v0, v1⟩ hx3⟩
                by_cases e : j = m
                · subst e; rw [HQ.out] at hq'; injection hq' with hq'; subst hq'; exact HC
                · exact HM.out j q' (by omega) hq'
              case measure => simp [intOf]; omega
            · have hh := hasR_true hlt2 HQ.out HC
              rw [hh] at HX
              have HR := hide (reads_no HL.out hlt HX.out)
              clear hh
              go_wp2_with fail
              refine wp_region_later (by kernel_rfl) (by kernel_rfl) ?_
              repeat (go_big_quiet_step (fail))
              refine wpQuiet_nil ?_
              intro w3 hx3
              go_wp2_with fail
              go_ret
              exact Ret.bool HR.out (hx.trans hx3)
          · have hh := hasR_false (L := L) (k := k) (r := r) (fun j q hj hq => HM.out j q (by omega) hq)
            rw [hh] at HX
            have HO := hide (all_upto HK.out HX.out)
            clear hh
            go_wp2_with fail
            go_roundw
            case rel => exact ⟨k + 1, by omega, by go_num, HO, hX⟩
            case measure => simp [intOf]; omega
    · have HR := hide (reads_yes HL.out h48 (fun j hj => HK.out j (by omega)))
      go_wp2_with fail
      go_ret
      exact Ret.bool HR.out hx
end Go.Proofs.Ytegkeeeohileiaa
