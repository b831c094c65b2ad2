/-
  Networks: validity, of the reference: IsNetwork.
-/
import Derived.Test.YtegkeeeohileiaaSa22
namespace Go.Proofs.Ytegkeeeohileiaa
open Go.RowKit
theorem has_true {ns : List Node} {k m : Nat} {s : ByteArray} {q : Node} (hm : m < k) (hq : ns[m]? = some q) (h : sameN s q.name = true) : hasN (ns.take k) s = true := by
  rw [hasN, List.any_eq_true]
  refine ⟨q, ?_, by rw [sameN_comm]; exact h⟩
  exact List.mem_of_getElem? (i := m) (by rw [List.getElem?_take, if_pos hm]; exact hq)
theorem has_false {ns : List Node} {k : Nat} {s : ByteArray} (h : ∀ (j : Nat) (q : Node), j < k → ns[j]? = some q → sameN s q.name = false) : hasN (ns.take k) s = false := by
  rw [hasN, List.any_eq_false]
  intro q hq
  obtain ⟨j, hj, hje⟩ := List.mem_iff_getElem.1 hq
  have h1 : (ns.take k)[j]? = some q := by rw [List.getElem?_eq_getElem hj, hje]
  rw [List.getElem?_take] at h1
  split at h1
  · rename_i hjk
    rw [sameN_comm, h j q hjk h1]; simp
  · cases h1

set_option maxHeartbeats 4000000 in
theorem c_specIsNetwork (A1 A2 : Option Addr) (n1 c1 n2 c2 : Nat) (ns : List Node) (ps : List Pipe) (w : World) (hs1 : SliceOf w 3 Node.cells A1 n1 c1 ns) (hs2 : SliceOf w 5 Pipe.cells A2 n2 c2 ps) (hnm : ∀ x ∈ ns, x.name.size ≤ 1048576) :
    Calls Try.prog 25 #[.agg #[.slice A1 n1 c1, .slice A2 n2 c2]] w (Ret (.bool (netB ns ps)) w) := by
  have hm1 := hs1.max
  have hp1 := hs1.cap
  have hm2 := hs2.max
  have hp2 := hs2.cap
  have HL1 := hide hs1.len
  have HL2 := hide hs2.len
  have HNM := hide hnm
  clear hnm
  by_cases hN0 : n1 < 1
  · have HR := hide (net_len1 (ps := ps) HL1.out (inB_false.2 (by omega)))
    go_enter Try.func25, Try.ntmps25
    go_wp2_with fail
    go_ret
    exact Ret.bool HR.out (Ext.alloc _ _)
  by_cases hN1 : 24 < n1
  · have HR := hide (net_len1 (ps := ps) HL1.out (inB_false.2 (by omega)))
    go_enter Try.func25, Try.ntmps25
    go_wp2_with fail
    go_ret
    exact Ret.bool HR.out (Ext.alloc _ _)
  have HN := hide (inB_true.2 ⟨show (1 : Int) ≤ (n1 : Int) by omega, show (n1 : Int) ≤ 24 by omega⟩)
  by_cases hM : 40 < n2
  · have HR := hide (net_len2 (ns := ns) (ps := ps) (by rw [← HL2.out]; exact hM))
    go_enter Try.func25, Try.ntmps25
    go_wp2_with fail
    go_ret
    exact Ret.bool HR.out (Ext.alloc _ _)
  go_enter Try.func25, Try.ntmps25
  go_wp2_with fail
  go_loopw [3] (fun i wr => ∃ k : Nat, k ≤ n1 ∧ i = .int .i64 k ∧ Hid (∀ j, j < k → nodeOkB ns j = true) ∧ NetBox w A1 A2 n1 c1 n2 c2 wr) (fun i _ => n1 - (intOf i).toNat)
  case atStart => exact ⟨0, Nat.zero_le _, rfl, hide (fun j hj => absurd hj (by omega)), ⟨Ext.refl _⟩⟩
  case round =>
    obtain ⟨k, hk, rfl, HK, hX⟩ := hrel
    have hx := hX.ext.box
    obtain ⟨x0, x1, hz⟩ := hX.cell
    by_cases hlt : k < n1
    · obtain ⟨bb, off, p, rfl, hbb, hxk, hc⟩ := (hs1.ext hx).get hlt
      have hc0 := hc 0 _ rfl
      have hc1 := hc 1 _ rfl
      have hc2 := hc 2 _ rfl
      simp only [Nat.add_zero] at hc0
      have hpn := HNM.out p (List.mem_of_getElem? hxk)
      have HX := hide (nodeOk_at hxk)
      have HXK := hide hxk
      clear hxk hc
      cases hp : nodeB p
      · rw [hp] at HX
        have HR := hide (net_node (ps := ps) (ns := ns) (k := k) (by rw [← HL1.out]; exact hlt) HX.out)
        go_wp2_with fail
        refine (c_specIsNode p _ hpn).mono ?_
        rw [hp]
        rintro e w1 ⟨rfl, hx1⟩
        go_wp2_with fail
        go_ret
        exact Ret.bool HR.out (hx.trans hx1)
      · rw [hp] at HX
        go_wp2_with fail
        refine (c_specIsNode p _ hpn).mono ?_
        rw [hp]
        rintro e w1 ⟨rfl, hx1⟩
        have hX1 : NetBox w (some ⟨bb, off, none⟩) A2 n1 c1 n2 c2 w1 := ⟨hX.ext.trans hx1⟩
        clear hp x0 x1 hz hx hX hx1 hc0 hc1 hc2 hbb
        go_wp2_with fail
        go_loopw [4] (fun i wr => ∃ m : Nat, m ≤ k ∧ i = .int .i64 m ∧ Hid (∀ (j : Nat) (q : Node), j < m → ns[j]? = some q → sameN p.name q.name = false) ∧ NetBox w (some ⟨bb, off, none⟩) A2 n1 c1 n2 c2 wr) (fun i _ => k - (intOf i).toNat)
        case atStart => exact ⟨0, Nat.zero_le _, rfl, hide (fun j q hj => absurd hj (by omega)), hX1⟩
        case round =>
          obtain ⟨m, hm, rfl, HM, hX⟩ := hrel
          clear hX1
          have hx := hX.ext.box
          obtain ⟨x0, x1, hz⟩ := hX.cell
          by_cases hlt2 : m < k
          · have hmn : m < n1 := by omega
            obtain ⟨b1, off1, p', hA1, hbb, hxk', hc⟩ := (hs1.ext hx).get hlt
            simp only [Option.some.injEq, Addr.mk.injEq] at hA1
            obtain ⟨rfl, rfl, -⟩ := hA1
            obtain rfl : p = p' := by rw [HXK.out] at hxk'; injection hxk'
            have hc0 := hc 0 _ rfl
            obtain ⟨q, hqm, hd⟩ := (hs1.ext hx).at_ hmn
            have hd0 := hd 0 _ rfl
            simp only [Nat.add_zero] at hc0 hd0
            have HQ := hide hqm
            clear hc hd hqm hxk'
            cases hsm : (p.name.toList == q.name.toList)
            · go_wp2_with fail
              refine wp_region_later (by kernel_rfl) (by kernel_rfl) ?_
              repeat (go_big_quiet_step (fail))
              refine wpQuiet_nil ?_
              intro w2 hx2
              go_wp2_with fail
              go_roundw
              case rel =>
                refine ⟨m + 1, by omega, by go_num, hide fun j q' hj hq' => ?_, ⟨hX.ext.trans hx2⟩⟩
                by_cases e : j = m
                · subst e; rw [HQ.out] at hq'; injection hq' with hq'; subst hq'; exact hsm
                · exact HM.out j q' (by omega) hq'
              case measure => simp [intOf]; omega
            · have hh := has_true hlt2 HQ.out hsm
              rw [hh] at HX
              have HR := hide (net_node (ps := ps) (ns := ns) (k := k) (by rw [← HL1.out]; exact hlt) HX.out)
              clear hh
              go_wp2_with fail
              refine wp_region_later (by kernel_rfl) (by kernel_rfl) ?_
              repeat (go_big_quiet_step (fail))
              refine wpQuiet_nil ?_
              intro w2 hx2
              go_wp2_with fail
              go_ret
              exact Ret.bool HR.out (hx.trans hx2)
          · have hh := has_false (k := k) (fun j q hj hq => HM.out j q (by omega) hq)
            rw [hh] at HX
            have HO := hide (all_upto HK.out HX.out)
            clear hh
            go_wp2_with fail
            go_roundw
            case rel => exact ⟨k + 1, by omega, by go_num, HO, hX⟩
            case measure => simp [intOf]; omega
    · have HALL : Hid (∀ j, j < ns.length → nodeOkB ns j = true) := hide (fun j hj => HK.out j (by rw [← HL1.out] at hj; omega))
      have hX0 := hX
      clear hX hx HK
      go_wp2_with fail
      clear x0 x1 hz
      go_loopw [5] (fun i wr => ∃ k : Nat, k ≤ n2 ∧ i = .int .i64 k ∧ Hid (∀ (j : Nat) (p : Pipe), j < k → ps[j]? = some p → pipeB ns.length p = true) ∧ NetBox w A1 A2 n1 c1 n2 c2 wr) (fun i _ => n2 - (intOf i).toNat)
      case atStart => exact ⟨0, Nat.zero_le _, rfl, hide (fun j p hj => absurd hj (by omega)), hX0⟩
      case round =>
        obtain ⟨k, hk, rfl, HK, hX⟩ := hrel
        clear hX0
        have hx := hX.ext.box
        obtain ⟨x0, x1, hz⟩ := hX.cell
        by_cases hlt : k < n2
        · obtain ⟨bb, off, p, rfl, hbb, hxk, hc⟩ := (hs2.ext hx).get hlt
          have hc0 := hc 0 _ rfl
          have hc1 := hc 1 _ rfl
          have hc2 := hc 2 _ rfl
          have hc3 := hc 3 _ rfl
          have hc4 := hc 4 _ rfl
          clear hc
          simp only [Nat.add_zero] at hc0
          have HX := hide hxk
          clear hxk
          have HPB := hide (show pipeB (n1 : Int) p = pipeB ns.length p by rw [HL1.out])
          go_wp2_with fail
          refine wp_region_ph [([0, 1, 2, 3, 4, 5, 6, 7], 8)] [9] (by kernel_rfl) (by kernel_rfl) (by intro c a w d v h; cases d <;> exact h) ?_
          simp only [wpPh, pickL, nthO]
          repeat (go_big_quiet_step (fail))
          refine wpQuiet_nil ?_
          go_wp2_with fail
          refine (c_l02Pipe p n1 _ (by omega)).mono ?_
          rw [HPB.out]
          cases hpb : pipeB ns.length p
          · have HR := hide (net_pipe (ns := ns) (List.mem_of_getElem? HX.out) hpb)
            rintro e w1 ⟨rfl, hx1⟩
            go_wp2_with fail
            refine ⟨hx1, ?_⟩
            repeat (go_big_quiet_step (fail))
            refine wpQuiet_nil ?_
            go_wp2_with fail
            go_ret
            exact Ret.bool HR.out (hx.drew.trans hx1)
          · rintro e w1 ⟨rfl, hx1⟩
            go_wp2_with fail
            refine ⟨hx1, ?_⟩
            repeat (go_big_quiet_step (fail))
            refine wpQuiet_nil ?_
            go_wp2_with fail
            go_roundw
            case rel =>
              refine ⟨k + 1, by omega, by go_num, hide fun j q hj hq => ?_, ⟨hX.ext.trans ((Ext.refl _).drew.trans hx1)⟩⟩
              by_cases e : j = k
              · subst e; rw [HX.out] at hq; injection hq with hq; subst hq; exact hpb
              · exact HK.out j q (by omega) hq
            case measure => simp [intOf]; omega
        · have HR := hide (net_true (by rw [← HL1.out]; exact HN.out) (by rw [← HL2.out]; omega) HALL.out (fun j p hp => HK.out j p (by have := (List.getElem?_eq_some_iff.1 hp).1; rw [← HL2.out] at this; omega) hp))
          go_wp2_with fail
          go_ret
          exact Ret.bool HR.out hx
end Go.Proofs.Ytegkeeeohileiaa
