/-
  Rooms: validity, of the reference; the current hour, of both. The helpers of the laws on Node: copying, comparing, measuring, marking.
-/
import Derived.Test.YtjpmiokbgpggbaaRa17
import Derived.Test.YtjpmiokbgpggbaaRa01
namespace Go.Proofs.Ytjpmiokbgpggbaa
open Go.RowKit
set_option maxHeartbeats 4000000 in
theorem c_specIsRoom (A1 A2 A3 A4 A5 : Option Addr) (n1 c1 n2 c2 n3 c3 n4 c4 n5 c5 : Nat) (r : Room) (w : World) (hat : RoomAt w A1 A2 A3 A4 A5 n1 c1 n2 c2 n3 c3 n4 c4 n5 c5 r) (hnm : ∀ x ∈ r.ns, x.name.size ≤ 1048576) :
    Calls Try.prog 9 #[.agg #[.slice A1 n1 c1, .slice A2 n2 c2, .slice A3 n3 c3, .slice A4 n4 c4, .slice A5 n5 c5]] w (Ret (.bool (roomB n1 r)) w) := by
  have hL := hat.s5.len
  have hm1 := hat.s1.max
  have hc1 := hat.s1.cap
  have hm5 := hat.s5.max
  have hc5 := hat.s5.cap
  have hin := RoomIn.new w A1 A2 A3 A4 A5 n1 c1 n2 c2 n3 c3 n4 c4 n5 c5 41
  have HNM := hide hnm
  clear hnm
  cases h1 : nomsOk n1 r.ns r.ps r.xs r.L
  · have HR := hide (show roomB n1 r = false by simp [roomB, h1])
    clear hL
    go_enter Try.func9, Try.ntmps9
    go_wp2_with fail
    refine (c_specAreNominations A1 A2 n1 c1 n2 c2 r.ns r.ps A3 n3 c3 r.xs A4 n4 c4 r.L _ (hat.s1.ext (Ext.alloc _ _)) (hat.s2.ext (Ext.alloc _ _)) (hat.s3.ext (Ext.alloc _ _)) (hat.s4.ext (Ext.alloc _ _)) HNM.out).mono ?_
    rw [h1]
    rintro e w1 ⟨rfl, hx1⟩
    go_wp2_with fail
    go_ret
    exact Ret.bool HR.out hx1.box
  cases h2 : inB (n5 : Int) 1 48
  · have HR := hide (show roomB n1 r = false by unfold roomB; rw [← hL, h1, h2]; rfl)
    clear hL
    go_enter Try.func9, Try.ntmps9
    go_wp2_with fail
    refine (c_specAreNominations A1 A2 n1 c1 n2 c2 r.ns r.ps A3 n3 c3 r.xs A4 n4 c4 r.L _ (hat.s1.ext (Ext.alloc _ _)) (hat.s2.ext (Ext.alloc _ _)) (hat.s3.ext (Ext.alloc _ _)) (hat.s4.ext (Ext.alloc _ _)) HNM.out).mono ?_
    rw [h1]
    rintro e w1 ⟨rfl, hx1⟩
    obtain ⟨hlt, x0, x1, x2, x3, x4⟩ := hin.ext hx1
    go_wp2_with (go_at_call 39; refine (c_l01In _ _ _ _).mono ?_; rintro e w' ⟨rfl, rfl⟩)
    go_ret
    exact Ret.bool HR.out hx1.box
  have HR := hide (show roomB n1 r = r.rs.all (fun q => readsB n1 q.xs) by unfold roomB; rw [← hL, h1, h2]; rfl)
  have HLN := hide hL
  clear hL
  go_enter Try.func9, Try.ntmps9
  go_wp2_with fail
  refine (c_specAreNominations A1 A2 n1 c1 n2 c2 r.ns r.ps A3 n3 c3 r.xs A4 n4 c4 r.L _ (hat.s1.ext (Ext.alloc _ _)) (hat.s2.ext (Ext.alloc _ _)) (hat.s3.ext (Ext.alloc _ _)) (hat.s4.ext (Ext.alloc _ _)) HNM.out).mono ?_
  rw [h1]
  rintro e w1 ⟨rfl, hx1⟩
  clear h1
  obtain ⟨hlt, x0, x1, x2, x3, x4⟩ := hin.ext hx1
  go_wp2_with (go_at_call 39; refine (c_l01In _ _ _ _).mono ?_; rintro e w' ⟨rfl, rfl⟩)
  clear hlt x0 x1 x2 x3 x4 h2
  go_loopw [3] (fun i wr => ∃ k : Nat, k ≤ n5 ∧ i = .int .i64 k ∧ Hid (∀ (j : Nat) (p : RS), j < k → r.rs[j]? = some p → readsB n1 p.xs = true) ∧ Ext w1 wr) (fun i _ => n5 - (intOf i).toNat)
  case atStart => exact ⟨0, Nat.zero_le _, rfl, hide (fun j p hj => absurd hj (by omega)), Ext.refl _⟩
  case round =>
    obtain ⟨k, hk, rfl, HK, hx⟩ := hrel
    have hxw := hx1.box.trans hx
    obtain ⟨hlt', x0, x1, x2, x3, x4⟩ := hin.ext (hx1.trans hx)
    by_cases hlt : k < n5
    · obtain ⟨bb, off, p, rfl, hbb, hxk, t⟩ := (hat.s5.ext hxw).get hlt
      have t0 := t 0 _ rfl
      simp only [Nat.add_zero, Nat.mul_one] at t0
      have HX := hide hxk
      have HP := hide (List.mem_of_getElem? hxk)
      clear hxk t
      go_wp2_with fail
      refine wp_region_ph [([0, 1, 2, 3, 4, 5, 6], 7)] [8] (by kernel_rfl) (by kernel_rfl) (by intro c a w d v h; cases d <;> exact h) ?_
      simp only [wpPh, pickL, nthO]
      repeat (go_big_quiet_step (fail))
      refine wpQuiet_nil ?_
      go_wp2_with fail
      refine (c_l28List A1 A2 n1 c1 n2 c2 p.A p.n p.c p.xs _ (by omega) ((hat.s6 p HP.out).ext hxw.drew)).mono ?_
      cases hp : readsB n1 p.xs
      · have HF := hide (show roomB n1 r = false by rw [HR.out, List.all_eq_false]; exact ⟨p, HP.out, by simp [hp]⟩)
        rintro e w2 ⟨rfl, hx2⟩
        go_wp2_with fail
        refine ⟨hx2, ?_⟩
        repeat (go_big_quiet_step (fail))
        refine wpQuiet_nil ?_
        go_wp2_with fail
        go_ret
        exact Ret.bool HF.out (hxw.drew.trans hx2)
      · rintro e w2 ⟨rfl, hx2⟩
        go_wp2_with fail
        refine ⟨hx2, ?_⟩
        repeat (go_big_quiet_step (fail))
        refine wpQuiet_nil ?_
        go_wp2_with fail
        go_roundw
        case rel =>
          refine ⟨k + 1, by omega, by go_num, hide fun j q hj hq => ?_, hx.drew.trans hx2⟩
          by_cases e : j = k
          · subst e; rw [HX.out] at hq; injection hq with hq; subst hq; exact hp
          · exact HK.out j q (by omega) hq
        case measure => simp [intOf]; omega
    · have HF := hide (show roomB n1 r = true by
        rw [HR.out, List.all_eq_true]; intro q hq
        obtain ⟨j, hj, rfl⟩ := List.mem_iff_getElem.1 hq
        exact HK.out j _ (by have := HLN.out; omega) (List.getElem?_eq_getElem hj))
      go_wp2_with fail
      go_ret
      exact Ret.bool HF.out hxw

/-- a number and a code -/
def Ret2 (a b : Int) (w : World) (e : Ending) (w' : World) : Prop := e = .returned (.tuple #[.int .i64 a, .int .i64 b]) ∧ Ext w w'
def hourR (n1 : Int) (r : Room) : Int × Int := if roomB n1 r = true then ((r.rs.length : Int) - 1, 0) else (0, 1)
set_option maxHeartbeats 1000000 in
theorem c_CurrentHour (A1 A2 A3 A4 A5 : Option Addr) (n1 c1 n2 c2 n3 c3 n4 c4 n5 c5 : Nat) (r : Room) (w : World) (hat : RoomAt w A1 A2 A3 A4 A5 n1 c1 n2 c2 n3 c3 n4 c4 n5 c5 r) :
    Calls Try.prog 14 #[.agg #[.slice A1 n1 c1, .slice A2 n2 c2, .slice A3 n3 c3, .slice A4 n4 c4, .slice A5 n5 c5]] w (Ret2 (hourR n1 r).1 (hourR n1 r).2 w) := by
  have hL := hat.s5.len
  have hm5 := hat.s5.max
  have hc5 := hat.s5.cap
  have hin := RoomIn.new w A1 A2 A3 A4 A5 n1 c1 n2 c2 n3 c3 n4 c4 n5 c5 41
  cases hb : roomB n1 r
  · have HR := hide (show hourR n1 r = (0, 1) by unfold hourR; rw [hb]; rfl)
    rw [HR.out]
    clear hL
    go_enter Try.func14, Try.ntmps14
    go_wp2_with fail
    refine (c_IsRoom A1 A2 A3 A4 A5 n1 c1 n2 c2 n3 c3 n4 c4 n5 c5 r _ (hat.ext (Ext.alloc _ _))).mono ?_
    rw [hb]
    rintro e w1 ⟨rfl, hx1⟩
    go_wp2_with fail
    go_ret2
    exact ⟨rfl, hx1.box⟩
  · have HR := hide (show hourR n1 r = ((n5 : Int) - 1, 0) by unfold hourR; rw [hb, hL]; rfl)
    rw [HR.out]
    clear hL
    go_enter Try.func14, Try.ntmps14
    go_wp2_with fail
    refine (c_IsRoom A1 A2 A3 A4 A5 n1 c1 n2 c2 n3 c3 n4 c4 n5 c5 r _ (hat.ext (Ext.alloc _ _))).mono ?_
    rw [hb]
    rintro e w1 ⟨rfl, hx1⟩
    obtain ⟨hlt, x0, x1, x2, x3, x4⟩ := hin.ext hx1
    go_wp2_with fail
    go_ret2
    exact ⟨rfl, hx1.box⟩
set_option maxHeartbeats 1000000 in
theorem c_specCurrentHour (A1 A2 A3 A4 A5 : Option Addr) (n1 c1 n2 c2 n3 c3 n4 c4 n5 c5 : Nat) (r : Room) (w : World) (hat : RoomAt w A1 A2 A3 A4 A5 n1 c1 n2 c2 n3 c3 n4 c4 n5 c5 r)(hnm : ∀ x ∈ r.ns, x.name.size ≤ 1048576) :
    Calls Try.prog 13 #[.agg #[.slice A1 n1 c1, .slice A2 n2 c2, .slice A3 n3 c3, .slice A4 n4 c4, .slice A5 n5 c5]] w (Ret2 (hourR n1 r).1 (hourR n1 r).2 w) := by
  have hL := hat.s5.len
  have hm5 := hat.s5.max
  have hc5 := hat.s5.cap
  have hin := RoomIn.new w A1 A2 A3 A4 A5 n1 c1 n2 c2 n3 c3 n4 c4 n5 c5 41
  cases hb : roomB n1 r
  · have HR := hide (show hourR n1 r = (0, 1) by unfold hourR; rw [hb]; rfl)
    rw [HR.out]
    clear hL
    go_enter Try.func13, Try.ntmps13
    go_wp2_with fail
    refine (c_specIsRoom A1 A2 A3 A4 A5 n1 c1 n2 c2 n3 c3 n4 c4 n5 c5 r _ (hat.ext (Ext.alloc _ _)) hnm).mono ?_
    rw [hb]
    rintro e w1 ⟨rfl, hx1⟩
    go_wp2_with fail
    go_ret2
    exact ⟨rfl, hx1.box⟩
  · have HR := hide (show hourR n1 r = ((n5 : Int) - 1, 0) by unfold hourR; rw [hb, hL]; rfl)
    rw [HR.out]
    clear hL
    go_enter Try.func13, Try.ntmps13
    go_wp2_with fail
    refine (c_specIsRoom A1 A2 A3 A4 A5 n1 c1 n2 c2 n3 c3 n4 c4 n5 c5 r _ (hat.ext (Ext.alloc _ _)) hnm).mono ?_
    rw [hb]
    rintro e w1 ⟨rfl, hx1⟩
    obtain ⟨hlt, x0, x1, x2, x3, x4⟩ := hin.ext hx1
    go_wp2_with fail
    go_ret2
    exact ⟨rfl, hx1.box⟩
end Go.Proofs.Ytjpmiokbgpggbaa

namespace Go.Proofs.Ytjpmiokbgpggbaa
open Go.RowKit

theorem node_info : (Try.prog.info? 126).map (fun i => (i.zero, i.size, i.bytes)) = some (some (.agg #[.string ByteArray.empty, .int .i64 0, .int .i64 0]), 3, 32) := by kernel_rfl

theorem c_toNode (x : Node) (w : World) :
    Calls Try.prog 96 #[.agg #[.string x.name, .int .i64 x.low, .int .i64 x.high]] w (Ret (.agg #[.string x.name, .int .i64 x.low, .int .i64 x.high]) w) := by
  go_enter Try.func96, Try.ntmps96
  go_wp2
  exact bodyPost_ret (v := .agg #[.string x.name, .int .i64 x.low, .int .i64 x.high]) (by simp [results, Try.results96, go_sem]) rfl ⟨rfl, (((Ext.refl _).and_alloc _).and_alloc _).and_alloc _⟩

theorem c_eqNode (x : Node) (w : World) :
    Calls Try.prog 102 #[.agg #[.string x.name, .int .i64 x.low, .int .i64 x.high], .agg #[.string x.name, .int .i64 x.low, .int .i64 x.high]] w (Ret (.bool true) w) := by
  go_enter Try.func102, Try.ntmps102
  go_wp2
  go_ret
  exact Ret.bool rfl (((Ext.refl _).and_alloc _).and_alloc _)



set_option maxHeartbeats 1000000 in
theorem c_toNodeS (A : Option Addr) (n c : Nat) (ts : List Node) (w : World) (hs : SliceOf w 3 Node.cells A n c ts) (hn : n ≤ 1048576) :
    Calls Try.prog 54 #[.slice A n c] w (NewRow 126 Node.cells ts w) := by
  have hmk := fun W => run_make_flat (P := Try.prog) 33 126 _ _ 3 32 Try.underlying33 node_info (f := Node.cells) ⟨ByteArray.empty, 0, 0⟩ rfl rfl rfl (by omega) n (by omega) (by omega) W
  have hR0 := Row.new w 126 ((List.replicate n (⟨ByteArray.empty, 0, 0⟩ : Node)).flatMap Node.cells)
  go_enter Try.func54, Try.ntmps54
  go_wp2_with fail
  go_loopw [4] (fun i wr => ∃ (k : Nat) (L : List Node), k ≤ n ∧ i = .int .i64 k ∧ L.length = n ∧ RowOf wr w.heap.size 126 Node.cells L ∧ Hid (∀ j, j < k → L[j]? = ts[j]?) ∧ Ext w wr) (fun i _ => n - (intOf i).toNat)
  case atStart => exact ⟨0, _, Nat.zero_le _, rfl, List.length_replicate, hR0, hide (fun j hj => absurd hj (by omega)), Ext.alloc _ _⟩
  case round =>
    obtain ⟨k, L, hk, rfl, hL, hrow, HK, hx⟩ := hrel
    clear hR0 hmk
    have hgs := hrow.lt
    by_cases hlt : k < n
    · obtain ⟨b, off, x, rfl, hb, hxk, hc⟩ := (hs.ext hx).get hlt
      have hc0 := hc 0 _ rfl
      have hc1 := hc 1 _ rfl
      have hc2 := hc 2 _ rfl
      clear hc
      simp only [Nat.add_zero] at hc0
      have Hx := hide hxk
      have HL := hide hL
      clear hxk hL
      go_wp2_with (go_at_call 96; refine (c_toNode x _).mono ?_; rintro e w1 ⟨rfl, hx1⟩; have hrow1 := hrow.ext hx1; obtain ⟨v0, hv0⟩ := hrow1.there node_len (i := k) (by rw [HL.out]; exact hlt) (j := 0) (by omega); have hf0 := hrow1.frozen (k * 3); obtain ⟨v1, hv1⟩ := hrow1.there node_len (i := k) (by rw [HL.out]; exact hlt) (j := 1) (by omega); have hf1 := hrow1.frozen (k * 3 + 1); obtain ⟨v2, hv2⟩ := hrow1.there node_len (i := k) (by rw [HL.out]; exact hlt) (j := 2) (by omega); have hf2 := hrow1.frozen (k * 3 + 2); rw [Nat.add_zero] at hv0)
      go_roundw
      case rel =>
        refine ⟨k + 1, L.set k x, by omega, by go_num, by simpa using HL.out, hrow1.put node_len (by rw [HL.out]; exact hlt) x, hide ?_, (hx.trans hx1).put (Nat.le_refl _) (k * 3) x.cells⟩
        intro j hj
        rw [List.getElem?_set]
        by_cases e : k = j
        · subst e; rw [if_pos rfl, if_pos (by rw [HL.out]; exact hlt), Hx.out]
        · rw [if_neg e]; exact HK.out j (by omega)
      case measure => simp [intOf]; omega
    · go_wp2
      go_ret
      have hLts : L = ts := by
        apply List.ext_getElem?
        intro j
        by_cases hj : j < n
        · exact HK.out j (by omega)
        · rw [List.getElem?_eq_none (by omega), List.getElem?_eq_none (by have := hs.len; omega)]
      subst hLts
      refine ⟨w.heap.size, ?_, Nat.le_refl _, hrow, hx⟩
      rw [hL]; rfl

set_option maxHeartbeats 1000000 in
theorem c_eqNodeS (A A' : Option Addr) (n c n' c' : Nat) (ts : List Node) (w : World) (hs : SliceOf w 3 Node.cells A n c ts) (hs' : SliceOf w 3 Node.cells A' n' c' ts) :
    Calls Try.prog 59 #[.slice A n c, .slice A' n' c'] w (Ret (.bool true) w) := by
  have hl := hs.len
  obtain rfl : n = n' := by rw [hs.len, hs'.len]
  have hm := hs.max
  have hcp := hs.cap
  clear hl
  go_enter Try.func59, Try.ntmps59
  go_wp2_with fail
  go_loopw [5] (fun i wr => ∃ (k : Nat), k ≤ n ∧ i = .int .i64 k ∧ Ext w wr) (fun i _ => n - (intOf i).toNat)
  case atStart => exact ⟨0, Nat.zero_le _, rfl, Ext.refl _⟩
  case round =>
    obtain ⟨k, hk, rfl, hx⟩ := hrel
    by_cases hlt : k < n
    · obtain ⟨b, off, x, rfl, hb, hxk, hc⟩ := (hs.ext hx).get hlt
      obtain ⟨b', off', x', rfl, hb', hxk', hc'⟩ := (hs'.ext hx).get hlt
      obtain rfl : x = x' := by rw [hxk] at hxk'; injection hxk'
      have hc0 := hc 0 _ rfl
      have hc1 := hc 1 _ rfl
      have hc2 := hc 2 _ rfl
      have hd0 := hc' 0 _ rfl
      have hd1 := hc' 1 _ rfl
      have hd2 := hc' 2 _ rfl
      clear hc hc' hxk hxk'
      simp only [Nat.add_zero] at hc0 hd0
      go_wp2_with fail
      refine wp_region_later (by kernel_rfl) (by kernel_rfl) ?_
      repeat (go_big_quiet_step ((go_at_call 102; exact quiet_later (c_eqNode x _))))
      refine wpQuiet_nil ?_
      intro w1 hx1
      go_wp2
      go_roundw
      case rel => exact ⟨k + 1, by omega, by go_num, hx.trans hx1⟩
      case measure => simp [intOf]; omega
    · go_wp2
      go_ret
      exact Ret.bool rfl hx




end Go.Proofs.Ytjpmiokbgpggbaa
