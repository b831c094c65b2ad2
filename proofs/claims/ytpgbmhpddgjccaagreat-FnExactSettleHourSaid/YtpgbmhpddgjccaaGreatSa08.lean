/-
  Rooms: validity, of the reference; the current hour, of both. The helpers of the laws on Node: copying, comparing, measuring, marking. The helpers of the laws on nodes, networks, lists of lists: measuring. The helpers of the laws on lists of lists of readings: measuring, copying, comparing.
-/
import Derived.Test.YtpgbmhpddgjccaaGreatSa07
import Derived.Test.YtpgbmhpddgjccaaGreatSa02
import Derived.Test.YtpgbmhpddgjccaaGreatSa01
namespace Go.Proofs.YtpgbmhpddgjccaaGreat
open Go.RowKit
set_option maxHeartbeats 4000000 in
theorem c_specIsRoom (A1 A2 A3 A4 A5 : Option Addr) (n1 c1 n2 c2 n3 c3 n4 c4 n5 c5 : Nat) (r : Room) (w : World) (hat : RoomAt w A1 A2 A3 A4 A5 n1 c1 n2 c2 n3 c3 n4 c4 n5 c5 r) (hnm : ∀ x ∈ r.ns, x.name.size ≤ 1048576) :
    Calls Tryz.prog 133 #[.agg #[.slice A1 n1 c1, .slice A2 n2 c2, .slice A3 n3 c3, .slice A4 n4 c4, .slice A5 n5 c5]] w (Ret (.bool (roomB n1 r)) w) := by
  have hL := hat.s5.len
  have hm1 := hat.s1.max
  have hc1 := hat.s1.cap
  have hm5 := hat.s5.max
  have hc5 := hat.s5.cap
  have hin := RoomIn.new w A1 A2 A3 A4 A5 n1 c1 n2 c2 n3 c3 n4 c4 n5 c5 82
  have HNM := hide hnm
  clear hnm
  cases h1 : nomsOk n1 r.ns r.ps r.xs r.L
  · have HR := hide (show roomB n1 r = false by simp [roomB, h1])
    clear hL
    go_enter Tryz.func133, Tryz.ntmps133
    go_wp2_with fail
    refine (c_specAreNominations A1 A2 n1 c1 n2 c2 r.ns r.ps A3 n3 c3 r.xs A4 n4 c4 r.L _ (hat.s1.ext (Ext.alloc _ _)) (hat.s2.ext (Ext.alloc _ _)) (hat.s3.ext (Ext.alloc _ _)) (hat.s4.ext (Ext.alloc _ _)) HNM.out).mono ?_
    rw [h1]
    rintro e w1 ⟨rfl, hx1⟩
    go_wp2_with fail
    go_ret
    exact Ret.bool HR.out hx1.box
  cases h2 : inB (n5 : Int) 1 48
  · have HR := hide (show roomB n1 r = false by unfold roomB; rw [← hL, h1, h2]; rfl)
    clear hL
    go_enter Tryz.func133, Tryz.ntmps133
    go_wp2_with fail
    refine (c_specAreNominations A1 A2 n1 c1 n2 c2 r.ns r.ps A3 n3 c3 r.xs A4 n4 c4 r.L _ (hat.s1.ext (Ext.alloc _ _)) (hat.s2.ext (Ext.alloc _ _)) (hat.s3.ext (Ext.alloc _ _)) (hat.s4.ext (Ext.alloc _ _)) HNM.out).mono ?_
    rw [h1]
    rintro e w1 ⟨rfl, hx1⟩
    obtain ⟨hlt, x0, x1, x2, x3, x4⟩ := hin.ext hx1
    go_wp2_with (go_at_call 189; refine (c_l01In _ _ _ _).mono ?_; rintro e w' ⟨rfl, rfl⟩)
    go_ret
    exact Ret.bool HR.out hx1.box
  have HR := hide (show roomB n1 r = r.rs.all (fun q => readsB n1 q.xs) by unfold roomB; rw [← hL, h1, h2]; rfl)
  have HLN := hide hL
  clear hL
  go_enter Tryz.func133, Tryz.ntmps133
  go_wp2_with fail
  refine (c_specAreNominations A1 A2 n1 c1 n2 c2 r.ns r.ps A3 n3 c3 r.xs A4 n4 c4 r.L _ (hat.s1.ext (Ext.alloc _ _)) (hat.s2.ext (Ext.alloc _ _)) (hat.s3.ext (Ext.alloc _ _)) (hat.s4.ext (Ext.alloc _ _)) HNM.out).mono ?_
  rw [h1]
  rintro e w1 ⟨rfl, hx1⟩
  clear h1
  obtain ⟨hlt, x0, x1, x2, x3, x4⟩ := hin.ext hx1
  go_wp2_with (go_at_call 189; refine (c_l01In _ _ _ _).mono ?_; rintro e w' ⟨rfl, rfl⟩)
  clear hlt x0 x1 x2 x3 x4 h2
  go_loopw [3] (fun i wr => ∃ k : Nat, k ≤ n5 ∧ i = .int .i64 k ∧ Hid (∀ (j : Nat) (p : RS), j < k → r.rs[j]? = some p → readsB n1 p.xs = true) ∧ Ext w1 wr) (fun i _ => n5 - (intOf i).toNat)
  case atStart => exact ⟨0, Nat.zero_le _, rfl, hide (fun j p hj => absurd hj (by omega)), Ext.refl _⟩
  case round =>
    obtain ⟨k, hk, rfl, HK, hx⟩ := hrel
    have hxw := hx1.box.trans hx
    obtain ⟨hlt', x0, x1, x2, x3, x4⟩ := hin.ext (hx1.trans hx)
    by_cases hlt : k < n5
    · obtain ⟨bb, off, p, rfl, hbb, hxk, t⟩ := (hat.s5.ext hxw).get hlt
      have t0 := t 0 _ rfl
      simp only [Nat.add_zero, Nat.mul_one] at t0
      have HX := hide hxk
      have HP := hide (List.mem_of_getElem? hxk)
      clear hxk t
      go_wp2_with fail
      refine wp_region_ph [([0, 1, 2, 3, 4, 5, 6], 7)] [8] (by kernel_rfl) (by kernel_rfl) (by intro c a w d v h; cases d <;> exact h) ?_
      simp only [wpPh, pickL, nthO]
      repeat (go_big_quiet_step (fail))
      refine wpQuiet_nil ?_
      go_wp2_with fail
      refine (c_l28List A1 A2 n1 c1 n2 c2 p.A p.n p.c p.xs _ (by omega) ((hat.s6 p HP.out).ext hxw.drew)).mono ?_
      cases hp : readsB n1 p.xs
      · have HF := hide (show roomB n1 r = false by rw [HR.out, List.all_eq_false]; exact ⟨p, HP.out, by simp [hp]⟩)
        rintro e w2 ⟨rfl, hx2⟩
        go_wp2_with fail
        refine ⟨hx2, ?_⟩
        repeat (go_big_quiet_step (fail))
        refine wpQuiet_nil ?_
        go_wp2_with fail
        go_ret
        exact Ret.bool HF.out (hxw.drew.trans hx2)
      · rintro e w2 ⟨rfl, hx2⟩
        go_wp2_with fail
        refine ⟨hx2, ?_⟩
        repeat (go_big_quiet_step (fail))
        refine wpQuiet_nil ?_
        go_wp2_with fail
        go_roundw
        case rel =>
          refine ⟨k + 1, by omega, by go_num, hide fun j q hj hq => ?_, hx.drew.trans hx2⟩
          by_cases e : j = k
          · subst e; rw [HX.out] at hq; injection hq with hq; subst hq; exact hp
          · exact HK.out j q (by omega) hq
        case measure => simp [intOf]; omega
    · have HF := hide (show roomB n1 r = true by
        rw [HR.out, List.all_eq_true]; intro q hq
        obtain ⟨j, hj, rfl⟩ := List.mem_iff_getElem.1 hq
        exact HK.out j _ (by have := HLN.out; omega) (List.getElem?_eq_getElem hj))
      go_wp2_with fail
      go_ret
      exact Ret.bool HF.out hxw

/-- a number and a code -/
def Ret2 (a b : Int) (w : World) (e : Ending) (w' : World) : Prop := e = .returned (.tuple #[.int .i64 a, .int .i64 b]) ∧ Ext w w'
def hourR (n1 : Int) (r : Room) : Int × Int := if roomB n1 r = true then ((r.rs.length : Int) - 1, 0) else (0, 1)
set_option maxHeartbeats 1000000 in
theorem c_CurrentHour (A1 A2 A3 A4 A5 : Option Addr) (n1 c1 n2 c2 n3 c3 n4 c4 n5 c5 : Nat) (r : Room) (w : World) (hat : RoomAt w A1 A2 A3 A4 A5 n1 c1 n2 c2 n3 c3 n4 c4 n5 c5 r) :
    Calls Tryz.prog 51 #[.agg #[.slice A1 n1 c1, .slice A2 n2 c2, .slice A3 n3 c3, .slice A4 n4 c4, .slice A5 n5 c5]] w (Ret2 (hourR n1 r).1 (hourR n1 r).2 w) := by
  have hL := hat.s5.len
  have hm5 := hat.s5.max
  have hc5 := hat.s5.cap
  have hin := RoomIn.new w A1 A2 A3 A4 A5 n1 c1 n2 c2 n3 c3 n4 c4 n5 c5 82
  cases hb : roomB n1 r
  · have HR := hide (show hourR n1 r = (0, 1) by unfold hourR; rw [hb]; rfl)
    rw [HR.out]
    clear hL
    go_enter Tryz.func51, Tryz.ntmps51
    go_wp2_with fail
    refine (c_IsRoom A1 A2 A3 A4 A5 n1 c1 n2 c2 n3 c3 n4 c4 n5 c5 r _ (hat.ext (Ext.alloc _ _))).mono ?_
    rw [hb]
    rintro e w1 ⟨rfl, hx1⟩
    go_wp2_with fail
    go_ret2
    exact ⟨rfl, hx1.box⟩
  · have HR := hide (show hourR n1 r = ((n5 : Int) - 1, 0) by unfold hourR; rw [hb, hL]; rfl)
    rw [HR.out]
    clear hL
    go_enter Tryz.func51, Tryz.ntmps51
    go_wp2_with fail
    refine (c_IsRoom A1 A2 A3 A4 A5 n1 c1 n2 c2 n3 c3 n4 c4 n5 c5 r _ (hat.ext (Ext.alloc _ _))).mono ?_
    rw [hb]
    rintro e w1 ⟨rfl, hx1⟩
    obtain ⟨hlt, x0, x1, x2, x3, x4⟩ := hin.ext hx1
    go_wp2_with fail
    go_ret2
    exact ⟨rfl, hx1.box⟩
end Go.Proofs.YtpgbmhpddgjccaaGreat

namespace Go.Proofs.YtpgbmhpddgjccaaGreat
open Go.RowKit

theorem node_info : (Tryz.prog.info? 210).map (fun i => (i.zero, i.size, i.bytes)) = some (some (.agg #[.string ByteArray.empty, .int .i64 0, .int .i64 0]), 3, 32) := by kernel_rfl

theorem c_toNode (x : Node) (w : World) :
    Calls Tryz.prog 165 #[.agg #[.string x.name, .int .i64 x.low, .int .i64 x.high]] w (Ret (.agg #[.string x.name, .int .i64 x.low, .int .i64 x.high]) w) := by
  go_enter Tryz.func165, Tryz.ntmps165
  go_wp2
  exact bodyPost_ret (v := .agg #[.string x.name, .int .i64 x.low, .int .i64 x.high]) (by simp [results, Tryz.results165, go_sem]) rfl ⟨rfl, (((Ext.refl _).and_alloc _).and_alloc _).and_alloc _⟩

theorem c_eqNode (x : Node) (w : World) :
    Calls Tryz.prog 176 #[.agg #[.string x.name, .int .i64 x.low, .int .i64 x.high], .agg #[.string x.name, .int .i64 x.low, .int .i64 x.high]] w (Ret (.bool true) w) := by
  go_enter Tryz.func176, Tryz.ntmps176
  go_wp2
  go_ret
  exact Ret.bool rfl (((Ext.refl _).and_alloc _).and_alloc _)



set_option maxHeartbeats 1000000 in
theorem c_toNodeS (A : Option Addr) (n c : Nat) (ts : List Node) (w : World) (hs : SliceOf w 3 Node.cells A n c ts) (hn : n ≤ 1048576) :
    Calls Tryz.prog 99 #[.slice A n c] w (NewRow 210 Node.cells ts w) := by
  have hmk := fun W => run_make_flat (P := Tryz.prog) 42 210 _ _ 3 32 Tryz.underlying42 node_info (f := Node.cells) ⟨ByteArray.empty, 0, 0⟩ rfl rfl rfl (by omega) n (by omega) (by omega) W
  have hR0 := Row.new w 210 ((List.replicate n (⟨ByteArray.empty, 0, 0⟩ : Node)).flatMap Node.cells)
  go_enter Tryz.func99, Tryz.ntmps99
  go_wp2_with fail
  go_loopw [4] (fun i wr => ∃ (k : Nat) (L : List Node), k ≤ n ∧ i = .int .i64 k ∧ L.length = n ∧ RowOf wr w.heap.size 210 Node.cells L ∧ Hid (∀ j, j < k → L[j]? = ts[j]?) ∧ Ext w wr) (fun i _ => n - (intOf i).toNat)
  case atStart => exact ⟨0, _, Nat.zero_le _, rfl, List.length_replicate, hR0, hide (fun j hj => absurd hj (by omega)), Ext.alloc _ _⟩
  case round =>
    obtain ⟨k, L, hk, rfl, hL, hrow, HK, hx⟩ := hrel
    clear hR0 hmk
    have hgs := hrow.lt
    by_cases hlt : k < n
    · obtain ⟨b, off, x, rfl, hb, hxk, hc⟩ := (hs.ext hx).get hlt
      have hc0 := hc 0 _ rfl
      have hc1 := hc 1 _ rfl
      have hc2 := hc 2 _ rfl
      clear hc
      simp only [Nat.add_zero] at hc0
      have Hx := hide hxk
      have HL := hide hL
      clear hxk hL
      go_wp2_with (go_at_call 165; refine (c_toNode x _).mono ?_; rintro e w1 ⟨rfl, hx1⟩; have hrow1 := hrow.ext hx1; obtain ⟨v0, hv0⟩ := hrow1.there node_len (i := k) (by rw [HL.out]; exact hlt) (j := 0) (by omega); have hf0 := hrow1.frozen (k * 3); obtain ⟨v1, hv1⟩ := hrow1.there node_len (i := k) (by rw [HL.out]; exact hlt) (j := 1) (by omega); have hf1 := hrow1.frozen (k * 3 + 1); obtain ⟨v2, hv2⟩ := hrow1.there node_len (i := k) (by rw [HL.out]; exact hlt) (j := 2) (by omega); have hf2 := hrow1.frozen (k * 3 + 2); rw [Nat.add_zero] at hv0)
      go_roundw
      case rel =>
        refine ⟨k + 1, L.set k x, by omega, by go_num, by simpa using HL.out, hrow1.put node_len (by rw [HL.out]; exact hlt) x, hide ?_, (hx.trans hx1).put (Nat.le_refl _) (k * 3) x.cells⟩
        intro j hj
        rw [List.getElem?_set]
        by_cases e : k = j
        · subst e; rw [if_pos rfl, if_pos (by rw [HL.out]; exact hlt), Hx.out]
        · rw [if_neg e]; exact HK.out j (by omega)
      case measure => simp [intOf]; omega
    · go_wp2
      go_ret
      have hLts : L = ts := by
        apply List.ext_getElem?
        intro j
        by_cases hj : j < n
        · exact HK.out j (by omega)
        · rw [List.getElem?_eq_none (by omega), List.getElem?_eq_none (by have := hs.len; omega)]
      subst hLts
      refine ⟨w.heap.size, ?_, Nat.le_refl _, hrow, hx⟩
      rw [hL]; rfl

set_option maxHeartbeats 1000000 in
theorem c_eqNodeS (A A' : Option Addr) (n c n' c' : Nat) (ts : List Node) (w : World) (hs : SliceOf w 3 Node.cells A n c ts) (hs' : SliceOf w 3 Node.cells A' n' c' ts) :
    Calls Tryz.prog 108 #[.slice A n c, .slice A' n' c'] w (Ret (.bool true) w) := by
  have hl := hs.len
  obtain rfl : n = n' := by rw [hs.len, hs'.len]
  have hm := hs.max
  have hcp := hs.cap
  clear hl
  go_enter Tryz.func108, Tryz.ntmps108
  go_wp2_with fail
  go_loopw [5] (fun i wr => ∃ (k : Nat), k ≤ n ∧ i = .int .i64 k ∧ Ext w wr) (fun i _ => n - (intOf i).toNat)
  case atStart => exact ⟨0, Nat.zero_le _, rfl, Ext.refl _⟩
  case round =>
    obtain ⟨k, hk, rfl, hx⟩ := hrel
    by_cases hlt : k < n
    · obtain ⟨b, off, x, rfl, hb, hxk, hc⟩ := (hs.ext hx).get hlt
      obtain ⟨b', off', x', rfl, hb', hxk', hc'⟩ := (hs'.ext hx).get hlt
      obtain rfl : x = x' := by rw [hxk] at hxk'; injection hxk'
      have hc0 := hc 0 _ rfl
      have hc1 := hc 1 _ rfl
      have hc2 := hc 2 _ rfl
      have hd0 := hc' 0 _ rfl
      have hd1 := hc' 1 _ rfl
      have hd2 := hc' 2 _ rfl
      clear hc hc' hxk hxk'
      simp only [Nat.add_zero] at hc0 hd0
      go_wp2_with fail
      refine wp_region_later (by kernel_rfl) (by kernel_rfl) ?_
      repeat (go_big_quiet_step ((go_at_call 176; exact quiet_later (c_eqNode x _))))
      refine wpQuiet_nil ?_
      intro w1 hx1
      go_wp2
      go_roundw
      case rel => exact ⟨k + 1, by omega, by go_num, hx.trans hx1⟩
      case measure => simp [intOf]; omega
    · go_wp2
      go_ret
      exact Ret.bool rfl hx




end Go.Proofs.YtpgbmhpddgjccaaGreat

namespace Go.Proofs.YtpgbmhpddgjccaaGreat
open Go.RowKit
/-- what a measuring helper leaves: -1, or what is left and what is known then -/
def Sized (P : Prop) (left : Int) (w : World) (e : Ending) (w' : World) : Prop := ∃ z : Int, e = .returned (.int .i64 z) ∧ Ext w w' ∧ (z = -1 ∨ (0 ≤ z ∧ z ≤ left ∧ P))
def Named (ns : List Node) : Prop := ∀ x ∈ ns, x.name.size ≤ 1048576
def Named0 (ns : List Node) : Prop := ∀ x ∈ ns, x.name.size ≤ 9223372036854775807
theorem c_szNode (x : Node) (left : Int) (w : World) (h0 : 0 ≤ left) (h1 : left ≤ 1048576) (hx : x.name.size ≤ 9223372036854775807) :
    Calls Tryz.prog 158 #[.agg #[.string x.name, .int .i64 x.low, .int .i64 x.high], .int .i64 left] w (Sized (x.name.size ≤ 1048576) left w) := by
  by_cases h : left < x.name.size
  · have e1 : IntKind.i64.wrap (left - (x.name.size : Int)) = left - (x.name.size : Int) := IntWalk.i64_in _ (by omega)
    have h' : left - (x.name.size : Int) < 0 := by omega
    go_enter Tryz.func158, Tryz.ntmps158
    go_wp2_with fail
    go_ret
    exact ⟨-1, rfl, Ext.alloc _ _, .inl rfl⟩
  · have e1 : IntKind.i64.wrap (left - (x.name.size : Int)) = left - (x.name.size : Int) := IntWalk.i64_in _ (by omega)
    have h' : ¬ left - (x.name.size : Int) < 0 := by omega
    go_enter Tryz.func158, Tryz.ntmps158
    go_wp2_with fail
    go_ret
    exact ⟨_, rfl, Ext.alloc _ _, .inr ⟨by omega, by omega, by omega⟩⟩
set_option maxHeartbeats 1000000 in
theorem c_szNodeS (A : Option Addr) (n c : Nat) (ns : List Node) (left : Int) (w : World) (hs : SliceOf w 3 Node.cells A n c ns) (hnm : Named0 ns) (h0 : 0 ≤ left) (h1 : left ≤ 1048576) :
    Calls Tryz.prog 91 #[.slice A n c, .int .i64 left] w (Sized (n ≤ 1048576 ∧ Named ns) left w) := by
  have hm := hs.max
  have hcap := hs.cap
  have HL := hide hs.len
  have HNM := hide hnm
  clear hnm
  by_cases h : left < n
  · have h' : left - (n : Int) < 0 := by omega
    go_enter Tryz.func91, Tryz.ntmps91
    go_wp2_with fail
    go_ret
    exact ⟨-1, rfl, Ext.refl _, .inl rfl⟩
  have h' : ¬ left - (n : Int) < 0 := by omega
  have hn : n ≤ 1048576 := by omega
  go_enter Tryz.func91, Tryz.ntmps91
  go_wp2_with fail
  go_loopw [1, 5] (fun z i wr => ∃ (k : Nat) (y : Int), k ≤ n ∧ z = .int .i64 y ∧ i = .int .i64 k ∧ 0 ≤ y ∧ y ≤ left ∧ Hid (∀ (j : Nat) (p : Node), j < k → ns[j]? = some p → p.name.size ≤ 1048576) ∧ Ext w wr) (fun _ i _ => n - (intOf i).toNat)
  case atStart => exact ⟨0, _, Nat.zero_le _, rfl, rfl, by omega, by omega, hide (fun j p hj => absurd hj (by omega)), Ext.refl _⟩
  case round =>
    obtain ⟨k, y, hk, rfl, rfl, hy0, hy1, HK, hx⟩ := hrel
    by_cases hlt : k < n
    · obtain ⟨bb, off, p, rfl, hbb, hxk, t⟩ := (hs.ext hx).get hlt
      have t0 := t 0 _ rfl
      have t1 := t 1 _ rfl
      have t2 := t 2 _ rfl
      simp only [Nat.add_zero] at t0
      have hp := HNM.out p (List.mem_of_getElem? hxk)
      have HX := hide hxk
      clear hxk t
      go_wp2_with fail
      refine (c_szNode p y _ hy0 (by omega) hp).mono ?_
      rintro e w1 ⟨z, rfl, hx1, rfl | ⟨hz0, hz1, hz2⟩⟩
      · go_wp2_with fail
        go_ret
        exact ⟨-1, rfl, hx.trans hx1, .inl rfl⟩
      · have hz' : ¬ z < 0 := by omega
        go_wp2_with fail
        go_roundw
        case rel =>
          refine ⟨k + 1, z, by omega, rfl, by go_num, by omega, by omega, hide fun j q hj hq => ?_, hx.trans hx1⟩
          by_cases e : j = k
          · subst e; rw [HX.out] at hq; injection hq with hq; subst hq; exact hz2
          · exact HK.out j q (by omega) hq
        case measure => simp [intOf]; omega
    · go_wp2_with fail
      go_ret
      refine ⟨y, rfl, hx, .inr ⟨hy0, hy1, hn, fun q hq => ?_⟩⟩
      obtain ⟨j, hj, rfl⟩ := List.mem_iff_getElem.1 hq
      exact HK.out j _ (by have := HL.out; omega) (List.getElem?_eq_getElem hj)
theorem c_szNetwork (A1 A2 : Option Addr) (n1 c1 n2 c2 : Nat) (ns : List Node) (left : Int) (w : World) (hs1 : SliceOf w 3 Node.cells A1 n1 c1 ns) (h21 : n2 ≤ c2) (h22 : c2 ≤ 9223372036854775807) (hnm : Named0 ns) (h0 : 0 ≤ left) (h1 : left ≤ 1048576) :
    Calls Tryz.prog 17 #[.agg #[.slice A1 n1 c1, .slice A2 n2 c2], .int .i64 left] w (Sized ((n1 ≤ 1048576 ∧ Named ns) ∧ n2 ≤ 1048576) left w) := by
  go_enter Tryz.func17, Tryz.ntmps17
  go_wp2_with fail
  refine (c_szNodeS A1 n1 c1 ns left _ (hs1.ext (Ext.alloc _ _)) hnm h0 h1).mono ?_
  rintro e w1 ⟨z, rfl, hx1, rfl | ⟨hz0, hz1, hz2⟩⟩
  · go_wp2_with fail
    go_ret
    exact ⟨-1, rfl, hx1.box, .inl rfl⟩
  have hz' : ¬ z < 0 := by omega
  have hcl := hx1.cell
  go_wp2_with fail
  refine (c_szPipeS A2 n2 c2 z _ h21 h22 hz0 (by omega)).mono ?_
  rintro e w' ⟨rfl, rfl⟩
  by_cases h : z < n2
  · rw [if_pos h]
    go_wp2_with fail
    go_ret
    exact ⟨-1, rfl, hx1.box, .inl rfl⟩
  · rw [if_neg h]
    have h' : ¬ z - (n2 : Int) < 0 := by omega
    go_wp2_with fail
    go_ret
    exact ⟨_, rfl, hx1.box, .inr ⟨by omega, by omega, hz2, by omega⟩⟩
end Go.Proofs.YtpgbmhpddgjccaaGreat

namespace Go.Proofs.YtpgbmhpddgjccaaGreat
open Go.RowKit
theorem sum_take {rs : List RS} {k : Nat} {p : RS} (h : rs[k]? = some p) : ((rs.take (k + 1)).map RS.n).sum = ((rs.take k).map RS.n).sum + p.n := by
  rw [List.take_add_one, h, List.map_append, List.sum_append]; simp
set_option maxHeartbeats 1000000 in
theorem c_szReadingSS (A : Option Addr) (n c : Nat) (rs : List RS) (left : Int) (w : World) (hs : SliceOf w 1 RS.cells A n c rs) (h6 : ∀ q ∈ rs, SliceOf w 2 Reading.cells q.A q.n q.c q.xs) (h0 : 0 ≤ left) (h1 : left ≤ 1048576) :
    Calls Tryz.prog 52 #[.slice A n c, .int .i64 left] w (Sized (n ≤ 1048576 ∧ (∀ q ∈ rs, q.n ≤ 1048576) ∧ (rs.map RS.n).sum ≤ 1048576) left w) := by
  have hm := hs.max
  have hcap := hs.cap
  have HL := hide hs.len
  by_cases h : left < n
  · have h' : left - (n : Int) < 0 := by omega
    go_enter Tryz.func52, Tryz.ntmps52
    go_wp2_with fail
    go_ret
    exact ⟨-1, rfl, Ext.refl _, .inl rfl⟩
  have h' : ¬ left - (n : Int) < 0 := by omega
  have hn : n ≤ 1048576 := by omega
  go_enter Tryz.func52, Tryz.ntmps52
  go_wp2_with fail
  go_loopw [1, 5] (fun z i wr => ∃ (k : Nat) (y : Int), k ≤ n ∧ z = .int .i64 y ∧ i = .int .i64 k ∧ 0 ≤ y ∧ y ≤ left ∧ Hid (∀ (j : Nat) (p : RS), j < k → rs[j]? = some p → p.n ≤ 1048576) ∧ Hid ((((rs.take k).map RS.n).sum : Int) + y ≤ left) ∧ Ext w wr) (fun _ i _ => n - (intOf i).toNat)
  case atStart => exact ⟨0, _, Nat.zero_le _, rfl, rfl, by omega, by omega, hide (fun j p hj => absurd hj (by omega)), hide (by simp; omega), Ext.refl _⟩
  case round =>
    obtain ⟨k, y, hk, rfl, rfl, hy0, hy1, HK, HS, hx⟩ := hrel
    by_cases hlt : k < n
    · obtain ⟨bb, off, p, rfl, hbb, hxk, t⟩ := (hs.ext hx).get hlt
      have t0 := t 0 _ rfl
      simp only [Nat.add_zero, Nat.mul_one] at t0
      have hp := h6 p (List.mem_of_getElem? hxk)
      have HX := hide hxk
      clear hxk t
      go_wp2_with fail
      refine (c_szReadingS p.A p.n p.c y _ hp.cap hp.max hy0 (by omega)).mono ?_
      by_cases hq : y < p.n
      · rw [if_pos hq]
        rintro e w' ⟨rfl, rfl⟩
        go_wp2_with fail
        go_ret
        exact ⟨-1, rfl, hx, .inl rfl⟩
      · rw [if_neg hq]
        rintro e w' ⟨rfl, rfl⟩
        have hz' : ¬ y - (p.n : Int) < 0 := by omega
        go_wp2_with fail
        go_roundw
        case rel =>
          refine ⟨k + 1, _, by omega, rfl, by go_num, by omega, by omega, hide fun j q hj hq => ?_, hide (by rw [sum_take HX.out]; have := HS.out; omega), hx⟩
          by_cases e : j = k
          · subst e; rw [HX.out] at hq; injection hq with hq; subst hq; omega
          · exact HK.out j q (by omega) hq
        case measure => simp [intOf]; omega
    · go_wp2_with fail
      go_ret
      refine ⟨y, rfl, hx, .inr ⟨hy0, hy1, hn, fun q hq => ?_, ?_⟩⟩
      · obtain ⟨j, hj, rfl⟩ := List.mem_iff_getElem.1 hq
        exact HK.out j _ (by have := HL.out; omega) (List.getElem?_eq_getElem hj)
      · have h1 := HS.out
        rw [List.take_of_length_le (by have := HL.out; omega)] at h1
        omega

theorem rs_info : (Tryz.prog.info? 60).map (fun i => (i.zero, i.size, i.bytes)) = some (some (.slice none 0 0), 1, 24) := by kernel_rfl
/-- a list of readings in a block of its own -/
def OwnRS (w : World) (g : Nat) (q : RS) : Prop := ∃ g1, g < g1 ∧ q.A = some ⟨g1, 0, none⟩ ∧ q.n = q.xs.length ∧ q.c = q.xs.length ∧ q.xs.length ≤ 1048576 ∧ RowOf w g1 169 Reading.cells q.xs
theorem OwnRS.ext {w w' : World} {g : Nat} {q : RS} (h : OwnRS w g q) (hx : Ext w w') : OwnRS w' g q := let ⟨g1, a, b, c, d, e, r⟩ := h; ⟨g1, a, b, c, d, e, r.ext hx⟩
theorem OwnRS.set {w : World} {g o : Nat} {q : RS} (h : OwnRS w g q) (u : Value) : OwnRS (w.setCell ⟨g, o, none⟩ u) g q := let ⟨g1, a, b, c, d, e, r⟩ := h; ⟨g1, a, b, c, d, e, r.far (p := ⟨g, o, none⟩) (by show g1 ≠ g; omega) u⟩
theorem OwnRS.slice {w : World} {g : Nat} {q : RS} (h : OwnRS w g q) : SliceOf w 2 Reading.cells q.A q.n q.c q.xs := by
  obtain ⟨g1, _, hA, hn, hc, hl, r⟩ := h
  rw [hA, hc, hn]
  exact r.slice reading_len rfl (by omega)
/-- lists at different places -/
def RsApart (rs : List RS) : Prop := ∀ (i j : Nat) (q q' : RS), i ≠ j → rs[i]? = some q → rs[j]? = some q' → q.A ≠ q'.A
/-- a new list of lists -/
def NewRS (rs : List RS) (w : World) (e : Ending) (w' : World) : Prop :=
  ∃ g rs', e = .returned (.slice (some ⟨g, 0, none⟩) rs.length rs.length) ∧ w.heap.size ≤ g ∧ RowOf w' g 60 RS.cells rs' ∧ rs'.map RS.xs = rs.map RS.xs ∧ (∀ q ∈ rs', OwnRS w' g q) ∧ RsApart rs' ∧ Ext w w'
theorem apart_put {L : List RS} {k : Nat} {y : RS} (h : RsApart (L.take k)) (hk : k < L.length) (hy : ∀ q ∈ L.take k, q.A ≠ y.A) : RsApart ((L.set k y).take (k + 1)) := by
  have he : (L.set k y).take (k + 1) = L.take k ++ [y] := by
    apply List.ext_getElem?
    intro j
    rw [List.getElem?_take, List.getElem?_set]
    by_cases h1 : j < k
    · rw [if_pos (by omega), if_neg (by omega), List.getElem?_append_left (by simp; omega), List.getElem?_take, if_pos h1]
    · by_cases h2 : j = k
      · subst h2; rw [if_pos (by omega), if_pos rfl, if_pos hk, List.getElem?_append_right (by simp; omega), show j - (List.take j L).length = 0 by rw [List.length_take]; omega]; rfl
      · rw [if_neg (by omega), List.getElem?_append_right (by simp; omega)]
        rw [List.getElem?_eq_none (by simp; omega)]
  rw [he]
  intro i j q q' hij hi hj
  rcases Nat.lt_or_ge i (L.take k).length with h1 | h1
  · rw [List.getElem?_append_left h1] at hi
    rcases Nat.lt_or_ge j (L.take k).length with h2 | h2
    · rw [List.getElem?_append_left h2] at hj
      exact h i j q q' hij hi hj
    · rw [List.getElem?_append_right h2, List.getElem?_singleton] at hj
      split at hj
      · injection hj with hj; subst hj; exact hy q (List.mem_of_getElem? hi)
      · cases hj
  · rw [List.getElem?_append_right h1, List.getElem?_singleton] at hi
    split at hi
    · injection hi with hi; subst hi
      rcases Nat.lt_or_ge j (L.take k).length with h2 | h2
      · rw [List.getElem?_append_left h2] at hj
        exact fun e => hy q' (List.mem_of_getElem? hj) e.symm
      · rw [List.getElem?_append_right h2, List.getElem?_singleton] at hj
        split at hj
        · omega
        · cases hj
    · cases hi
set_option maxRecDepth 8000 in
set_option maxHeartbeats 1000000 in
theorem c_toReadingSS (A : Option Addr) (n c : Nat) (rs : List RS) (w : World) (hs : SliceOf w 1 RS.cells A n c rs) (h6 : ∀ q ∈ rs, SliceOf w 2 Reading.cells q.A q.n q.c q.xs) (hn : n ≤ 1048576) (hq : ∀ q ∈ rs, q.n ≤ 1048576) :
    Calls Tryz.prog 54 #[.slice A n c] w (NewRS rs w) := by
  have hmk := fun W => run_make_flat (P := Tryz.prog) 75 60 _ _ 1 24 Tryz.underlying75 rs_info (f := RS.cells) ⟨none, 0, 0, []⟩ rfl rfl rfl (by omega) n (by omega) (by omega) W
  have hR0 := Row.new w 60 ((List.replicate n (⟨none, 0, 0, []⟩ : RS)).flatMap RS.cells)
  go_enter Tryz.func54, Tryz.ntmps54
  go_wp2_with fail
  go_loopw [4] (fun i wr => ∃ (k : Nat) (L : List RS), k ≤ n ∧ i = .int .i64 k ∧ L.length = n ∧ RowOf wr w.heap.size 60 RS.cells L ∧ Hid (∀ j, j < k → ∃ q, L[j]? = some q ∧ rs[j]?.map RS.xs = some q.xs ∧ OwnRS wr w.heap.size q) ∧ Hid (RsApart (L.take k)) ∧ Ext w wr) (fun i _ => n - (intOf i).toNat)
  case atStart => exact ⟨0, _, Nat.zero_le _, rfl, List.length_replicate, hR0, hide (fun j hj => absurd hj (by omega)), hide (fun i j q q' _ h => by simp at h), Ext.alloc _ _⟩
  case round =>
    obtain ⟨k, L, hk, rfl, hL, hrow, HK, HP, hx⟩ := hrel
    clear hR0 hmk
    have hgs := hrow.lt
    by_cases hlt : k < n
    · obtain ⟨b, off, x, rfl, hb, hxk, t⟩ := (hs.ext hx).get hlt
      have t0 := t 0 _ rfl
      simp only [Nat.add_zero, Nat.mul_one] at t0
      have hxm := List.mem_of_getElem? hxk
      have hx6 := h6 x hxm
      have hxn := hq x hxm
      have HXL := hide hx6.len
      have Hx := hide hxk
      have HL := hide hL
      clear t hxk hL
      go_wp2_with fail
      refine (c_toReadingS x.A x.n x.c x.xs _ (hx6.ext hx) hxn).mono ?_
      rintro e w1 ⟨g1, rfl, hg1, hr1, hx1⟩
      have hrow1 := hrow.ext hx1
      obtain ⟨v0, hv0⟩ := hrow1.there rs_len (i := k) (by rw [HL.out]; exact hlt) (j := 0) (by omega)
      have hf0 := hrow1.frozen k
      simp only [Nat.mul_one, Nat.add_zero] at hv0
      have hl1 := hrow1.lt
      go_wp2_with fail
      go_roundw
      case rel =>
        have hput := hrow1.put rs_len (i := k) (by rw [HL.out]; exact hlt) ⟨some ⟨g1, 0, none⟩, x.xs.length, x.xs.length, x.xs⟩
        rw [Nat.mul_one] at hput
        have hnew : OwnRS w1 w.heap.size ⟨some ⟨g1, 0, none⟩, x.xs.length, x.xs.length, x.xs⟩ := ⟨g1, by omega, rfl, rfl, rfl, by rw [← HXL.out]; exact hxn, hr1⟩
        refine ⟨k + 1, L.set k ⟨some ⟨g1, 0, none⟩, x.xs.length, x.xs.length, x.xs⟩, by omega, by go_num, by simpa using HL.out, hput, hide ?_, hide ?_, Ext.setCell (hx.trans hx1) (Nat.le_refl _) _⟩
        rotate_left
        · exact apart_put HP.out (by rw [HL.out]; exact hlt) (fun q hq => by
            obtain ⟨j, hj, hjq⟩ := List.mem_iff_getElem.1 hq
            simp at hj hjq
            obtain ⟨q', hq1, _, hq3⟩ := HK.out j (by omega)
            rw [List.getElem?_eq_getElem (by omega), hjq] at hq1
            injection hq1 with hq1
            subst hq1
            obtain ⟨g2, _, hA, _, _, _, hr2⟩ := hq3
            rw [hA]
            have := hr2.lt
            intro he
            injection he with he
            injection he with he
            omega)
        intro j hj
        rw [List.getElem?_set]
        by_cases e : k = j
        · subst e; rw [if_pos rfl, if_pos (by rw [HL.out]; exact hlt)]
          exact ⟨_, rfl, by rw [Hx.out]; rfl, hnew.set _⟩
        · rw [if_neg e]
          obtain ⟨q, hq1, hq2, hq3⟩ := HK.out j (by omega)
          exact ⟨q, hq1, hq2, (hq3.ext hx1).set _⟩
      case measure => simp [intOf]; omega
    · go_wp2
      go_ret
      have hkn : k = n := by omega
      subst hkn
      have hln := hs.len
      refine ⟨w.heap.size, L, by rw [← hln]; rfl, Nat.le_refl _, hrow, ?_, ?_, by have h := HP.out; rwa [List.take_of_length_le (by omega)] at h, hx⟩
      · apply List.ext_getElem?
        intro j
        by_cases hj : j < k
        · obtain ⟨q, hq1, hq2, _⟩ := HK.out j hj
          rw [List.getElem?_map, List.getElem?_map, hq1, hq2]; rfl
        · rw [List.getElem?_eq_none (by simp; omega), List.getElem?_eq_none (by simp; omega)]
      · intro q hq'
        obtain ⟨j, hj, rfl⟩ := List.mem_iff_getElem.1 hq'
        obtain ⟨q, hq1, _, hq3⟩ := HK.out j (by omega)
        rw [List.getElem?_eq_getElem hj] at hq1
        injection hq1 with hq1
        rw [hq1]; exact hq3
end Go.Proofs.YtpgbmhpddgjccaaGreat
