/-
  IsReachable of the program. The law's argument: a code of bytes. big of the laws. FnNewRooms: for every code the law returns true and the code reads as before.
-/
import Derived.Test.YtjpmiokbgpggbaaRa45
import Derived.Test.YtjpmiokbgpggbaaRa46
import Derived.Test.YtjpmiokbgpggbaaRa47
import Derived.Test.YtjpmiokbgpggbaaRa37
import Derived.Test.YtjpmiokbgpggbaaRa31
import Derived.Test.YtjpmiokbgpggbaaRa03
import Derived.Test.YtjpmiokbgpggbaaRa29
import Derived.Test.YtjpmiokbgpggbaaRa33
import Derived.Test.YtjpmiokbgpggbaaRa36
import Derived.Test.YtjpmiokbgpggbaaRa38
namespace Go.Proofs.Ytjpmiokbgpggbaa
open Go.RowKit
theorem appR_ns (R : Room) (e : Event) : (appR R e).ns = R.ns := by unfold appR; split <;> (try split) <;> rfl
theorem runEv_ns {n : Int} : ∀ {l : List Event} {R R' : Room}, runEv n R l = some R' → R'.ns = R.ns
  | [], R, R', hr => by simp only [runEv, Option.some.injEq] at hr; subst hr; rfl
  | x :: l, R, R', hr => by
    simp only [runEv] at hr
    split at hr
    · rw [runEv_ns (l := l) hr, appR_ns]
    · cases hr
/-- what stands behind the first events -/
def AtEv (n : Int) (r : Room) (k : Nat) (R : Room) : Prop := ∃ Rk, runEv n (newR r.ns r.ps r.xs) ((roomEv r).take k) = some Rk ∧ R.Like Rk
theorem AtEv.start {n : Int} {r R : Room} (h : R.Like (newR r.ns r.ps r.xs)) : AtEv n r 0 R := ⟨_, rfl, h⟩
theorem AtEv.ns {n : Int} {r R : Room} {k : Nat} (h : AtEv n r k R) : R.ns = r.ns := by
  obtain ⟨Rk, h1, h2⟩ := h
  rw [h2.1, runEv_ns h1]; rfl
theorem AtEv.ok {n : Int} {r R : Room} {k : Nat} (h : AtEv n r k R) (hr : roomB n r = true) : roomB n R = true := by
  obtain ⟨Rk, h1, h2⟩ := h
  rw [roomB_like h2]
  exact runEv_ok (newR_ok hr) h1
theorem AtEv.step {n : Int} {r R R' : Room} {k : Nat} {e : Event} (h : AtEv n r k R) (he : (roomEv r)[k]? = some e) (hb : appB n R e = true) (hl : R'.Like (appR R e)) : AtEv n r (k + 1) R' := by
  obtain ⟨Rk, h1, h2⟩ := h
  refine ⟨appR Rk e, ?_, hl.trans (appR_like h2 e)⟩
  rw [take_one he, runEv_snoc, h1, Option.bind_some, ← appB_like h2, if_pos hb]
theorem AtEv.stop {n : Int} {r R : Room} {k : Nat} {e : Event} (h : AtEv n r k R) (he : (roomEv r)[k]? = some e) (hb : appB n R e = false) : reachB n r = false := by
  obtain ⟨Rk, h1, h2⟩ := h
  have h3 : runEv n (newR r.ns r.ps r.xs) ((roomEv r).take (k + 1)) = none := by
    rw [take_one he, runEv_snoc, h1, Option.bind_some, ← appB_like h2, if_neg (by simp [hb])]
  have h4 := runEv_none h3 ((roomEv r).drop (k + 1))
  rw [List.take_append_drop] at h4
  unfold reachB
  rw [h4]; simp
theorem AtEv.done {n : Int} {r R : Room} {k : Nat} (h : AtEv n r k R) (hk : k = (roomEv r).length) (hr : roomB n r = true) (hlen : (roomEv r).length ≤ 300) : reachB n r = true ∧ R.Like r := by
  obtain ⟨Rk, h1, h2⟩ := h
  subst hk
  rw [List.take_length] at h1
  refine ⟨by unfold reachB; rw [hr, h1, decide_eq_true hlen]; rfl, h2.trans ?_⟩
  rw [runEv_fold h1]
  refine fold_room (fun he => ?_)
  simp only [roomB, Bool.and_eq_true, inB_true] at hr
  rw [he] at hr
  simp at hr
theorem RBlk.lt {w : World} {A1 A2 A3 A4 A5 : Option Addr} {n1 c1 n2 c2 n3 c3 n4 c4 n5 c5 : Nat} {r : Room} (h : RoomAt w A1 A2 A3 A4 A5 n1 c1 n2 c2 n3 c3 n4 c4 n5 c5 r) {b : Nat} (hb : RBlk A1 A2 A3 A4 A5 n1 n2 n3 n4 n5 r b) : b < w.heap.size := by
  rcases hb with hb | ⟨q, hq, hb⟩
  · simp only [List.mem_cons, List.not_mem_nil, or_false] at hb
    rcases hb with hb | hb | hb | hb | hb
    · exact h.s1.blk hb.symm
    · exact h.s2.blk hb.symm
    · exact h.s3.blk hb.symm
    · exact h.s4.blk hb.symm
    · exact h.s5.blk hb.symm
  · exact (h.s6 q hq).blk hb
theorem ROwn.rblk {w : World} {lo hi : Nat} {A1 A2 A3 A4 A5 : Option Addr} {n1 c1 n2 c2 n3 c3 n4 c4 n5 c5 : Nat} {r : Room} (h : ROwn w lo hi A1 A2 A3 A4 A5 n1 c1 n2 c2 n3 c3 n4 c4 n5 c5 r) {b : Nat} (hb : RBlk A1 A2 A3 A4 A5 n1 n2 n3 n4 n5 r b) : lo ≤ b ∧ b < hi := by
  rcases hb with hb | hb
  · exact h.rf b hb
  · exact h.rq b hb
theorem five_row {w : World} {g : Nat} {t : TypeId} {u0 u1 u2 u3 u4 v0 v1 v2 v3 v4 : Value} (h : Row w g t [v0, v1, v2, v3, v4]) : Row (((((w.setCell ⟨g, 0, none⟩ u0).setCell ⟨g, 1, none⟩ u1).setCell ⟨g, 2, none⟩ u2).setCell ⟨g, 3, none⟩ u3).setCell ⟨g, 4, none⟩ u4) g t [u0, u1, u2, u3, u4] :=
  ((((h.set_ 0 u0).set_ 1 u1).set_ 2 u2).set_ 3 u3).set_ 4 u4
theorem row_in {w : World} {g : Nat} {t : TypeId} {A1 A2 A3 A4 A5 : Option Addr} {n1 c1 n2 c2 n3 c3 n4 c4 n5 c5 : Nat} (h : Row w g t [.slice A1 n1 c1, .slice A2 n2 c2, .slice A3 n3 c3, .slice A4 n4 c4, .slice A5 n5 c5]) : RoomIn w g A1 A2 A3 A4 A5 n1 c1 n2 c2 n3 c3 n4 c4 n5 c5 := ⟨h.lt, h.cell 0, h.cell 1, h.cell 2, h.cell 3, h.cell 4⟩
theorem reach_no {n : Int} {r : Room} (h : roomB n r = false) : reachB n r = false := by unfold reachB; rw [h]; rfl
theorem reach_long {n : Int} {r : Room} (h : 300 < (roomEv r).length) : reachB n r = false := by unfold reachB; rw [decide_eq_false (by omega)]; simp
/-- the room of the loop, in its box -/
structure LoopR (n : Int) (r : Room) (Wg wr : World) (gO k : Nat) : Prop where
  turn : Turn (fun b => b = gO) Wg wr
  ex : ∃ (O1 O2 O3 O4 O5 : Option Addr) (o1 e1 o2 e2 o3 e3 o4 e4 o5 e5 : Nat) (R : Room), Row wr gO 41 [.slice O1 o1 e1, .slice O2 o2 e2, .slice O3 o3 e3, .slice O4 o4 e4, .slice O5 o5 e5] ∧ RoomAt wr O1 O2 O3 O4 O5 o1 e1 o2 e2 o3 e3 o4 e4 o5 e5 R ∧ (∀ b, RBlk O1 O2 O3 O4 O5 o1 o2 o3 o4 o5 R b → b ≠ gO) ∧ AtEv n r k R
set_option maxHeartbeats 8000000 in
theorem c_IsReachable (A1 A2 A3 A4 A5 : Option Addr) (n1 c1 n2 c2 n3 c3 n4 c4 n5 c5 : Nat) (r : Room) (w : World) (hat : RoomAt w A1 A2 A3 A4 A5 n1 c1 n2 c2 n3 c3 n4 c4 n5 c5 r) :
    Calls Try.prog 31 #[.agg #[.slice A1 n1 c1, .slice A2 n2 c2, .slice A3 n3 c3, .slice A4 n4 c4, .slice A5 n5 c5]] w (Ret (.bool (reachB n1 r)) w) := by
  have hin := RoomIn.new w A1 A2 A3 A4 A5 n1 c1 n2 c2 n3 c3 n4 c4 n5 c5 41
  obtain ⟨hlt, y0, y1, y2, y3, y4⟩ := id hin
  go_enter Try.func31, Try.ntmps31
  go_wp2_with fail
  refine (c_IsRoom A1 A2 A3 A4 A5 n1 c1 n2 c2 n3 c3 n4 c4 n5 c5 r _ (hat.ext (Ext.alloc _ _))).mono ?_
  cases hb : roomB (n1 : Int) r
  · have HR := hide (reach_no hb)
    rintro e w1 ⟨rfl, hx1⟩
    go_wp2_with fail
    go_ret
    exact Ret.bool (by rw [HR.out]) hx1.box
  obtain ⟨m1, m2, m3, m4, a5, m5, hnm, hnet⟩ := roomGood A1 A2 A3 A4 A5 n1 c1 n2 c2 n3 c3 n4 c4 n5 c5 hat hb
  have hf := roomFits hb
  have HB := hide hb
  have HEV := hide (roomEv_ok hb (by omega))
  have hn1 := hat.s1.len
  have HN1 := hide hn1
  clear hnm hnet hb hn1
  rintro e w1 ⟨rfl, hx1⟩
  clear hlt y0 y1 y2 y3 y4
  obtain ⟨hlt, y0, y1, y2, y3, y4⟩ := hin.ext hx1
  go_wp2_with fail
  refine (c_roomEvents A1 A2 A3 A4 A5 n1 c1 n2 c2 n3 c3 n4 c4 n5 c5 r _ (hat.ext hx1.box) hf).mono ?_
  rintro e w2 ⟨EA, en, ec, eg, rfl, hec, hem, heg, heo, hx2⟩
  have hx12 := hx1.trans hx2
  clear hlt y0 y1 y2 y3 y4
  obtain ⟨hlt, y0, y1, y2, y3, y4⟩ := hin.ext hx12
  by_cases hlong : 300 < (roomEv r).length
  · have HR := hide (reach_long (n := n1) hlong)
    have hE : evR r = ([], 3) := by unfold evR; rw [if_pos hlong]
    rw [hE]
    go_wp2_with fail
    go_ret
    exact Ret.bool (by rw [HR.out]) hx12.box
  have hE : evR r = (roomEv r, 0) := by unfold evR; rw [if_neg hlong]
  rw [hE] at heo ⊢
  clear hE
  have hes := heo.slice event_len hec hem
  have HEN := hide heo.1
  have hblkE := fun b hb => hes.blk (b := b) hb
  go_wp2_with fail
  refine (c_newRoom A1 A2 n1 c1 n2 c2 r.ns r.ps A3 n3 c3 r.xs _ (hat.s1.ext hx12.box) (hat.s2.ext hx12.box) (hat.s3.ext hx12.box) (by omega) (by omega) (by omega)).mono ?_
  rintro e w3 ⟨B1, B2, B3, B4, B5, k1, d1, k2, d2, k3, d3, k4, d4, k5, d5, r', rfl, hO, hOl, hx3⟩
  have hx13 := hx12.trans hx3
  have HAT := hide (AtEv.start (n := n1) hOl)
  clear hlt y0 y1 y2 y3 y4
  go_wp2_with fail
  have rB := Row.new w3 41 [.slice B1 k1 d1, .slice B2 k2 d2, .slice B3 k3 d3, .slice B4 k4 d4, .slice B5 k5 d5]
  have hxg : Ext w3 (w3.alloc (.cells #[.slice B1 k1 d1, .slice B2 k2 d2, .slice B3 k3 d3, .slice B4 k4 d4, .slice B5 k5 d5] 41)) := Ext.alloc _ _
  generalize w3.alloc (.cells #[.slice B1 k1 d1, .slice B2 k2 d2, .slice B3 k3 d3, .slice B4 k4 d4, .slice B5 k5 d5] 41) = Wg at *
  have XG := hx13.box.trans hxg
  have hing := hin.ext (hx13.trans hxg)
  have hesg := (hes.ext hx3).ext hxg
  have hatg := hat.ext XG
  have hgE : ∀ b, blkOf EA en = some b → b ≠ w3.heap.size := fun b hb => by have := hblkE b hb; have := hx3.size; omega
  have hgR : ∀ b, RBlk A1 A2 A3 A4 A5 n1 n2 n3 n4 n5 r b → b ≠ w3.heap.size := fun b hb => by have := RBlk.lt hat hb; have := hx13.size; simp at this; omega
  have hgw : w.heap.size ≠ w3.heap.size := by have := hx13.size; simp at this; omega
  have hgl := rB.lt
  have hsz3 : w.heap.size ≤ w3.heap.size := by have := hx13.size; simp at this; omega
  have hemx := hem
  go_loopw [27] (fun i wr => ∃ k : Nat, k ≤ en ∧ i = .int .i64 k ∧ LoopR n1 r Wg wr w3.heap.size k) (fun i _ => en - (intOf i).toNat)
  case atStart => exact ⟨0, Nat.zero_le _, rfl, ⟨Turn.refl _, ⟨B1, B2, B3, B4, B5, k1, d1, k2, d2, k3, d3, k4, d4, k5, d5, r', rB, hO.at_.ext hxg, fun b hb => by have := RBlk.lt hO.at_ hb; omega, HAT.out⟩⟩⟩
  case round =>
    obtain ⟨k, hk, rfl, ⟨htn, O1, O2, O3, O4, O5, o1, q1, o2, q2, o3, q3, o4, q4, o5, q5, R, hrow, hatR, hne, hAt⟩⟩ := hrel
    have XR := XG.turn htn (fun b hb => by omega)
    have rx := fun (j : Nat) (v : Value) (h : Wg.cell? ⟨w.heap.size, j, none⟩ = some v) => (htn.cell hing.lt hgw).trans h
    have p0 := hrow.cell 0
    have p1 := hrow.cell 1
    have p2 := hrow.cell 2
    have p3 := hrow.cell 3
    have p4 := hrow.cell 4
    have pf := hrow.frozen
    have pl := hrow.lt
    simp only [List.getElem?_cons_zero, List.getElem?_cons_succ] at p0 p1 p2 p3 p4
    by_cases hklt : k < en
    · obtain ⟨b, off, x, rfl, hbb, hxk, hc⟩ := (hesg.turn htn (fun b hb hS => hgE b hb hS)).get hklt
      have t0 := hc 0 _ rfl
      have t1 := hc 1 _ rfl
      have t2 := hc 2 _ rfl
      have t3 := hc 3 _ rfl
      have t4 := hc 4 _ rfl
      simp only [Nat.add_zero] at t0
      have hev := HEV.out x (List.mem_of_getElem? hxk)
      have HX := hide hxk
      have hokR := hAt.ok HB.out
      obtain rfl : o1 = n1 := by rw [hatR.s1.len, hAt.ns]; exact HN1.out.symm
      have HAt := hide hAt
      clear hxk hc hAt rx
      go_wp2_with fail
      refine (c_applied O1 O2 O3 O4 O5 o1 q1 o2 q2 o3 q3 o4 q4 o5 q5 R x _ (hatR.ext (Ext.alloc _ _)) hokR hev).mono ?_
      rintro e w5 ⟨C1, C2, C3, C4, C5, j1, f1, j2, f2, j3, f3, j4, f4, j5, f5, r'', rfl, himp, hx5⟩
      have hx45 := (Ext.alloc wr (.cells #[.int .i64 x.kind, .int .i64 x.a, .int .i64 x.b, .int .i64 x.c, .int .i64 x.d] 101)).trans hx5
      have hrow5 := hrow.ext hx45
      cases hab : appB (o1 : Int) R x
      · have HR := hide (HAt.out.stop HX.out hab)
        clear himp
        go_wp2_with fail
        go_ret
        exact Ret.bool (by rw [HR.out]) ((XR.trans hx45).and_alloc _)
      · obtain ⟨hO5, hl5⟩ := himp hab
        have HST := hide (HAt.out.step HX.out hab hl5)
        have HO5 := hide hO5
        clear himp hO5 hl5 p0 p1 p2 p3 p4 pf pl
        have p0 := hrow5.cell 0
        have p1 := hrow5.cell 1
        have p2 := hrow5.cell 2
        have p3 := hrow5.cell 3
        have p4 := hrow5.cell 4
        have pf := hrow5.frozen
        have pl := hrow5.lt
        have hz45 := hx45.size
        simp only [List.getElem?_cons_zero, List.getElem?_cons_succ] at p0 p1 p2 p3 p4
        go_wp2_with fail
        go_roundw
        case rel =>
          have t5 := (Turn.refl (S := fun b => b = w3.heap.size) w5).five (g := w3.heap.size) rfl (.slice C1 j1 f1) (.slice C2 j2 f2) (.slice C3 j3 f3) (.slice C4 j4 f4) (.slice C5 j5 f5)
          refine ⟨k + 1, by omega, by go_num, ⟨(htn.trans (Turn.of_ext hx45)).trans (t5.allocT _), ⟨C1, C2, C3, C4, C5, j1, f1, j2, f2, j3, f3, j4, f4, j5, f5, r'', (five_row hrow5).ext (Ext.alloc _ _), ((HO5.out.turnR t5 (fun b hb => by subst hb; exact ⟨_, hrow5⟩)).at_).ext (Ext.alloc _ _), fun b hb => ?_, HST.out⟩⟩⟩
          have hq1 := HO5.out.rblk hb
          have hq2 := hrow.lt
          simp at hq1
          omega
        case measure => simp [intOf]; omega
    · obtain rfl : en = k := by omega
      obtain ⟨hre, hLk⟩ := hAt.done HEN.out HB.out (by omega)
      have HRE := hide hre
      have y2 := rx 3 _ hing.x3
      have y3 := rx 4 _ hing.x4
      have y0 := Nat.lt_of_lt_of_le hing.lt htn.size
      have hatN := hatg.turnB htn (fun b hb hS => hgR b hb hS)
      have hs4 := hatR.s4
      rw [hLk.2.2.2.1] at hs4
      clear hre rx
      go_wp2_with fail
      refine (c_EqualNom O4 A4 o4 q4 n4 c4 r.L _ hs4 hatN.s4).mono ?_
      rintro e w5 ⟨rfl, hx5⟩
      have hrow5 := hrow.ext hx5
      have hlt5 := Nat.lt_of_lt_of_le y0 hx5.size
      have y35 := (hx5.cell _ 4 y0).trans y3
      clear p0 p1 p2 p3 p4 pf pl y3
      have p4 := hrow5.cell 4
      have pl := hrow5.lt
      simp only [List.getElem?_cons_zero, List.getElem?_cons_succ] at p4
      go_wp2_with fail
      refine (c_EqualReads O5 A5 o5 q5 n5 c5 R.rs r.rs _ (hatR.s5.ext hx5) (hatN.s5.ext hx5) (fun q hq => (hatR.s6 q hq).ext hx5) (fun q hq => (hatN.s6 q hq).ext hx5) hLk.2.2.2.2).mono ?_
      rintro e w6 ⟨rfl, hx6⟩
      go_wp2_with fail
      go_ret
      exact Ret.bool (by rw [HRE.out]) ((XR.trans hx5).trans hx6)
end Go.Proofs.Ytjpmiokbgpggbaa

namespace Go.Proofs.Ytjpmiokbgpggbaa
open Go.RowKit Go.ChangeShapes Go.WideShapes Go.ChangeAt Go.Deep Go.Joins

set_option maxRecDepth 100000 in
theorem open_bytes {H : Type} {enc : TypeId × Value → H} {w : World} {base b0 : Nat} {spare : Nat → Bool} {held : Bool} {r : Reach} {v : Value} {d : DataW H} {p : List MemPlace}
    (hv : Value.okWide Try.prog w r b0 59 v) (h : DataW.Trod enc Try.prog w base spare held 59 v d p) :
    ∃ (A : Option Addr) (n c : Nat) (bs : List Int), v = .slice A n c ∧ SliceOf w 1 byteC A n c bs ∧ ∀ z ∈ bs, 0 ≤ z ∧ z ≤ 255 := by
  obtain ⟨a0, len, cap, rfl⟩ := okWide_slice Try.underlying59 hv
  obtain ⟨fuel, hf⟩ := h
  obtain ⟨A, n, c, zs, e, hl, hs⟩ := open_nums Try.underlying59 Try.underlying5 (by kernel_rfl) hf
  refine ⟨A, n, c, zs, e, hs, fun z hz => ?_⟩
  have := hl z hz
  simp [Lit.wf, IntKind.min, IntKind.max, IntKind.signed, IntKind.bits] at this
  omega
set_option maxRecDepth 100000 in
theorem c_big (A : Option Addr) (n c : Nat) (w : World) : Calls Try.prog 27 #[.slice A n c] w fun e w' => e = .returned (.bool (decide ((4096 : Int) < n))) ∧ w = w' := by
  go_enter Try.func27, Try.ntmps27
  go_wp2_with fail
  go_ret
  exact ⟨rfl, rfl⟩
end Go.Proofs.Ytjpmiokbgpggbaa

namespace Go.Proofs.Ytjpmiokbgpggbaa
open Go.RowKit Go.ChangeShapes Go.WideShapes Go.ChangeAt Go.Deep Go.Joins
/-- a network and a book, in blocks of their own -/
def DrawnNB (w : World) (e : Ending) (w' : World) : Prop :=
  ∃ (v1 v2 v3 : Value) (ns : List Node) (ps : List Pipe) (xs : List Contract), e = .returned (.tuple #[.agg #[v1, v2], v3]) ∧ OwnL w' (w.heap.size + 1) 126 3 Node.cells v1 ns ∧ OwnL w' (w.heap.size + 1) 129 5 Pipe.cells v2 ps ∧ OwnL w' (w.heap.size + 1) 87 8 Contract.cells v3 xs ∧ ns.length ≤ 7 ∧ ps.length ≤ 30 ∧ xs.length ≤ 40 ∧ Short ns ∧ Ext w w'
set_option maxHeartbeats 1000000 in
theorem c_DrawIsBook (A : Option Addr) (n c : Nat) (bs : List Int) (w : World) (hbs : SliceOf w 1 byteC A n c bs) (hbd : ∀ z ∈ bs, 0 ≤ z ∧ z ≤ 255) (hn : n ≤ 1048576) :
    Calls Try.prog 70 #[.slice A n c] w (DrawnNB w) := by
  have HD := hide hbd
  clear hbd
  have hR := Row.new w 36 [.slice none 0 0, .slice none 0 0]
  have hx0 := Ext.alloc w (.cells #[.slice none 0 0, .slice none 0 0] 36)
  go_enter Try.func70, Try.ntmps70
  go_wp2_with fail
  refine (c_l01From A n c bs _ (hbs.ext hx0) HD.out).mono ?_
  rintro e w1 ⟨a, rfl, ha, ha1, hs1, hx1⟩
  have hX1 := hx0.trans hx1
  have hR1 := hR.ext hx1
  have hS : Src w w1 a A n c := ⟨⟨bs, hbs, HD.out⟩, hn, Nat.le_trans hx0.size ha, hX1, hs1⟩
  have hz : w.heap.size < a := by simp at ha; omega
  clear hR hbs hs1
  go_wp2_with fail
  refine (c_l20Draw hS).mono ?_
  rintro e w2 ⟨v1, v2, v3, ns, ps, xs, rfl, hs2, ho2, o1, o2, o3, b1, b2, b3, hnm, -⟩
  have hR2 := hR1.only ho2 (by omega)
  have q0 := (hR2).cell 0
  have q1 := (hR2).cell 1
  simp at q0 q1
  have qf := (hR2).frozen
  have ql := (hR2).lt
  have hX2 := hs2.ext
  have hlw : w.heap.size < w1.heap.size := hR1.lt
  obtain ⟨A1, c1, rfl, _⟩ := o1.form
  obtain ⟨A2, c2, rfl, _⟩ := o2.form
  obtain ⟨A3, c3, rfl, _⟩ := o3.form
  go_wp2_with fail
  refine bodyPost_ret (v := .tuple #[.agg #[.slice A1 ns.length c1, .slice A2 ps.length c2], .slice A3 xs.length c3]) (by simp [results, Try.results70, go_sem, q0, q1]) rfl ?_
  refine ⟨_, _, _, ns, ps, xs, rfl, ?_, ?_, ?_, b1, b2, b3, hnm, ?_⟩
  · exact ((o1.farK (p := ⟨w.heap.size, 0, none⟩) (by show w.heap.size < w1.heap.size + 1; omega) _).farK (p := ⟨w.heap.size, 1, none⟩) (by show w.heap.size < w1.heap.size + 1; omega) _).lowG (by omega)
  · exact ((o2.farK (p := ⟨w.heap.size, 0, none⟩) (by show w.heap.size < w1.heap.size + 1; omega) _).farK (p := ⟨w.heap.size, 1, none⟩) (by show w.heap.size < w1.heap.size + 1; omega) _).lowG (by omega)
  · exact ((o3.farK (p := ⟨w.heap.size, 0, none⟩) (by show w.heap.size < w1.heap.size + 1; omega) _).farK (p := ⟨w.heap.size, 1, none⟩) (by show w.heap.size < w1.heap.size + 1; omega) _).lowG (by omega)
  · exact (hX2.setCell (p := ⟨w.heap.size, 0, none⟩) (Nat.le_refl _) _).setCell (p := ⟨w.heap.size, 1, none⟩) (Nat.le_refl _) _
set_option maxHeartbeats 1000000 in
theorem c_DrawNewRoom (A : Option Addr) (n c : Nat) (bs : List Int) (w : World) (hbs : SliceOf w 1 byteC A n c bs) (hbd : ∀ z ∈ bs, 0 ≤ z ∧ z ≤ 255) (hn : n ≤ 1048576) :
    Calls Try.prog 28 #[.slice A n c] w (DrawnNB w) := by
  have HD := hide hbd
  clear hbd
  have hR := Row.new w 36 [.slice none 0 0, .slice none 0 0]
  have hx0 := Ext.alloc w (.cells #[.slice none 0 0, .slice none 0 0] 36)
  go_enter Try.func28, Try.ntmps28
  go_wp2_with fail
  refine (c_DrawIsBook A n c bs _ (hbs.ext hx0) HD.out hn).mono ?_
  rintro e w2 ⟨v1, v2, v3, ns, ps, xs, rfl, o1, o2, o3, b1, b2, b3, hnm, hx2⟩
  have hR2 := hR.ext hx2
  have q0 := (hR2).cell 0
  have q1 := (hR2).cell 1
  simp at q0 q1
  have qf := (hR2).frozen
  have ql := (hR2).lt
  have hX2 := hx0.trans hx2
  have hz : (w.alloc (.cells #[.slice none 0 0, .slice none 0 0] 36)).heap.size = w.heap.size + 1 := by simp
  rw [hz] at o1 o2 o3
  obtain ⟨A1, c1, rfl, _⟩ := o1.form
  obtain ⟨A2, c2, rfl, _⟩ := o2.form
  obtain ⟨A3, c3, rfl, _⟩ := o3.form
  go_wp2_with fail
  refine bodyPost_ret (v := .tuple #[.agg #[.slice A1 ns.length c1, .slice A2 ps.length c2], .slice A3 xs.length c3]) (by simp [results, Try.results28, go_sem, q0, q1]) rfl ?_
  refine ⟨_, _, _, ns, ps, xs, rfl, ?_, ?_, ?_, b1, b2, b3, hnm, ?_⟩
  · exact ((o1.farK (p := ⟨w.heap.size, 0, none⟩) (by show w.heap.size < w.heap.size + 1 + 1; omega) _).farK (p := ⟨w.heap.size, 1, none⟩) (by show w.heap.size < w.heap.size + 1 + 1; omega) _).lowG (by omega)
  · exact ((o2.farK (p := ⟨w.heap.size, 0, none⟩) (by show w.heap.size < w.heap.size + 1 + 1; omega) _).farK (p := ⟨w.heap.size, 1, none⟩) (by show w.heap.size < w.heap.size + 1 + 1; omega) _).lowG (by omega)
  · exact ((o3.farK (p := ⟨w.heap.size, 0, none⟩) (by show w.heap.size < w.heap.size + 1 + 1; omega) _).farK (p := ⟨w.heap.size, 1, none⟩) (by show w.heap.size < w.heap.size + 1 + 1; omega) _).lowG (by omega)
  · exact (hX2.setCell (p := ⟨w.heap.size, 0, none⟩) (Nat.le_refl _) _).setCell (p := ⟨w.heap.size, 1, none⟩) (Nat.le_refl _) _
theorem like_new {r : Room} {ns : List Node} {ps : List Pipe} {xs : List Contract} {n : Int} (hl : r.Like (newR ns ps xs)) (h : (netB ns ps && bookB n xs) = true) : roomB n r = true ∧ roomEv r = [] ∧ r.rs.length = 1 ∧ reachB n r = true := by
  rw [Bool.and_eq_true] at h
  have h1 : roomB n (newR ns ps xs) = true := by simp [roomB, newR, nomsOk, h.1, h.2, nomsB, inB, readsB]
  have h2 : roomB n r = true := by rw [roomB_like hl]; exact h1
  have h4 : r.rs.length = 1 := by have := congrArg List.length hl.2.2.2.2; simpa [newR] using this
  have h3 : roomEv r = [] := by
    have hL := hl.2.2.2.1
    have hr := hl.2.2.2.2
    simp only [newR] at hL hr
    unfold roomEv
    rw [hL, hr, h4]
    rfl
  refine ⟨h2, h3, h4, ?_⟩
  unfold reachB
  rw [h2, h3]
  rfl
end Go.Proofs.Ytjpmiokbgpggbaa
