

/-
  The reference's draw of a list of events.
-/
import Derived.Test.YtglbiddddflmeaaDoorDrawJ
import Derived.Test.YtglbiddddflmeaaDoorSchedT
import Derived.Test.YtglbiddddflmeaaDoorJouJ
namespace Go.Proofs.YtglbiddddflmeaaDoor
open Go.RowKit
/-- some events, a list of the call's own -/
def DrawnEvs (a : Nat) (A : Option Addr) (n c : Nat) (w : World) (e : Ending) (w' : World) : Prop :=
  ∃ (v : Value) (L : List Event), e = .returned v ∧ L.length ≤ 301 ∧ OwnL w' w.heap.size 38 5 Event.cells v L ∧ SrcAt w' a A n c ∧ Only a w w'
structure LSt (w0 w : World) (a : Nat) (A : Option Addr) (n c : Nat) (wr : World) (v : Value) (L : List Event) : Prop where
  le0 : w0.heap.size ≤ a
  lt1 : a < w.heap.size
  size : w.heap.size ≤ wr.heap.size
  ext : Ext w0 wr
  src : SrcAt wr a A n c
  only : Only a w wr
  own : OwnL wr w.heap.size 38 5 Event.cells v L
section
variable {w0 w wr wr' : World} {a n c : Nat} {A : Option Addr} {v v' : Value} {L L' : List Event}
theorem LSt.draw (h : LSt w0 w a A n c wr v L) (ho : Only a wr wr') (hs : SrcAt wr' a A n c) : LSt w0 w a A n c wr' v L :=
  ⟨h.le0, h.lt1, Nat.le_trans h.size ho.size, h.ext.only ho h.le0, hs, h.only.trans ho, h.own.only ho h.lt1⟩
theorem LSt.more (h : LSt w0 w a A n c wr v L) (hx : Ext wr wr') : LSt w0 w a A n c wr' v L := h.draw (Only.of_ext hx a) (h.src.ext hx)
theorem LSt.app (h : LSt w0 w a A n c wr v L) (hx : ∀ w1 : World, w1.heap.size ≤ w.heap.size → Ext w1 wr → Ext w1 wr') (ho : OwnL wr' w.heap.size 38 5 Event.cells v' L') : LSt w0 w a A n c wr' v' L' := by
  obtain ⟨l0, l1, sz, ex, sr, on, ow⟩ := h
  have hk := kept_append sz hx
  exact ⟨l0, l1, hk.size, hx w0 (by omega) ex, sr.kept hk l1, on.kept hk (Nat.le_refl _), ho⟩
theorem LSt.fresh (h : LSt w0 w a A n c wr v L) : LSt w0 w a A n c (wr.alloc (.cells #[] 38)) (.slice (some ⟨wr.heap.size, 0, none⟩) 0 0) [] :=
  { h.more (Ext.alloc wr _) with own := OwnL.empty wr w.heap.size 38 5 Event.cells h.size }
end

set_option maxHeartbeats 2000000 in
theorem c_l32DrawList (a : Nat) (A : Option Addr) (n c : Nat) (bs : List Int) (w0 w : World) (hbs : SliceOf w0 1 byteC A n c bs) (hbd : ∀ z ∈ bs, 0 ≤ z ∧ z ≤ 255) (hx0 : Ext w0 w) (ha : w0.heap.size ≤ a) (hsrc : SrcAt w a A n c) (hn : n ≤ 1048576) :
    Calls Tryd.prog 48 #[.pointer (some ⟨a, 0, none⟩)] w (DrawnEvs a A n c w) := by
  have nxt := fun (m : Int) (w : World) hx0 hsrc => c_l01Next a m A n c bs w0 w hbs hbd hx0 ha hsrc hn
  have NX := hide nxt
  clear nxt
  have one := fun (w : World) hx0 hsrc => c_l32DrawOne a A n c bs w0 w hbs hbd hx0 ha hsrc hn
  have ONE := hide one
  clear one
  have hal := hsrc.lt
  have hD0 : LSt w0 w a A n c (w.alloc (.cells #[] 38)) (.slice (some ⟨w.heap.size, 0, none⟩) 0 0) [] :=
    LSt.fresh (v := .slice none 0 0) (L := []) ⟨ha, hal, Nat.le_refl _, hx0, hsrc, Only.refl _ _, OwnL.nil_ _ _ _ _ _⟩
  go_enter Tryd.func48, Tryd.ntmps48
  go_wp2_with fail
  refine (NX.out 9 _ hD0.ext hD0.src (by omega) (by omega)).mono ?_
  rintro e w1 ⟨x1, rfl, hx1, hx2, hs1, ho1⟩
  have hD1 := hD0.draw ho1 hs1
  clear hD0 ho1 hs1
  go_wp2_with fail
  go_loopw [3, 4] (fun v k wr => ∃ (k' : Nat) (L : List Event), k' ≤ 9 ∧ k = .int .i64 k' ∧ L.length + k' ≤ 9 ∧ LSt w0 w a A n c wr v L) (fun _ k _ => (intOf k).toNat)
  case atStart =>
    refine ⟨x1.toNat, [], by omega, ?_, by simp; omega, hD1⟩
    rw [Int.toNat_of_nonneg (by omega)]
  case round =>
    obtain ⟨k', L, hk, rfl, hL, hD⟩ := hrel
    clear hD1
    have hszr := hD.size
    by_cases hlt : 0 < k'
    · have hlt' : decide ((0 : Int) < (k' : Int)) = true := by simpa using hlt
      go_wp2_with fail
      refine (ONE.out _ hD.ext hD.src).mono ?_
      rintro e w2 ⟨p, rfl, hs2, ho2⟩
      have hD2 := hD.draw ho2 hs2
      have hsz2 := hD2.size
      clear hD ho2 hs2
      have hD3 := hD2.more (Ext.alloc w2 (.cells #[.int .i64 p.kind, .int .i64 p.a, .int .i64 p.b, .int .i64 p.c, .int .i64 p.d] 38))
      go_wp2_with (at_builtin; go_must (refine wpList_append_one rfl _ _ 26 rfl w.heap.size 38 _ 5 40 Tryd.underlying26 event_info rfl (by decide) Event.cells event_len event_one _ _ rfl (hD3.own) w2 p rfl _ rfl (by simp) (by omega) (by omega) (by omega) ?_))
      intro v4 w4 hown4 hx4
      have hD4 := hD3.app hx4 hown4
      clear hD2 hD3 hown4 hx4
      go_wp2_with fail
      go_roundw
      case rel => exact ⟨k' - 1, _, by omega, by go_num, by simp; omega, hD4⟩
      case measure => simp [intOf]; omega
    · have hk0 : k' = 0 := by omega
      subst hk0
      go_wp2_with fail
      refine (NX.out 60 _ hD.ext hD.src (by omega) (by omega)).mono ?_
      rintro e w2 ⟨x2, rfl, hx3, hx4, hs2, ho2⟩
      have hD2 := hD.draw ho2 hs2
      clear hD ho2 hs2
      by_cases h0 : x2 = 0
      · subst h0
        clear hx3 hx4
        obtain ⟨A2, c2, hv2, _, _⟩ := hD2.own.form
        subst hv2
        have hL9 : L.length ≤ 9 := by omega
        go_wp2_with fail
        go_loopw [3] (fun v wr => ∃ (A' : Option Addr) (c' : Nat) (L : List Event), v = .slice A' L.length c' ∧ L.length ≤ 301 ∧ LSt w0 w a A n c wr v L) (fun v _ => 302 - (match v with | .slice _ n _ => n | _ => 0))
        case atStart => exact ⟨_, _, L, rfl, by omega, hD2⟩
        case round =>
          obtain ⟨A', c', L, rfl, hL, hD⟩ := hrel
          clear hD2
          have hszr := hD.size
          go_wp2_with fail
          refine (NX.out 2 _ hD.ext hD.src (by omega) (by omega)).mono ?_
          rintro e w5 ⟨x5, rfl, hx5, hx6, hs5, ho5⟩
          have hD5 := hD.draw ho5 hs5
          have hsz5 := hD5.size
          clear hD ho5 hs5
          have e1 : IntKind.i64.wrap (300 + x5) = 300 + x5 := IntWalk.i64_in _ (by omega)
          by_cases hlt : (L.length : Int) < 300 + x5
          · have hlt' : decide ((L.length : Int) < 300 + x5) = true := by simpa using hlt
            have hD6 := hD5.more (Ext.alloc w5 (.cells #[.int .i64 3, .int .i64 2, .int .i64 0, .int .i64 0, .int .i64 0] 38))
            go_wp2_with (at_builtin; go_must (refine wpList_append_one rfl _ _ 26 rfl w.heap.size 38 _ 5 40 Tryd.underlying26 event_info rfl (by decide) Event.cells event_len event_one _ _ rfl (hD6.own) w5 ⟨3, 2, 0, 0, 0⟩ rfl _ rfl (by simp) (by omega) (by omega) (by omega) ?_))
            intro v7 w7 hown7 hx7
            have hD7 := hD6.app hx7 hown7
            clear hD5 hD6 hown7 hx7
            obtain ⟨A7, c7, rfl, _, _⟩ := hD7.own.form
            go_wp2_with fail
            go_roundw
            case rel => exact ⟨A7, c7, _, rfl, by simp; omega, hD7⟩
            case measure => simp; omega
          · have hlt' : decide ((L.length : Int) < 300 + x5) = false := by simpa using hlt
            go_wp2_with fail
            go_ret
            exact ⟨_, _, rfl, hL, hD5.own, hD5.src, hD5.only⟩
      · have h0' : (x2 == 0) = false := by simpa using h0
        go_wp2_with fail
        go_ret
        exact ⟨_, _, rfl, by omega, hD2.own, hD2.src, hD2.only⟩
end Go.Proofs.YtglbiddddflmeaaDoor
