

/-
  The law on RecoverEvents.
-/
import Derived.Test.YtglbiddddflmeaaDoorJouY
namespace Go.Proofs.YtglbiddddflmeaaDoor
open Go.RowKit
open Go.Lib hiding intOf
def RetR3 (es : List Event) (r1 r2 : Int) (w : World) (e : Ending) (w' : World) : Prop :=
  ∃ A c, e = .returned (.tuple #[.slice A es.length c, .int .i64 r1, .int .i64 r2]) ∧ OwnA w' 38 Event.cells A es.length c es ∧ (∀ b, blkOf A es.length = some b → w.heap.size ≤ b) ∧ Ext w w'
theorem RetRec.of {l : List UInt8} {es : List Event} {r1 r2 : Int} {w w' : World} {e : Ending} (h : RetRec l w e w') (hr : recR l = (es, r1, r2)) : RetR3 es r1 r2 w e w' := by
  unfold RetRec at h
  rw [hr] at h
  exact h
theorem m_markEventS (A : Option Addr) (n c : Nat) (ts : List Event) (a : Int) (w : World) (h : OwnA w 38 Event.cells A n c ts) (hn : n ≤ 1000000000) (ha0 : 0 ≤ a) (ha1 : a ≤ 1000000000000) :
    Calls Tryd.prog 28 #[.slice A n c, .int .i64 a] w (fun e w' => e = .returned (.int .i64 (a + 5 * n)) ∧ OwnA w' 38 Event.cells A n c (markEvent a n) ∧ Turn (fun b => blkOf A n = some b) w w') := by
  obtain ⟨g, ho, hg⟩ := h.own
  refine (c_markEventS g A n c ts a w ho hn h.2.1 h.2.2.1 ha0 ha1).mono fun e w' ⟨h1, h2, h3⟩ => ?_
  exact ⟨h1, h2.toA h.2.1 h.2.2.1, Turn.of_only h3 hg⟩
set_option maxHeartbeats 1000000 in
set_option maxRecDepth 8000 in
theorem law_RecoverEvents (l : List UInt8) (w : World) (hg : Glob w) :
    Calls Tryd.prog 8 #[.string (mkB l)] w (Ret (.bool true) w) := by
  have hsz : (mkB l).size = l.length := rfl
  by_cases h : 1048576 < l.length
  · go_enter Tryd.func8, Tryd.ntmps8
    go_wp2_with fail
    go_ret
    exact Ret.bool rfl (Ext.refl _)
  · have hl : l.length ≤ 1048576 := by omega
    have hes : (recR l).1.length ≤ 300 := by
      unfold recR
      split
      · simp
      · exact recL_len (splitL 10 l).dropLast maxEv 1
    obtain ⟨es, r1, r2, HR⟩ : ∃ es r1 r2, Hid (recR l = (es, r1, r2)) := ⟨_, _, _, hide rfl⟩
    rw [HR.out] at hes
    simp only at hes
    go_enter Tryd.func8, Tryd.ntmps8
    go_wp2_with fail
    refine (c_specRecoverEvents l hl _).mono ?_
    intro e w1 hr
    obtain ⟨SA, sc, rfl, so, sb, hx1⟩ := hr.of HR.out
    clear hr
    go_wp2_with fail
    refine (c_RecoverEvents l hl _ (hg.ext hx1)).mono ?_
    intro e w2 hr
    obtain ⟨IA, ic, rfl, io, ib, hx2⟩ := hr.of HR.out
    clear hr
    obtain ⟨n, hn⟩ : ∃ n, es.length = n := ⟨_, rfl⟩
    have HN := hide hn
    rw [hn] at so sb io ib hes ⊢
    clear hn
    have so2 := so.ext hx2
    have hz1 := hx1.size
    have hz2 := hx2.size
    have hX2 := hx1.trans hx2
    go_wp2_with fail
    refine (c_eqEventS _ _ _ _ _ _ es _ (io.slice event_len) (so2.slice event_len)).mono ?_
    rintro e w3 ⟨rfl, hx3⟩
    go_wp2_with fail
    refine (m_markEventS IA n ic es 1 _ (io.ext hx3) (by omega) (by omega) (by omega)).mono ?_
    rintro e w4 ⟨rfl, io4, tr4⟩
    have hX4 := (hX2.trans hx3).turn tr4 (fun b hb => by have := ib b hb; omega)
    have so4 := (so2.ext hx3).turn tr4 (fun b hb hS => by have := so.lt hb; have := ib b hS; omega)
    have e5 : ¬ (1 : Int) + 5 * (n : Int) < 0 := by omega
    go_wp2_with fail
    refine (c_heldEventS IA n ic 1 _ (io4.slice event_len) (by omega) (by omega) (by omega)).mono ?_
    rintro e w5 ⟨rfl, rfl⟩
    go_wp2_with fail
    refine (c_RecoverEvents l hl _ (hg.ext hX4)).mono ?_
    intro e w6 hr
    obtain ⟨JA, jc, rfl, jo, jb, hx6⟩ := hr.of HR.out
    clear hr
    rw [HN.out] at jo jb ⊢
    go_wp2_with fail
    refine (c_eqEventS _ _ _ _ _ _ es _ (jo.slice event_len) ((so4.ext hx6).slice event_len)).mono ?_
    rintro e w7 ⟨rfl, hx7⟩
    go_wp2_with fail
    refine (c_heldEventS IA n ic 1 _ (((io4.ext hx6).ext hx7).slice event_len) (by omega) (by omega) (by omega)).mono ?_
    rintro e w8 ⟨rfl, rfl⟩
    go_wp2_with fail
    go_ret
    exact Ret.bool rfl (hX4.trans (hx6.trans hx7))
end Go.Proofs.YtglbiddddflmeaaDoor
