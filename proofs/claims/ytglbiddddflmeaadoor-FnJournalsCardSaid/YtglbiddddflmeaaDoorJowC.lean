

/-
  The laws' comparison of equal lists of events; the draws of two journals.
-/
import Derived.Test.YtglbiddddflmeaaDoorDrawN
import Derived.Test.YtglbiddddflmeaaDoorJouY
import Derived.Test.YtglbiddddflmeaaDoorJovB
namespace Go.Proofs.YtglbiddddflmeaaDoor
open Go.RowKit
open Go.Lib hiding intOf
set_option maxHeartbeats 1000000 in
theorem c_likeOwnEvent (A A' : Option Addr) (n c n' c' : Nat) (es : List Event) (w : World) (hs : SliceOf w 5 Event.cells A n c es) (hs' : SliceOf w 5 Event.cells A' n' c' es) :
    Calls Tryd.prog 34 #[.slice A n c, .slice A' n' c'] w (Ret (.bool true) w) := by
  obtain rfl : n = n' := by rw [hs.len, hs'.len]
  have hm := hs.max
  have hcp := hs.cap
  go_enter Tryd.func34, Tryd.ntmps34
  go_wp2_with fail
  go_loopw [5] (fun i wr => ∃ (k : Nat), k ≤ n ∧ i = .int .i64 k ∧ Ext w wr) (fun i _ => n - (intOf i).toNat)
  case atStart => exact ⟨0, Nat.zero_le _, rfl, Ext.refl _⟩
  case round =>
    obtain ⟨k, hk, rfl, hx⟩ := hrel
    by_cases hlt : k < n
    · obtain ⟨b1, o1, x, rfl, hb1, hk1, hc⟩ := (hs.ext hx).get hlt
      have hc0 := hc 0 _ rfl
      have hc1 := hc 1 _ rfl
      have hc2 := hc 2 _ rfl
      have hc3 := hc 3 _ rfl
      have hc4 := hc 4 _ rfl
      clear hc
      simp only [Nat.add_zero] at hc0
      obtain ⟨b2, o2, y, rfl, hb2, hk2, hd⟩ := (hs'.ext hx).get hlt
      have hd0 := hd 0 _ rfl
      have hd1 := hd 1 _ rfl
      have hd2 := hd 2 _ rfl
      have hd3 := hd 3 _ rfl
      have hd4 := hd 4 _ rfl
      clear hd
      simp only [Nat.add_zero] at hd0
      obtain rfl : x = y := by rw [hk1] at hk2; injection hk2
      clear hk1 hk2
      go_wp2_with fail
      refine wp_region_later (by kernel_rfl) (by kernel_rfl) ?_
      repeat (go_big_quiet_step (fail))
      refine wpQuiet_nil ?_
      intro w1 hx1
      go_wp2_with fail
      go_roundw
      case rel => exact ⟨k + 1, by omega, by go_num, hx.trans hx1⟩
      case measure => simp [intOf]; omega
    · go_wp2_with fail
      go_ret
      exact Ret.bool rfl hx
/-- two texts of a bounded length -/
def DrawnTT (w : World) (e : Ending) (w' : World) : Prop :=
  ∃ a b : List UInt8, e = .returned (.tuple #[.string (mkB a), .string (mkB b)]) ∧ a.length ≤ 20001 ∧ b.length ≤ 20001 ∧ Ext w w'
theorem flat_setA : ∀ (L : List Event) (k : Nat) (z : Int) (hk : k < L.length), (L.flatMap Event.cells).set (k * 5 + 1) (.int .i64 z) = (L.set k { L[k] with a := z }).flatMap Event.cells
  | [], k, z, hk => absurd hk (by simp)
  | e :: L, 0, z, _ => by simp [Event.cells]
  | e :: L, k + 1, z, hk => by
    have ih := flat_setA L k z (by simpa using hk)
    rw [List.flatMap_cons, List.set_append_right _ _ (by rw [event_len]; omega), event_len, show (k + 1) * 5 + 1 - 5 = k * 5 + 1 by omega, ih]
    simp
theorem OwnL.set1 {w : World} {base : Nat} {L : List Event} {A : Option Addr} {n c : Nat} (h : OwnL w base 38 5 Event.cells (.slice A n c) L) (k : Nat) (hk : k < L.length) :
    ∃ g, A = some ⟨g, 0, none⟩ ∧ n = L.length ∧ base ≤ g ∧ g < w.heap.size ∧ w.frozen? ⟨g, k * 5 + 1, none⟩ = false ∧ (∃ u, w.cell? ⟨g, k * 5 + 1, none⟩ = some u) ∧ ∃ L', L'.length = L.length ∧ SliceOf (w.setCell ⟨g, k * 5 + 1, none⟩ (.int .i64 5)) 5 Event.cells A n c L' := by
  obtain ⟨A', c', g, hv, hg, hnc, hcm, ho⟩ := h.own event_len (by omega)
  simp only [Value.slice.injEq] at hv
  obtain ⟨rfl, rfl, rfl⟩ := hv
  obtain ⟨hA, rest, hr⟩ := ho.2 (by omega)
  refine ⟨g, hA, rfl, hg, hr.lt, hr.frozen _, ho.there event_len hk (by omega), L.set k { L[k] with a := 5 }, by simp, ?_⟩
  have h1 := hr.set_ (k * 5 + 1) (.int .i64 5)
  have hl : (L.flatMap Event.cells).length = L.length * 5 := flat_len event_len
  rw [List.set_append_left _ _ (by rw [hl]; omega), flat_setA L k 5 hk] at h1
  have h2 : OwnS (w.setCell ⟨g, k * 5 + 1, none⟩ (.int .i64 5)) g 38 Event.cells A L.length (L.set k { L[k] with a := 5 }) := ⟨by simp, fun _ => ⟨hA, rest, h1⟩⟩
  exact h2.slice event_len hnc hcm
/-- some events -/
def DrawnList (w : World) (e : Ending) (w' : World) : Prop :=
  ∃ (A : Option Addr) (n c : Nat) (es : List Event), e = .returned (.slice A n c) ∧ n ≤ 301 ∧ SliceOf w' 5 Event.cells A n c es ∧ Ext w w'
theorem c_DrawJournalOf (A : Option Addr) (n c : Nat) (bs : List Int) (w : World) (hbs : SliceOf w 1 byteC A n c bs) (hbd : ∀ z ∈ bs, 0 ≤ z ∧ z ≤ 255) (hn : n ≤ 1048576) :
    Calls Tryd.prog 31 #[.slice A n c] w (DrawnList w) := by
  have HD := hide hbd
  clear hbd
  go_enter Tryd.func31, Tryd.ntmps31
  go_wp2_with fail
  refine (c_l01From A n c bs _ hbs HD.out).mono ?_
  rintro e w1 ⟨a, rfl, ha, ha1, hs1, hx1⟩
  go_wp2_with fail
  refine (c_l32DrawList a A n c bs w w1 hbs HD.out hx1 ha hs1 hn).mono ?_
  rintro e w2 ⟨v, L, rfl, hL, hown, hs2, ho2⟩
  obtain ⟨A', c', g, rfl, hg, hnc, hcm, ho⟩ := hown.own event_len (by omega)
  go_wp2_with fail
  go_ret
  exact ⟨_, _, _, _, rfl, hL, ho.slice event_len hnc hcm, hx1.only ho2 ha⟩
/-- a text and an event -/
def DrawnTE (w : World) (e : Ending) (w' : World) : Prop :=
  ∃ (l : List UInt8) (p : Event), e = .returned (.tuple #[.string (mkB l), .agg #[.int .i64 p.kind, .int .i64 p.a, .int .i64 p.b, .int .i64 p.c, .int .i64 p.d]]) ∧ l.length ≤ 20001 ∧ Ext w w'
set_option maxHeartbeats 1000000 in
theorem c_DrawAppendEvent (A : Option Addr) (n c : Nat) (bs : List Int) (w : World) (hbs : SliceOf w 1 byteC A n c bs) (hbd : ∀ z ∈ bs, 0 ≤ z ∧ z ≤ 255) (hn : n ≤ 1048576) :
    Calls Tryd.prog 36 #[.slice A n c] w (DrawnTE w) := by
  have HD := hide hbd
  clear hbd
  go_enter Tryd.func36, Tryd.ntmps36
  go_wp2_with fail
  refine (c_l01From A n c bs _ (hbs.ext (Ext.alloc _ _)) HD.out).mono ?_
  rintro e w1 ⟨a, rfl, ha, ha1, hs1, hx1⟩
  simp at ha
  go_wp2_with fail
  refine (c_l32DrawText a A n c bs w w1 hbs HD.out hx1.box (by omega) hs1 hn).mono ?_
  rintro e w2 ⟨l, rfl, hl, hs2, ho2⟩
  have hx2 := hx1.box.only ho2 (by omega)
  go_wp2_with fail
  refine (c_l32DrawOne a A n c bs w w2 hbs HD.out hx2 (by omega) hs2 hn).mono ?_
  rintro e w3 ⟨p, rfl, hs3, ho3⟩
  have hx3 := hx2.only ho3 (by omega)
  have hR0 := (((Row.new w 38 [.int .i64 0, .int .i64 0, .int .i64 0, .int .i64 0, .int .i64 0]).ext hx1).only ho2 (by omega)).only ho3 (by omega)
  have q0 := hR0.cell 0
  have q1 := hR0.cell 1
  have q2 := hR0.cell 2
  have q3 := hR0.cell 3
  have q4 := hR0.cell 4
  have f0 := hR0.frozen 0
  have f1 := hR0.frozen 1
  have f2 := hR0.frozen 2
  have f3 := hR0.frozen 3
  have f4 := hR0.frozen 4
  simp at q0 q1 q2 q3 q4
  have hl0 := hR0.lt
  have hk : Only w.heap.size w3 (putCells w3 w.heap.size 0 [.int .i64 p.kind, .int .i64 p.a, .int .i64 p.b, .int .i64 p.c, .int .i64 p.d]) := (Only.refl _ _).put _ _
  have hfin : DrawnTE w (.returned (.tuple #[.string (mkB l), .agg #[.int .i64 p.kind, .int .i64 p.a, .int .i64 p.b, .int .i64 p.c, .int .i64 p.d]])) (putCells w3 w.heap.size 0 [.int .i64 p.kind, .int .i64 p.a, .int .i64 p.b, .int .i64 p.c, .int .i64 p.d]) :=
    ⟨l, p, rfl, hl, hx3.only hk (Nat.le_refl _)⟩
  have HF := hide hfin
  clear hfin hR0 hk
  go_wp2_with fail
  refine bodyPost_ret (v := .tuple #[.string (mkB l), .agg #[.int .i64 p.kind, .int .i64 p.a, .int .i64 p.b, .int .i64 p.c, .int .i64 p.d]]) (by simp [results, Tryd.results36, go_sem, q0, q1, q2, q3, q4]) rfl ?_
  exact HF.out
set_option maxHeartbeats 1000000 in
theorem c_DrawCommonEvents (A : Option Addr) (n c : Nat) (bs : List Int) (w : World) (hbs : SliceOf w 1 byteC A n c bs) (hbd : ∀ z ∈ bs, 0 ≤ z ∧ z ≤ 255) (hn : n ≤ 1048576) :
    Calls Tryd.prog 35 #[.slice A n c] w (DrawnTT w) := by
  have HD := hide hbd
  clear hbd
  go_enter Tryd.func35, Tryd.ntmps35
  go_wp2_with fail
  refine (c_l01From A n c bs _ hbs HD.out).mono ?_
  rintro e w1 ⟨a, rfl, ha, ha1, hs1, hx1⟩
  have nxt := fun (m : Int) (w' : World) hx0 hsrc => c_l01Next a m A n c bs w w' hbs HD.out hx0 ha hsrc hn
  have NX := hide nxt
  clear nxt
  go_wp2_with fail
  refine (c_l32DrawList a A n c bs w w1 hbs HD.out hx1 ha hs1 hn).mono ?_
  rintro e w2 ⟨v, L, rfl, hL, hown, hs2, ho2⟩
  have hx2 := hx1.only ho2 ha
  obtain ⟨B, d, rfl, hoA, _⟩ := hown.toOwn event_len (by omega)
  go_wp2_with fail
  refine (c_specJournalOf B L.length d L _ (hoA.slice event_len)).mono ?_
  rintro e w3 ⟨rfl, hx3⟩
  have hX3 := hx2.trans hx3
  have hs3 := hs2.ext hx3
  have hown3 := hown.ext hx3
  have hla : (jourR L).1.length ≤ 20001 := by have := jourR_len L; omega
  generalize (jourR L).1 = la at *
  generalize (jourR L).2 = ca at *
  clear hown hoA hx3 hs2 ho2 hs1
  by_cases h0 : L.length = 0
  · have hz : decide ((0 : Int) < (L.length : Int)) = false := decide_eq_false (by omega)
    go_wp2_with fail
    refine (c_l32DrawText a A n c bs w w3 hbs HD.out hX3 ha hs3 (by omega)).mono ?_
    rintro e w4 ⟨lb, rfl, hlb, hs4, ho4⟩
    go_wp2_with fail
    refine bodyPost_ret (v := .tuple #[.string (mkB la), .string (mkB lb)]) (by simp [results, Tryd.results35, go_sem]) rfl ?_
    exact ⟨la, lb, rfl, hla, hlb, hX3.only ho4 ha⟩
  · have hz : decide ((0 : Int) < (L.length : Int)) = true := decide_eq_true (by omega)
    go_wp2_with fail
    refine (NX.out 3 _ hX3 hs3 (by omega) (by omega)).mono ?_
    rintro e w4 ⟨x4, rfl, hx4, hx4', hs4, ho4⟩
    have hX4 := hX3.only ho4 ha
    by_cases h4 : 0 < x4
    · have h4' : decide (0 < x4) = true := by simpa using h4
      have hown4 := hown3.only ho4 (by omega)
      go_wp2_with fail
      refine (NX.out (L.length : Int) _ hX4 hs4 (by omega) (by omega)).mono ?_
      rintro e w5 ⟨x5, rfl, hx5, hx5', hs5, ho5⟩
      have hX5 := hX4.only ho5 ha
      obtain ⟨k, rfl⟩ := Int.eq_ofNat_of_zero_le hx5
      have hk : k < L.length := by omega
      obtain ⟨g, rfl, _, hgb, hgl, hfz, ⟨u, hu⟩, L', hL', hsl⟩ := (hown4.only ho5 (by omega)).set1 k hk
      have hX6 : Ext w (w5.setCell ⟨g, k * 5 + 1, none⟩ (.int .i64 5)) := hX5.setCell (p := ⟨g, k * 5 + 1, none⟩) (by have := hx1.size; show w.heap.size ≤ g; omega) _
      have HSL := hide hsl
      clear hsl
      go_wp2_with fail
      refine (c_specJournalOf _ L.length d L' _ HSL.out).mono ?_
      rintro e w7 ⟨rfl, hx7⟩
      have hlb : (jourR L').1.length ≤ 20001 := by have := jourR_len L'; omega
      generalize (jourR L').1 = lb at *
      generalize (jourR L').2 = cb at *
      go_wp2_with fail
      refine bodyPost_ret (v := .tuple #[.string (mkB la), .string (mkB lb)]) (by simp [results, Tryd.results35, go_sem]) rfl ?_
      exact ⟨la, lb, rfl, hla, hlb, hX6.trans hx7⟩
    · have h4' : decide (0 < x4) = false := by simpa using h4
      go_wp2_with fail
      refine (c_l32DrawText a A n c bs w w4 hbs HD.out hX4 ha hs4 hn).mono ?_
      rintro e w5 ⟨lb, rfl, hlb, hs5, ho5⟩
      go_wp2_with fail
      refine bodyPost_ret (v := .tuple #[.string (mkB la), .string (mkB lb)]) (by simp [results, Tryd.results35, go_sem]) rfl ?_
      exact ⟨la, lb, rfl, hla, hlb, hX4.only ho5 ha⟩
end Go.Proofs.YtglbiddddflmeaaDoor
