

/-
  JournalOf: validity of a list of events, by way of slices.ContainsFunc; JournalOf of the reference.
-/
import Derived.Test.YtglbiddddflmeaaDoorJouF
import Derived.Test.YtglbiddddflmeaaDoorJouC
namespace Go.Proofs.YtglbiddddflmeaaDoor
open Go.RowKit
open Go.Lib hiding intOf
theorem c_badEvent (p : Event) (w : World) :
    Calls Tryd.prog 41 #[.agg #[.int .i64 p.kind, .int .i64 p.a, .int .i64 p.b, .int .i64 p.c, .int .i64 p.d]] w (Ret (.bool (!evB p)) w) := by
  go_enter Tryd.func41, Tryd.ntmps41
  go_wp2_with (go_at_call 37; refine (c_IsEvent p _).mono ?_; rintro e w1 ⟨rfl, hx1⟩)
  go_ret
  exact Ret.bool rfl hx1.box
/-- an index that is not negative where one is found -/
def FoundIdx (b : Bool) (w : World) (e : Ending) (w' : World) : Prop := ∃ r : Int, e = .returned (.int .i64 r) ∧ decide (0 ≤ r) = !b ∧ Ext w w'
set_option maxHeartbeats 1000000 in
theorem c_IndexFuncE (A : Option Addr) (n c : Nat) (ps : List Event) (w : World) (hs : SliceOf w 5 Event.cells A n c ps) :
    Calls Tryd.prog 58 #[.slice A n c, .func (.func 41) #[] #[]] w (FoundIdx (ps.all evB) w) := by
  have hm := hs.max
  have hcap := hs.cap
  go_enter Tryd.func58, Tryd.ntmps58
  go_wp2_with fail
  go_loopw [5, 8] (fun _ i wr => ∃ k : Nat, k ≤ n ∧ i = .int .i64 k ∧ Hid (∀ (j : Nat) (p : Event), j < k → ps[j]? = some p → evB p = true) ∧ Ext w wr) (fun _ i _ => n - (intOf i).toNat)
  case atStart => exact ⟨0, Nat.zero_le _, rfl, hide (fun j p hj => absurd hj (by omega)), Ext.refl _⟩
  case round =>
    obtain ⟨k, hk, rfl, HK, hx⟩ := hrel
    by_cases hlt : k < n
    · obtain ⟨b, off, p, rfl, hb, hxk, hc⟩ := (hs.ext hx).get hlt
      have hc0 := hc 0 _ rfl
      have hc1 := hc 1 _ rfl
      have hc2 := hc 2 _ rfl
      have hc3 := hc 3 _ rfl
      have hc4 := hc 4 _ rfl
      clear hc
      simp only [Nat.add_zero] at hc0
      have HX := hide hxk
      clear hxk
      cases hp : evB p
      · go_wp2_with (go_at_call 41; refine (c_badEvent p _).mono ?_; rw [hp]; rintro e w1 ⟨rfl, hx1⟩)
        go_ret
        refine ⟨k, rfl, ?_, hx.trans hx1⟩
        have : ps.all evB = false := by rw [List.all_eq_false]; exact ⟨p, List.mem_of_getElem? HX.out, by simp [hp]⟩
        rw [this]; simp
      · go_wp2_with (go_at_call 41; refine (c_badEvent p _).mono ?_; rw [hp]; rintro e w1 ⟨rfl, hx1⟩)
        go_roundw
        case rel =>
          refine ⟨k + 1, by omega, by go_num, hide fun j q hj hq => ?_, hx.trans hx1⟩
          by_cases e : j = k
          · subst e; rw [HX.out] at hq; injection hq with hq; subst hq; exact hp
          · exact HK.out j q (by omega) hq
        case measure => simp [intOf]; omega
    · go_wp2_with fail
      go_ret
      refine ⟨-1, rfl, ?_, hx⟩
      have : ps.all evB = true := by
        rw [List.all_eq_true]; intro q hq
        obtain ⟨j, hj, rfl⟩ := List.mem_iff_getElem.1 hq
        exact HK.out j _ (by have := hs.len; omega) (List.getElem?_eq_getElem hj)
      rw [this]; simp
theorem c_ContainsFuncE (A : Option Addr) (n c : Nat) (ps : List Event) (w : World) (hs : SliceOf w 5 Event.cells A n c ps) :
    Calls Tryd.prog 40 #[.slice A n c, .func (.func 41) #[] #[]] w (Ret (.bool (!ps.all evB)) w) := by
  go_enter Tryd.func40, Tryd.ntmps40
  go_wp2_with fail
  refine (c_IndexFuncE A n c ps _ hs).mono ?_
  rintro e w1 ⟨r, rfl, hr, hx1⟩
  have HR := hide hr
  clear hr
  go_wp2_with fail
  go_ret
  exact Ret.bool HR.out.symm hx1
def jourR (es : List Event) : List UInt8 × Int := if 300 < es.length then ([], 3) else if es.all evB = false then ([], 1) else (textL es 1, 0)
set_option maxHeartbeats 1000000 in
set_option maxRecDepth 8000 in
theorem c_specJournalOf (A : Option Addr) (n c : Nat) (es : List Event) (w : World) (hs : SliceOf w 5 Event.cells A n c es) :
    Calls Tryd.prog 13 #[.slice A n c] w (Ret (.tuple #[.string (mkB (jourR es).1), .int .i64 (jourR es).2]) w) := by
  have hm := hs.max
  have hcap := hs.cap
  have HN := hide hs.len
  by_cases h : 300 < n
  · have HR := hide (show jourR es = ([], 3) by unfold jourR; rw [if_pos (by have := HN.out; omega)])
    go_enter Tryd.func13, Tryd.ntmps13
    go_wp2_with fail
    exact bodyPost_ret (v := .tuple #[.string ⟨#[]⟩, .int .i64 3]) (by simp [results, Tryd.results13, go_sem]) rfl (Ret.of (by rw [HR.out]; rfl) (Ext.refl _))
  · have HR := hide (show jourR es = if es.all evB = false then ([], 1) else (textL es 1, 0) by unfold jourR; rw [if_neg (by have := HN.out; omega)])
    go_enter Tryd.func13, Tryd.ntmps13
    go_wp2_with fail
    go_loopw [4] (fun i wr => ∃ k : Nat, k ≤ n ∧ i = .int .i64 k ∧ Hid (∀ (j : Nat) (p : Event), j < k → es[j]? = some p → evB p = true) ∧ Ext w wr) (fun i _ => n - (intOf i).toNat)
    case atStart => exact ⟨0, Nat.zero_le _, rfl, hide (fun j p hj => absurd hj (by omega)), Ext.refl _⟩
    case round =>
      obtain ⟨k, hk, rfl, HK, hx⟩ := hrel
      by_cases hlt : k < n
      · obtain ⟨b, off, p, rfl, hb, hxk, hc⟩ := (hs.ext hx).get hlt
        have hc0 := hc 0 _ rfl
        have hc1 := hc 1 _ rfl
        have hc2 := hc 2 _ rfl
        have hc3 := hc 3 _ rfl
        have hc4 := hc 4 _ rfl
        clear hc
        simp only [Nat.add_zero] at hc0
        have HX := hide hxk
        clear hxk
        cases hp : evB p
        · have HR2 := hide (show jourR es = ([], 1) by
            rw [HR.out, if_pos]
            rw [List.all_eq_false]; exact ⟨p, List.mem_of_getElem? HX.out, by simp [hp]⟩)
          go_wp2_with (go_at_call 38; refine (c_specIsEvent p _).mono ?_; rw [hp]; rintro e w1 ⟨rfl, hx1⟩)
          exact bodyPost_ret (v := .tuple #[.string ⟨#[]⟩, .int .i64 1]) (by simp [results, Tryd.results13, go_sem]) rfl (Ret.of (by rw [HR2.out]; rfl) (hx.trans hx1))
        · go_wp2_with (go_at_call 38; refine (c_specIsEvent p _).mono ?_; rw [hp]; rintro e w1 ⟨rfl, hx1⟩)
          go_roundw
          case rel =>
            refine ⟨k + 1, by omega, by go_num, hide fun j q hj hq => ?_, hx.trans hx1⟩
            by_cases e : j = k
            · subst e; rw [HX.out] at hq; injection hq with hq; subst hq; exact hp
            · exact HK.out j q (by omega) hq
          case measure => simp [intOf]; omega
      · have hall : es.all evB = true := by
          rw [List.all_eq_true]; intro q hq
          obtain ⟨j, hj, rfl⟩ := List.mem_iff_getElem.1 hq
          exact HK.out j _ (by have := HN.out; omega) (List.getElem?_eq_getElem hj)
        have HR2 := hide (show jourR es = (textL es 1, 0) by rw [HR.out, if_neg (by rw [hall]; decide)])
        have HAL := hide (List.all_eq_true.1 hall)
        clear hall
        go_wp2_with fail
        refine (c_l32Text A n c es _ (hs.ext hx) HAL.out (by omega)).mono ?_
        rintro e w1 ⟨rfl, hx1⟩
        go_wp2_with fail
        exact bodyPost_ret (v := .tuple #[.string (mkB (textL es 1)), .int .i64 0]) (by simp [results, Tryd.results13, go_sem]) rfl (Ret.of (by rw [HR2.out]) (hx.trans hx1))
end Go.Proofs.YtglbiddddflmeaaDoor
