/-
  Is there an order that matches a reading? Of the program.
-/
import Derived.Test.YtegkeeeohileiaaSa43
namespace Go.Proofs.Ytegkeeeohileiaa
open Go.RowKit
def hasO (os : List Order) (x : Reading) : Bool := os.any (matchB x)
theorem hasO_iff {os : List Order} {x : Reading} (hx : x.amount ≠ 0) : hasO os x = false ↔ sumZ (wts os x) = 0 := by
  constructor
  · intro h
    refine wts_zero hx fun o ho => ?_
    rw [hasO, List.any_eq_false] at h
    simpa using h o ho
  · intro h
    rw [hasO, List.any_eq_false]
    intro o ho hm
    have := wts_pos ho (by simpa using hm)
    omega
theorem c_matchIn (o : Order) (x : Reading) (b : Nat) (w : World) (hb : ReadIn w b x) :
    Calls Try.prog 23 #[.agg #[.int .i64 o.shipper, .int .i64 o.node, .int .i64 o.amount, .int .i64 o.cls], .pointer (some ⟨b, 0, none⟩)] w (Ret (.bool (matchB x o)) w) := by
  obtain ⟨hb0, hb1, hb2⟩ := hb
  generalize hB : matchB x o = B
  have HB := hide hB
  clear hB
  go_enter Try.func23, Try.ntmps23
  go_wp2_with fail
  refine (c_matches o x _).mono ?_
  rw [HB.out]
  rintro e w1 ⟨rfl, hx1⟩
  go_wp2_with fail
  go_ret
  exact Ret.bool rfl ((Ext.alloc _ _).trans hx1)
set_option maxHeartbeats 1000000 in
theorem c_IndexMatch (A : Option Addr) (n c : Nat) (L : List Order) (r : Reading) (b : Nat) (w : World) (hs : SliceOf w 4 Order.cells A n c L) (hb : ReadIn w b r) :
    Calls Try.prog 42 #[.slice A n c, .func (.func 23) #[] #[.pointer (some ⟨b, 0, none⟩)]] w (FoundN (hasO L r) w) := by
  have hm := hs.max
  have hcap := hs.cap
  go_enter Try.func42, Try.ntmps42
  go_wp2_with fail
  go_loopw [4, 8] (fun q i wr => ∃ k : Nat, k ≤ n ∧ q = .int .i64 0 ∧ i = .int .i64 k ∧ Hid (∀ (j : Nat) (p : Order), j < k → L[j]? = some p → matchB r p = false) ∧ Ext w wr) (fun _ i _ => n - (intOf i).toNat)
  case atStart => exact ⟨0, Nat.zero_le _, rfl, rfl, hide (fun j p hj => absurd hj (by omega)), Ext.refl _⟩
  case round =>
    obtain ⟨k, hk, rfl, rfl, HK, hx⟩ := hrel
    by_cases hlt : k < n
    · obtain ⟨bb, off, p, rfl, hbb, hxk, hc⟩ := (hs.ext hx).get hlt
      have hc0 := hc 0 _ rfl
      have hc1 := hc 1 _ rfl
      have hc2 := hc 2 _ rfl
      have hc3 := hc 3 _ rfl
      clear hc
      simp only [Nat.add_zero] at hc0
      have HX := hide hxk
      clear hxk
      have hbx := hb.ext hx
      cases hp : matchB r p
      · go_wp2_with (go_at_call 23; refine (c_matchIn p r b _ hbx).mono ?_; rw [hp]; rintro e w1 ⟨rfl, hx1⟩)
        go_roundw
        case rel =>
          refine ⟨k + 1, by omega, rfl, by go_num, hide fun j q hj hq => ?_, hx.trans hx1⟩
          by_cases e : j = k
          · subst e; rw [HX.out] at hq; injection hq with hq; subst hq; exact hp
          · exact HK.out j q (by omega) hq
        case measure => simp [intOf]; omega
      · go_wp2_with (go_at_call 23; refine (c_matchIn p r b _ hbx).mono ?_; rw [hp]; rintro e w1 ⟨rfl, hx1⟩)
        go_ret
        refine ⟨k, rfl, ?_, hx.trans hx1⟩
        have : hasO L r = true := by rw [hasO, List.any_eq_true]; exact ⟨p, List.mem_of_getElem? HX.out, hp⟩
        rw [this]; simp
    · go_wp2_with fail
      go_ret
      refine ⟨-1, rfl, ?_, hx⟩
      have : hasO L r = false := by
        rw [hasO, List.any_eq_false]; intro q hq
        obtain ⟨j, hj, rfl⟩ := List.mem_iff_getElem.1 hq
        simp [HK.out j _ (by have := hs.len; omega) (List.getElem?_eq_getElem hj)]
      rw [this]; simp
theorem c_ContainsMatch (A : Option Addr) (n c : Nat) (L : List Order) (r : Reading) (b : Nat) (w : World) (hs : SliceOf w 4 Order.cells A n c L) (hb : ReadIn w b r) :
    Calls Try.prog 22 #[.slice A n c, .func (.func 23) #[] #[.pointer (some ⟨b, 0, none⟩)]] w (Ret (.bool (hasO L r)) w) := by
  go_enter Try.func22, Try.ntmps22
  go_wp2_with fail
  refine (c_IndexMatch A n c L r b _ hs hb).mono ?_
  rintro e w1 ⟨q, rfl, hr, hx1⟩
  have HR := hide hr
  clear hr
  go_wp2_with fail
  go_ret
  exact Ret.bool HR.out.symm hx1
end Go.Proofs.Ytegkeeeohileiaa
