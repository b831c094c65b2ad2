

/-
  The line of an event, of the program: decimal, joinNumbers, eventLine.
-/
import Derived.Test.YtglbiddddflmeaaDoorJouA
import Derived.Test.YtglbiddddflmeaaDoorShelf
import Derived.Lib.AppendIntMem
import Derived.WalkSmall
namespace Go.Proofs.YtglbiddddflmeaaDoor
open Go.RowKit
open Go.Lib hiding intOf
/-- what is known of the package variables that printing reads -/
structure GlobJ (w : World) : Prop where
  lt : 8 < w.heap.size
  pow : TabIs Tryd.prog w "internal/strconv.uint64pow10" .u64 pow10Tab
  words : ∀ k : Nat, k < 4 → w.cell? ⟨0, k, none⟩ = some (.string (mkB (if k = 0 then [] else evWord k)))
theorem globPow : Tryd.prog.globalNamed "internal/strconv.uint64pow10" = some 1 := by kernel_rfl
theorem GlobJ.ext {w w' : World} (h : GlobJ w) (hx : Ext w w') : GlobJ w' := by
  have h1 := h.lt
  exact ⟨Nat.lt_of_lt_of_le h.lt hx.size, var?_below hx globPow (by omega) h.pow, fun k hk => (hx.cell 0 k (by omega)).trans (h.words k hk)⟩
theorem c_decimal (n : Int) (h0 : -9223372036854775808 ≤ n) (h1 : n ≤ 9223372036854775807) (w : World) (hg : GlobJ w) :
    Calls Tryd.prog 60 #[.int .i64 n] w (Ret (.string (mkB (itoa n))) w) := by
  go_enter Tryd.func60, Tryd.ntmps60
  go_wp2_with fail
  refine (Tryd.strconv_FormatInt_10 n h0 h1 _ hg.pow).mono ?_
  rintro e w1 ⟨rfl, k, os, rfl⟩
  go_wp2_with fail
  go_ret
  exact Ret.of rfl (below_grow _ _ (Nat.le_refl _) k os)
def strC (b : List UInt8) : List Value := [.string (mkB b)]
theorem strC_len (b : List UInt8) : (strC b).length = 1 := rfl
theorem string_info : (Tryd.prog.info? 9).map (fun i => (i.zero, i.size, i.bytes)) = some (some (.string ⟨#[]⟩), 1, 16) := by kernel_rfl
theorem itoa_len (n : Int) (h0 : -1000000000 ≤ n) (h1 : n ≤ 1000000000) : (itoa n).length ≤ 1000000010 := by
  unfold itoa
  split
  · have := decDigits_len (n.natAbs + 1) n.natAbs (Nat.lt_succ_self _)
    simp
    omega
  · have := decDigits_len (n.toNat + 1) n.toNat (Nat.lt_succ_self _)
    omega
theorem strRow_cells {w : World} {g : Nat} {t : TypeId} {L : List (List UInt8)} (h : RowOf w g t strC L) (j : Nat) (x : ByteArray) (hx : (L.map mkB)[j]? = some x) : w.cell? ⟨g, 0 + j, none⟩ = some (.string x) := by
  rw [List.getElem?_map] at hx
  cases hl : L[j]? with
  | none => rw [hl] at hx; cases hx
  | some y =>
    rw [hl] at hx
    simp at hx
    subst hx
    have := h.get strC_len hl (j := 0) (u := .string (mkB y)) rfl
    simpa using this
theorem map_mkB_list (L : List (List UInt8)) : (L.map mkB).map (·.data.toList) = L := by
  rw [List.map_map]
  have : ((fun b : ByteArray => b.data.toList) ∘ mkB) = id := funext mkB_list
  rw [this, List.map_id]
set_option maxHeartbeats 1000000 in
theorem c_joinNumbers (A : Option Addr) (n c : Nat) (xs : List Int) (sep : List UInt8) (w : World) (hs : SliceOf w 1 intC A n c xs) (hn : n ≤ 1048576) (hb : ∀ x ∈ xs, -1000000000 ≤ x ∧ x ≤ 1000000000) (hJ : (join (xs.map itoa) sep).length ≤ 140737488355328) (hg : GlobJ w) :
    Calls Tryd.prog 59 #[.slice A n c, .string (mkB sep)] w (Ret (.string (mkB (join (xs.map itoa) sep))) w) := by
  have hmk := fun W => run_make_flat (P := Tryd.prog) 90 9 _ _ 1 16 Tryd.underlying90 string_info (f := strC) [] rfl rfl rfl (by omega) n (by omega) (by omega) W
  have hR0 := Row.new w 9 ((List.replicate n ([] : List UInt8)).flatMap strC)
  have HB := hide hb
  have HJ := hide hJ
  clear hb hJ
  go_enter Tryd.func59, Tryd.ntmps59
  go_wp2_with fail
  go_loopw [6, 7, 13] (fun _ _ i wr => ∃ (k : Nat) (L : List (List UInt8)), k ≤ n ∧ i = .int .i64 k ∧ L.length = n ∧ RowOf wr w.heap.size 9 strC L ∧ Hid (∀ j, j < k → L[j]? = (xs.map itoa)[j]?) ∧ Ext w wr) (fun _ _ i _ => n - (intOf i).toNat)
  case atStart => exact ⟨0, _, Nat.zero_le _, rfl, List.length_replicate, hR0, hide (fun j hj => absurd hj (by omega)), Ext.alloc _ _⟩
  case round =>
    obtain ⟨k, L, hk, rfl, hL, hrow, HK, hx⟩ := hrel
    clear hR0 hmk
    have hgs := hrow.lt
    by_cases hlt : k < n
    · obtain ⟨b, off, x, rfl, hb, hxk, hc0⟩ := (hs.ext hx).get1 hlt
      have Hx := hide hxk
      have HL := hide hL
      have hbx := HB.out x (List.mem_of_getElem? hxk)
      clear hxk hL
      go_wp2_with fail
      refine (c_decimal x (by omega) (by omega) _ (hg.ext hx)).mono ?_
      rintro e w1 ⟨rfl, hx1⟩
      have hrow1 := hrow.ext hx1
      have hgs1 := hrow1.lt
      obtain ⟨v0, hv0⟩ := hrow1.there strC_len (i := k) (by rw [HL.out]; exact hlt) (j := 0) (by omega)
      have hf0 := hrow1.frozen k
      simp only [Nat.mul_one, Nat.add_zero] at hv0
      go_wp2_with fail
      go_roundw
      case rel =>
        have hput := hrow1.put strC_len (i := k) (by rw [HL.out]; exact hlt) (itoa x)
        rw [Nat.mul_one] at hput
        refine ⟨k + 1, L.set k (itoa x), by omega, by go_num, by simpa using HL.out, hput, hide ?_, (hx.trans hx1).put (Nat.le_refl _) k (strC (itoa x))⟩
        intro j hj
        rw [List.getElem?_set]
        by_cases e : k = j
        · subst e; rw [if_pos rfl, if_pos (by rw [HL.out]; exact hlt), List.getElem?_map, Hx.out]; rfl
        · rw [if_neg e]; exact HK.out j (by omega)
      case measure => simp [intOf]; omega
    · have hLts : L = xs.map itoa := by
        apply List.ext_getElem?
        intro j
        by_cases hj : j < n
        · exact HK.out j (by omega)
        · rw [List.getElem?_eq_none (by omega), List.getElem?_eq_none (by have := hs.len; simp; omega)]
      go_wp2_with fail
      have hj := Tryd.strings_Join w.heap.size 0 n (L.map mkB) (mkB sep) wr (fun j x h => strRow_cells hrow j x h) hgs (by rw [List.length_map, hL]; omega) (by rw [List.length_map, hL]; exact Nat.le_refl _) (by rw [map_mkB_list, hLts]; exact HJ.out)
      rw [List.length_map, hL, map_mkB_list, hLts] at hj
      refine hj.mono ?_
      rintro e w1 ⟨rfl, hx1⟩
      go_wp2_with fail
      go_ret
      exact Ret.of rfl (hx.trans hx1)
end Go.Proofs.YtglbiddddflmeaaDoor
