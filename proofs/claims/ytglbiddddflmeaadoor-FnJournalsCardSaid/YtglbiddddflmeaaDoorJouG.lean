

/-
  Reading numbers, of the program.
-/
import Derived.Test.YtglbiddddflmeaaDoorJouE
import Derived.Lib.AtoiErrMem
namespace Go.Proofs.YtglbiddddflmeaaDoor
open Go.RowKit
open Go.Lib hiding intOf
/-- what is known of the package variables that reading reads -/
structure Glob (w : World) : Prop where
  toJ : GlobJ w
  maxLen : ∃ m, w.cell? ⟨2, 0, none⟩ = some (.int .i64 m)
  esyn : ∃ tp p, w.cell? ⟨7, 0, none⟩ = some (.iface tp p)
  erng : ∃ tp p, w.cell? ⟨8, 0, none⟩ = some (.iface tp p)
theorem Glob.ext {w w' : World} (h : Glob w) (hx : Ext w w') : Glob w' := by
  have h1 := h.toJ.lt
  obtain ⟨m, hm⟩ := h.maxLen
  obtain ⟨t1, p1, h2⟩ := h.esyn
  obtain ⟨t2, p2, h3⟩ := h.erng
  exact ⟨h.toJ.ext hx, ⟨m, (hx.cell 2 0 (by omega)).trans hm⟩, ⟨t1, p1, (hx.cell 7 0 (by omega)).trans h2⟩, ⟨t2, p2, (hx.cell 8 0 (by omega)).trans h3⟩⟩
/-- how a reading ends: as that of an empty text where it fails -/
theorem num_casesN (r : NumEnd Nat) : (∃ v, r = .ok v) ∨ r = parseUintB 64 [] ∨ r = .range := by
  cases r
  · exact .inl ⟨_, rfl⟩
  · exact .inr (.inl rfl)
  · exact .inr (.inr rfl)
theorem num_casesI (r : NumEnd Int) : (∃ v, r = .ok v) ∨ r = parseIntB 64 [] ∨ r = .range := by
  cases r
  · exact .inl ⟨_, rfl⟩
  · exact .inr (.inl rfl)
  · exact .inr (.inr rfl)
theorem parse_none (s : ByteArray) (hlim : s.size ≤ 281474976710656) (h : parseIntB 64 s.data.toList = parseIntB 64 []) (ev : Value) (w : World) (hv : w.cell? ⟨7, 0, none⟩ = some ev) (hev : ev = .nilIface ∨ ∃ te pe, ev = .iface te pe) :
    Calls Tryd.prog 89 #[.string s, .int .i64 10, .int .i64 64] w fun e w' => ∃ v, e = .returned (.tuple #[.int .i64 0, .iface 140 v]) ∧ Ext w w' := by
  refine (Any.strconv_ParseInt_10_at64_syntax Tryd.laysC174 s hlim h ev w hv hev).mono ?_
  rintro e w1 ⟨N, rfl, _, _, hx⟩
  exact ⟨_, rfl, hx⟩
theorem parse_range {l : List UInt8} {v : Int} (h : parseIntB 64 l = .ok v) : -9223372036854775808 ≤ v ∧ v ≤ 9223372036854775807 := by
  cases l with
  | nil => cases h
  | cons c r =>
    simp only [parseIntB] at h
    generalize parseUintB 64 (if c.toNat = 43 ∨ c.toNat = 45 then r else c :: r) = u at h
    rcases num_casesN u with ⟨u, rfl⟩ | rfl | rfl
    · simp only at h
      split at h
      · cases h
      · split at h
        · cases h
        · rename_i h1 h2
          injection h with h
          by_cases hc : c.toNat = 45
          · rw [if_pos hc] at h; simp [hc] at h2; omega
          · rw [if_neg hc] at h; simp [hc] at h1; omega
    · cases h
    · cases h
theorem mkB_toList (l : List UInt8) : (mkB l).toList = l := ByteArray.toList_mk l
theorem mkB_beq_false {a b : List UInt8} (h : a ≠ b) : ((mkB a).toList == (mkB b).toList) = false := by
  rw [mkB_toList, mkB_toList, beq_eq_false_iff_ne]
  exact h
def NumPost (l : List UInt8) (w : World) (e : Ending) (w' : World) : Prop := ∃ n ok, e = .returned (.tuple #[.int .i64 n, .bool ok]) ∧ numP l = (if ok = true then some n else none) ∧ Ext w w'
set_option maxHeartbeats 1000000 in
theorem c_readNumber (l : List UInt8) (hl : l.length ≤ 1048576) (w : World) (hg : Glob w) :
    Calls Tryd.prog 80 #[.string (mkB l)] w (NumPost l w) := by
  obtain ⟨t1, p1, hs⟩ := hg.esyn
  obtain ⟨t2, p2, hr⟩ := hg.erng
  obtain ⟨r, hp⟩ : ∃ r, parseIntB 64 l = r := ⟨_, rfl⟩
  rcases num_casesI r with ⟨v, rfl⟩ | rfl | rfl
  · skip
    have hv := parse_range hp
    have HP := hide hp
    have HN := hide (show numP l = if itoa v = l then some v else none by rw [numP, hp])
    have hc := Tryd.strconv_ParseInt_10_at64_ok (mkB l) (by rw [mkB_size]; omega) v hp w
    clear hp
    go_enter Tryd.func80, Tryd.ntmps80
    go_wp2_with fail
    refine hc.mono ?_
    rintro e w1 ⟨rfl, hw1⟩
    have hx1 : Ext w w1 := by
      rcases hw1 with rfl | ⟨t, rfl⟩
      · exact Ext.refl _
      · exact bytesWorld_below _ _ _
    clear hw1
    by_cases he : itoa v = l
    · go_wp2_with (go_at_call 60; refine (c_decimal v hv.1 hv.2 _ (hg.toJ.ext hx1)).mono ?_; rw [he]; rintro e w2 ⟨rfl, hx2⟩)
      exact bodyPost_ret (v := .tuple #[.int .i64 v, .bool true]) (by simp [results, Tryd.results80, go_sem]) rfl ⟨v, true, rfl, by rw [HN.out, if_pos he]; rfl, hx1.trans hx2⟩
    · have hb := mkB_beq_false he
      go_wp2_with (go_at_call 60; refine (c_decimal v hv.1 hv.2 _ (hg.toJ.ext hx1)).mono ?_; rintro e w2 ⟨rfl, hx2⟩)
      exact bodyPost_ret (v := .tuple #[.int .i64 0, .bool false]) (by simp [results, Tryd.results80, go_sem]) rfl ⟨0, false, rfl, by rw [HN.out, if_neg he]; rfl, hx1.trans hx2⟩
  · have HN := hide (show numP l = none by rw [numP, hp]; rfl)
    have hc := parse_none (mkB l) (by rw [mkB_size]; omega) hp _ w hs (.inr ⟨_, _, rfl⟩)
    clear hp
    go_enter Tryd.func80, Tryd.ntmps80
    go_wp2_with fail
    refine hc.mono ?_
    rintro e w1 ⟨v, rfl, hx1⟩
    go_wp2_with fail
    exact bodyPost_ret (v := .tuple #[.int .i64 0, .bool false]) (by simp [results, Tryd.results80, go_sem]) rfl ⟨0, false, rfl, HN.out, hx1⟩
  · skip
    have HN := hide (show numP l = none by rw [numP, hp])
    have hc := Tryd.strconv_ParseInt_10_at64_range (mkB l) (by rw [mkB_size]; omega) hp _ w hr (.inr ⟨_, _, rfl⟩)
    clear hp
    go_enter Tryd.func80, Tryd.ntmps80
    go_wp2_with fail
    refine hc.mono ?_
    rintro e w1 ⟨N, rfl, _, _, hx1⟩
    go_wp2_with fail
    exact bodyPost_ret (v := .tuple #[.int .i64 0, .bool false]) (by simp [results, Tryd.results80, go_sem]) rfl ⟨0, false, rfl, HN.out, hx1⟩
end Go.Proofs.YtglbiddddflmeaaDoor
