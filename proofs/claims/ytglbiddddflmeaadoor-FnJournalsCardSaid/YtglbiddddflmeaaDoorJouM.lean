

/-
  Recovering a journal, of the reference.
-/
import Derived.Test.YtglbiddddflmeaaDoorJouL
namespace Go.Proofs.YtglbiddddflmeaaDoor
open Go.RowKit
open Go.Lib hiding intOf
theorem next_none {line : List UInt8} {x : Int} (h : ∀ e, evB e = true → lineL e x ≠ line) : next line x = none := by
  cases hn : next line x with
  | none => rfl
  | some e =>
    obtain ⟨h1, h2⟩ := next_some hn
    exact absurd h2 (h e h1)
def RecPost (l : List UInt8) (w : World) (e : Ending) (w' : World) : Prop :=
  ∃ A c, e = .returned (.tuple #[.slice A (recS l).length c, .int .i64 ((textL (recS l) 1).length : Int)]) ∧ OwnA w' 38 Event.cells A (recS l).length c (recS l) ∧ ((∀ b, blkOf A (recS l).length = some b → w.heap.size ≤ b) ∧ OwnL w' w.heap.size 38 5 Event.cells (.slice A (recS l).length c) (recS l)) ∧ Ext w w'
theorem OwnL.low {α : Type} {w : World} {base base' : Nat} {e : TypeId} {size : Nat} {f : α → List Value} {v : Value} {L : List α} (h : OwnL w base e size f v L) (hb : base' ≤ base) : OwnL w base' e size f v L := by
  obtain ⟨h1, h2⟩ := h
  refine ⟨h1, ?_⟩
  rcases h2 with h2 | ⟨k, cap, cur, hv, hb', r⟩
  · exact .inl h2
  · exact .inr ⟨k, cap, cur, hv, by omega, r⟩
set_option maxHeartbeats 4000000 in
set_option maxRecDepth 8000 in
theorem c_l32Recover (l : List UInt8) (hl : l.length ≤ 1048576) (w : World) :
    Calls Tryd.prog 47 #[.string (mkB l)] w (RecPost l w) := by
  have HREC0 := hide (show recS l = recL (splitL 10 l).dropLast 300 1 from rfl)
  have HPC := hide (show ∀ x ∈ splitL 10 l, x.length ≤ 1048576 from fun x hx => by have := splitL_piece 10 l x hx; omega)
  have hn := splitL_len 10 l
  have hne := splitL_ne 10 l
  go_enter Tryd.func47, Tryd.ntmps47
  go_wp2_with fail
  refine (c_l01Split l 10 10 rfl hl _).mono ?_
  rintro e W3 ⟨vs, rfl, hoS, hX3⟩
  obtain ⟨A, c, rfl, hoA, _⟩ := hoS.toOwn strC_len (by omega)
  have hsl := hoA.slice strC_len
  clear hoS hoA
  generalize splitL 10 l = S at *
  obtain ⟨N, hN⟩ : ∃ N, S.length = N + 1 := by
    cases S with
    | nil => exact absurd rfl hne
    | cons x xs => exact ⟨xs.length, rfl⟩
  rw [hN] at hsl hn ⊢
  have HN := hide hN
  clear hN hne
  have ho4 : OwnL (W3.alloc (.cells #[] 38)) W3.heap.size 38 5 Event.cells (.slice (some ⟨W3.heap.size, 0, none⟩) 0 0) [] := OwnL.empty W3 _ _ _ _ (Nat.le_refl _)
  go_wp2_with fail
  go_loopw [5, 6, 7, 8, 9, 10, 11] (fun v x z i _ _ _ wr => ∃ (k : Nat) (es : List Event) (sm sz : Int), k ≤ N ∧ i = .int .i64 k ∧ x = .int .i64 sm ∧ z = .int .i64 sz ∧ es.length ≤ 300 ∧ 0 ≤ sz ∧ sz ≤ 49 * es.length ∧ 0 ≤ sm ∧ sm < 99991 ∧ Hid (((textL es 1).length : Int) = sz) ∧ Hid (sumEs es 1 = sm) ∧ Hid (es ++ recL (S.dropLast.drop k) (300 - es.length) sm = recS l) ∧
    OwnL wr W3.heap.size 38 5 Event.cells v es ∧ Ext W3 wr) (fun _ _ _ i _ _ _ _ => N - (intOf i).toNat)
  case atStart => exact ⟨0, [], 1, 0, Nat.zero_le _, rfl, rfl, rfl, by simp, by omega, by simp, by omega, by omega, hide rfl, hide rfl, hide (by rw [HREC0.out]; rfl), ho4, Ext.alloc _ _⟩
  case round =>
    obtain ⟨k, es, sm, sz, hk, rfl, rfl, rfl, hes, hz0, hz1, hs0, hs1, HSZ, HSUM, HREC, ho, hx⟩ := hrel
    clear ho4
    have hzx := hx.size
    obtain ⟨VA, vc, hv, hvc, hvm⟩ := ho.form
    subst hv
    obtain ⟨n, hn1⟩ : ∃ n, es.length = n := ⟨_, rfl⟩
    rw [hn1] at hes hz1 hvc ho ⊢
    have HN1 := hide hn1
    clear hn1
    by_cases hkN : k < N
    · by_cases h300 : n = 300
      · have HSTOP := hide (show es ++ recL (S.dropLast.drop k) (300 - es.length) sm = es by rw [HN1.out, h300, Nat.sub_self, recL_zero, List.append_nil])
        subst h300
        have HREC2 := hide (show recS l = es by rw [← HREC.out]; exact HSTOP.out)
        go_wp2_with fail
        obtain ⟨A', c', hv', hoA, hbA⟩ := OwnL.toOwn ho event_len (by omega)
        refine bodyPost_ret (v := .tuple #[.slice VA 300 vc, .int .i64 sz]) (by simp [results, Tryd.results47, go_sem]) rfl ?_
        exact ⟨A', c', by rw [HREC2.out, HSZ.out, hv'], by rw [HREC2.out]; exact hoA, ⟨by rw [HREC2.out]; exact fun b hb => Nat.le_trans hX3.size (hbA b hb), by rw [HREC2.out, ← hv']; exact OwnL.low ho hX3.size⟩, hX3.trans hx⟩
      · obtain ⟨b, off, line, rfl, hb, hxk, hc0⟩ := (hsl.ext hx).getStr (k := k) (by omega)
        have HXK := hide (show S.dropLast[k]? = some line by rw [List.getElem?_dropLast, if_pos (by rw [HN.out]; omega)]; exact hxk)
        have hll := HPC.out line (List.mem_of_getElem? hxk)
        clear hxk
        go_wp2_with fail
        refine (c_l32Read line hll _).mono ?_
        rintro e w4 ⟨p, rfl, hLO, hx4⟩
        have HLO := hide hLO
        clear hLO
        have hx5 : Ext wr (w4.alloc (.cells #[.int .i64 p.kind, .int .i64 p.a, .int .i64 p.b, .int .i64 p.c, .int .i64 p.d] 38)) := hx4.and_alloc _
        have hE := Row.new w4 38 [.int .i64 p.kind, .int .i64 p.a, .int .i64 p.b, .int .i64 p.c, .int .i64 p.d]
        go_wp2_with fail
        refine (c_specIsEvent p _).mono ?_
        rintro e w6 ⟨rfl, hx6⟩
        have hE6 := hE.ext hx6
        have hx36 := hx.trans (hx5.trans hx6)
        have ho6 := (ho.ext hx5).ext hx6
        have hc6 := (((hx5.trans hx6).cell b (off + k) hb)).trans hc0
        have hb6 : b < w6.heap.size := Nat.lt_of_lt_of_le hb (hx5.trans hx6).size
        clear hE hx5 hx6 hc0 hb ho hx4
        generalize w4.heap.size = bE at *
        cases hev : evB p with
        | false =>
          have HSTOP := hide (show es ++ recL (S.dropLast.drop k) (300 - es.length) sm = es by rw [recL_stop HXK.out (next_none (fun e he h => by have := HLO.out e sm he hs0 hs1 h.symm; rw [← this, hev] at he; cases he)), List.append_nil])
          clear hev
          have HREC2 := hide (show recS l = es by rw [← HREC.out]; exact HSTOP.out)
          go_wp2_with fail
          obtain ⟨A', c', hv', hoA, hbA⟩ := OwnL.toOwn ho6 event_len (by omega)
          refine bodyPost_ret (v := .tuple #[.slice VA n vc, .int .i64 sz]) (by simp [results, Tryd.results47, go_sem]) rfl ?_
          exact ⟨A', c', by rw [HREC2.out, HSZ.out, hv'], by rw [HREC2.out]; exact hoA, ⟨by rw [HREC2.out]; exact fun b hb => Nat.le_trans hX3.size (hbA b hb), by rw [HREC2.out, ← hv']; exact OwnL.low ho6 hX3.size⟩, hX3.trans hx36⟩
        | true =>
          have HEV := hide hev
          clear hev
          have e0 := hE6.cell 0
          have e1 := hE6.cell 1
          have e2 := hE6.cell 2
          have e3 := hE6.cell 3
          have e4 := hE6.cell 4
          have el := hE6.lt
          simp only [List.getElem?_cons_zero, List.getElem?_cons_succ] at e0 e1 e2 e3 e4
          go_wp2_with fail
          refine (c_l32Line p sm _ HEV.out hs0 hs1).mono ?_
          rintro e w7 ⟨rfl, hx7⟩
          have hx37 := hx36.trans hx7
          have ho7 := ho6.ext hx7
          have hc7 := (hx7.cell b (off + k) hb6).trans hc6
          have hb7 : b < w7.heap.size := Nat.lt_of_lt_of_le hb6 hx7.size
          have hE7 := hE6.ext hx7
          have hz37 := hx37.size
          have e0 := hE7.cell 0
          have e1 := hE7.cell 1
          have e2 := hE7.cell 2
          have e3 := hE7.cell 3
          have e4 := hE7.cell 4
          have el := hE7.lt
          simp only [List.getElem?_cons_zero, List.getElem?_cons_succ] at e0 e1 e2 e3 e4
          clear hE6 hc6 hb6 ho6 hx36
          have hls := lineL_small p sm HEV.out hs0 hs1
          have hsb := sumE_bound p sm hs0 hs1
          by_cases heq : lineL p sm = line
          · have hbq : ((mkB (lineL p sm)).toList == (mkB line).toList) = true := by rw [mkB_toList, mkB_toList, heq]; simp
            have HEQ := hide heq
            have HNX := hide (show next line sm = some p by rw [← heq]; exact next_line p sm HEV.out hs0 hs1)
            clear heq
            have hsz2 : (mkB (lineL p sm)).size = (lineL p sm).length := rfl
            have hlen2 : es.length ≤ 1000000000 := by have := HN1.out; omega
            go_wp2_with (at_builtin; go_must (refine wpList_append_one rfl _ _ 26 rfl W3.heap.size 38 _ 5 40 Tryd.underlying26 event_info rfl (by decide) Event.cells event_len event_one _ _ rfl (ho7.ext (Ext.alloc _ _)) _ p rfl _ rfl (by first | rfl | simp) (by omega) (by omega) (by first | omega | (simp; omega)) ?_))
            intro v8 w8 ho8 hext8
            have hx8 := hext8 W3 (Nat.le_refl _) (hx37.and_alloc _)
            go_wp2_with fail
            have hlen := HN1.out
            go_roundw
            case rel =>
              refine ⟨k + 1, es ++ [p], _, _, by omega, by go_num, rfl, rfl, by simp; omega, by omega, by simp; omega, hsb.1, hsb.2, hide ?_, hide ?_, hide ?_, ho8, hx8⟩
              · rw [textL_append, HSUM.out, ← HSZ.out]; simp [textL]; omega
              · rw [sumEs_append, HSUM.out]; rfl
              · rw [← HREC.out, recL_go HXK.out HNX.out (by omega), List.append_assoc, List.length_append, List.length_singleton, Nat.sub_sub]; rfl
            case measure => simp [intOf]; omega
          · have hbq : ((mkB (lineL p sm)).toList == (mkB line).toList) = false := by rw [mkB_toList, mkB_toList, beq_eq_false_iff_ne]; exact heq
            have HSTOP := hide (show es ++ recL (S.dropLast.drop k) (300 - es.length) sm = es by rw [recL_stop HXK.out (next_none (fun e he h => heq (by have := HLO.out e sm he hs0 hs1 h.symm; rw [this]; exact h))), List.append_nil])
            clear heq
            have HREC2 := hide (show recS l = es by rw [← HREC.out]; exact HSTOP.out)
            go_wp2_with fail
            obtain ⟨A', c', hv', hoA, hbA⟩ := OwnL.toOwn ho7 event_len (by omega)
            refine bodyPost_ret (v := .tuple #[.slice VA n vc, .int .i64 sz]) (by simp [results, Tryd.results47, go_sem]) rfl ?_
            exact ⟨A', c', by rw [HREC2.out, HSZ.out, hv'], by rw [HREC2.out]; exact hoA, ⟨by rw [HREC2.out]; exact fun b hb => Nat.le_trans hX3.size (hbA b hb), by rw [HREC2.out, ← hv']; exact OwnL.low ho7 hX3.size⟩, hX3.trans hx37⟩
    · have HSTOP := hide (show es ++ recL (S.dropLast.drop k) (300 - es.length) sm = es by rw [List.drop_of_length_le (by rw [List.length_dropLast, HN.out]; omega)]; simp [recL])
      have HREC2 := hide (show recS l = es by rw [← HREC.out]; exact HSTOP.out)
      go_wp2_with fail
      obtain ⟨A', c', hv', hoA, hbA⟩ := OwnL.toOwn ho event_len (by omega)
      refine bodyPost_ret (v := .tuple #[.slice VA n vc, .int .i64 sz]) (by simp [results, Tryd.results47, go_sem]) rfl ?_
      exact ⟨A', c', by rw [HREC2.out, HSZ.out, hv'], by rw [HREC2.out]; exact hoA, ⟨by rw [HREC2.out]; exact fun b hb => Nat.le_trans hX3.size (hbA b hb), by rw [HREC2.out, ← hv']; exact OwnL.low ho hX3.size⟩, hX3.trans hx⟩
end Go.Proofs.YtglbiddddflmeaaDoor
