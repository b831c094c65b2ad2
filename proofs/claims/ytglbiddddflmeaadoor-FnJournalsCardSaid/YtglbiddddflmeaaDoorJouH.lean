

/-
  Reading numbers and lines, of the program.
-/
import Derived.Test.YtglbiddddflmeaaDoorJouG
namespace Go.Proofs.YtglbiddddflmeaaDoor
open Go.RowKit
open Go.Lib hiding intOf
theorem mapM_none {α β : Type} {f : α → Option β} : ∀ {ws : List α} {k : Nat} {x : α}, ws[k]? = some x → f x = none → ws.mapM f = none
  | [], k, x, h, _ => by simp at h
  | w :: ws, 0, x, h, hf => by
    simp only [List.getElem?_cons_zero, Option.some.injEq] at h
    subst h
    simp [List.mapM_cons, hf]
  | w :: ws, k + 1, x, h, hf => by
    have ih := mapM_none (ws := ws) (k := k) (by simpa using h) hf
    simp only [List.mapM_cons, ih]
    cases f w <;> rfl
theorem mapM_some {α β : Type} {f : α → Option β} : ∀ {ws : List α} {L : List β}, L.length = ws.length → (∀ j, j < ws.length → ∃ x y, ws[j]? = some x ∧ f x = some y ∧ L[j]? = some y) → ws.mapM f = some L
  | [], L, h, _ => by
    obtain rfl := List.length_eq_zero_iff.1 h
    rfl
  | w :: ws, [], h, _ => by simp at h
  | w :: ws, y :: L, h, hj => by
    obtain ⟨x0, y0, h0, h1, h2⟩ := hj 0 (by simp)
    simp only [List.getElem?_cons_zero, Option.some.injEq] at h0 h2
    subst h0 h2
    have ih := mapM_some (ws := ws) (L := L) (by simpa using h) (fun j hjl => by
      obtain ⟨x, y', a, b, c⟩ := hj (j + 1) (by simp; omega)
      exact ⟨x, y', by simpa using a, b, by simpa using c⟩)
    simp only [List.mapM_cons, h1, ih]
    rfl
theorem SliceOf.getStr {w : World} {A : Option Addr} {n c : Nat} {xs : List (List UInt8)} (h : SliceOf w 1 strC A n c xs) {k : Nat} (hk : k < n) :
    ∃ b off x, A = some ⟨b, off, none⟩ ∧ b < w.heap.size ∧ xs[k]? = some x ∧ w.cell? ⟨b, off + k, none⟩ = some (.string (mkB x)) := by
  obtain ⟨b, off, x, hA, hb, hx, hc⟩ := h.get hk
  exact ⟨b, off, x, hA, hb, hx, by simpa using hc 0 _ rfl⟩
def NumsPost (ws : List (List UInt8)) (w : World) (e : Ending) (w' : World) : Prop :=
  (∃ A n c xs, e = .returned (.tuple #[.slice A n c, .bool true]) ∧ ws.mapM numP = some xs ∧ SliceOf w' 1 intC A n c xs ∧ Ext w w') ∨
  (e = .returned (.tuple #[.slice none 0 0, .bool false]) ∧ ws.mapM numP = none ∧ Ext w w')
set_option maxHeartbeats 2000000 in
theorem c_readNumbers (A : Option Addr) (n c : Nat) (ws : List (List UInt8)) (w : World) (hs : SliceOf w 1 strC A n c ws) (hn : n ≤ 1048577) (hl : ∀ x ∈ ws, x.length ≤ 1048576) (hg : Glob w) :
    Calls Tryd.prog 74 #[.slice A n c] w (NumsPost ws w) := by
  have hmk := fun W => run_make_flat (P := Tryd.prog) 83 2 _ _ 1 8 Tryd.underlying83 int_info (f := intC) 0 rfl rfl rfl (by omega) n (by omega) (by omega) W
  have hR0 := Row.new w 2 ((List.replicate n (0 : Int)).flatMap intC)
  have HLn := hide hl
  clear hl
  go_enter Tryd.func74, Tryd.ntmps74
  go_wp2_with fail
  go_loopw [5, 6, 7, 8, 14] (fun _ _ _ _ i wr => ∃ (k : Nat) (L : List Int), k ≤ n ∧ i = .int .i64 k ∧ L.length = n ∧ RowOf wr w.heap.size 2 intC L ∧ Hid (∀ j, j < k → ∃ x y, ws[j]? = some x ∧ numP x = some y ∧ L[j]? = some y) ∧ Ext w wr) (fun _ _ _ _ i _ => n - (intOf i).toNat)
  case atStart => exact ⟨0, _, Nat.zero_le _, rfl, List.length_replicate, hR0, hide (fun j hj => absurd hj (by omega)), Ext.alloc _ _⟩
  case round =>
    obtain ⟨k, L, hk, rfl, hL, hrow, HK, hx⟩ := hrel
    clear hR0 hmk
    have hgs := hrow.lt
    by_cases hlt : k < n
    · obtain ⟨b, off, x, rfl, hb, hxk, hc0⟩ := (hs.ext hx).getStr hlt
      have Hx := hide hxk
      have HL := hide hL
      have hlx := HLn.out x (List.mem_of_getElem? hxk)
      clear hxk hL
      go_wp2_with fail
      refine (c_readNumber x hlx _ (hg.ext hx)).mono ?_
      rintro e w1 ⟨z, ok, rfl, hnum, hx1⟩
      have HN := hide hnum
      clear hnum
      cases ok with
      | false =>
        go_wp2_with fail
        exact bodyPost_ret (v := .tuple #[.slice none 0 0, .bool false]) (by simp [results, Tryd.results74, go_sem]) rfl (.inr ⟨rfl, mapM_none Hx.out HN.out, hx.trans hx1⟩)
      | true =>
        have hrow1 := hrow.ext hx1
        have hgs1 := hrow1.lt
        obtain ⟨v0, hv0⟩ := hrow1.there intC_len (i := k) (by rw [HL.out]; exact hlt) (j := 0) (by omega)
        have hf0 := hrow1.frozen k
        simp only [Nat.mul_one, Nat.add_zero] at hv0
        go_wp2_with fail
        go_roundw
        case rel =>
          have hput := hrow1.put intC_len (i := k) (by rw [HL.out]; exact hlt) z
          rw [Nat.mul_one] at hput
          refine ⟨k + 1, L.set k z, by omega, by go_num, by simpa using HL.out, hput, hide ?_, (hx.trans hx1).put (Nat.le_refl _) k (intC z)⟩
          intro j hj
          by_cases e : j = k
          · subst e
            exact ⟨x, z, Hx.out, HN.out, by rw [List.getElem?_set, if_pos rfl, if_pos (by rw [HL.out]; exact hlt)]⟩
          · obtain ⟨x', y', a, b', c'⟩ := HK.out j (by omega)
            exact ⟨x', y', a, b', by rw [List.getElem?_set, if_neg (fun h => e h.symm)]; exact c'⟩
        case measure => simp [intOf]; omega
    · obtain rfl : n = k := by omega
      have hM := mapM_some (f := numP) (ws := ws) (L := L) (by rw [hL, hs.len]) (fun j hj => HK.out j (by rw [hs.len]; exact hj))
      have HM := hide hM
      clear hM
      go_wp2_with fail
      exact bodyPost_ret (v := .tuple #[.slice (some ⟨w.heap.size, 0, none⟩) n n, .bool true]) (by simp [results, Tryd.results74, go_sem]) rfl (.inl ⟨_, _, _, L, rfl, HM.out, hrow.slice intC_len hL.symm (by omega), hx⟩)
/-- the words of a text that strings.Split has cut -/
theorem split_row (c : UInt8) (l : List UInt8) (w : World) : RowOf (w.alloc (.cells ((splitB (mkB [c]) 0 (countB (mkB l) (mkB [c])) (mkB l)).map Value.string).toArray 9)) w.heap.size 9 strC (splitL c l) := by
  rw [splitB_mkB]
  have h := Row.new w 9 ((splitL c l).flatMap strC)
  have e : ((splitL c l).map mkB).map Value.string = (splitL c l).flatMap strC := by
    induction splitL c l with
    | nil => rfl
    | cons x xs ih => rw [List.map_cons, List.map_cons, ih, List.flatMap_cons]; rfl
  rw [e]
  exact h
theorem c_split (l : List UInt8) (c : UInt8) (hl : l.length ≤ 1048576) (w : World) (hg : Glob w) :
    Calls Tryd.prog 73 #[.string (mkB l), .string (mkB [c])] w (fun e w' => e = .returned (.slice (some ⟨w.heap.size, 0, none⟩) (splitL c l).length (splitL c l).length) ∧ RowOf w' w.heap.size 9 strC (splitL c l) ∧ Ext w w') := by
  obtain ⟨m, hm⟩ := hg.maxLen
  refine (Tryd.strings_Split (mkB l) (mkB [c]) m w (by rw [mkB_size]; omega) hm (Nat.le_refl _)).mono ?_
  rintro e w1 ⟨rfl, rfl⟩
  exact ⟨by rw [countB_mkB], split_row c l w, Ext.alloc _ _⟩
theorem splitL_len (c : UInt8) : ∀ l : List UInt8, (splitL c l).length ≤ l.length + 1
  | [] => by simp [splitL]
  | b :: l => by
    have ih := splitL_len c l
    rw [splitL]
    split
    · simp; omega
    · split
      · rename_i x xs h; rw [h] at ih; simp at ih ⊢; omega
      · simp
theorem splitL_piece (c : UInt8) : ∀ (l : List UInt8), ∀ x ∈ splitL c l, x.length ≤ l.length
  | [], x, hx => by simp [splitL] at hx; subst hx; simp
  | b :: l, x, hx => by
    have ih := splitL_piece c l
    rw [splitL] at hx
    split at hx
    · rcases List.mem_cons.1 hx with rfl | hx
      · simp
      · have := ih x hx; simp; omega
    · split at hx
      · rename_i y ys h
        rw [h] at ih
        rcases List.mem_cons.1 hx with rfl | hx
        · have := ih y (by simp); simp; omega
        · have := ih x (by simp [hx]); simp; omega
      · cases hx
def LinesPost (l : List UInt8) (w : World) (e : Ending) (w' : World) : Prop :=
  ∃ n c last, e = .returned (.tuple #[.slice (some ⟨w.heap.size, 0, none⟩) n c, .string last]) ∧ SliceOf w' 1 strC (some ⟨w.heap.size, 0, none⟩) n c (splitL 10 l).dropLast ∧ Ext w w' ∧ w.heap.size < w'.heap.size
set_option maxHeartbeats 1000000 in
theorem c_linesOf (l : List UInt8) (hl : l.length ≤ 1048576) (w : World) (hg : Glob w) :
    Calls Tryd.prog 62 #[.string (mkB l)] w (LinesPost l w) := by
  have hn := splitL_len 10 l
  have hne := splitL_ne 10 l
  go_enter Tryd.func62, Tryd.ntmps62
  go_wp2_with fail
  refine (c_split l 10 hl _ hg).mono ?_
  rintro e w1 ⟨rfl, hrow, hx1⟩
  generalize hS : splitL 10 l = S at *
  obtain ⟨m, hm⟩ : ∃ m, S.length = m + 1 := by
    cases S with
    | nil => exact absurd rfl hne
    | cons x xs => exact ⟨xs.length, rfl⟩
  have hlast : S[m]? = some (S[m]'(by omega)) := List.getElem?_eq_getElem (by omega)
  generalize S[m]'(by omega) = last at hlast
  have hcl := hrow.get strC_len hlast (j := 0) (u := .string (mkB last)) rfl
  simp only [Nat.mul_one, Nat.add_zero] at hcl
  have hlt := hrow.lt
  have HROW := hide hrow
  have HS := hide hS
  have HM := hide hm
  rw [hm]
  clear hrow hS hne hlast
  rw [hm] at hn
  clear hm
  go_wp2_with fail
  refine wp_region_ph [] [0, 1, 2, 3, 4, 5, 6, 7, 8] (by kernel_rfl) (by kernel_rfl) (by intro c a w d v h; cases d <;> exact h) ?_
  simp only [wpPh, pickL, nthO]
  repeat (go_big_quiet_step (fail))
  refine wpQuiet_nil ?_
  go_wp2_with fail
  refine bodyPost_ret (v := .tuple #[.slice (some ⟨w.heap.size, 0, none⟩) m (m + 1), .string (mkB last)]) (by simp [results, Tryd.results62, go_sem]) rfl ⟨m, m + 1, mkB last, rfl, ?_, hx1.drew, hlt⟩
  have hsl : SliceOf w1 1 strC (some ⟨w.heap.size, 0, none⟩) (m + 1) (m + 1) S := HROW.out.slice strC_len HM.out.symm (by omega)
  have hl2 := HM.out
  rw [HS.out]
  refine ⟨by rw [List.length_dropLast]; omega, by omega, by show m + 1 ≤ 9223372036854775807; omega, fun hm0 => ?_⟩
  obtain ⟨h1, h2, h3, h4⟩ := hsl
  obtain ⟨b, off, hA, hb, hc⟩ := h4 (by omega)
  refine ⟨b, off, hA, hb, fun i x hx j u hu => hc i x ?_ j u hu⟩
  rw [List.getElem?_dropLast] at hx
  split at hx
  · exact hx
  · cases hx
end Go.Proofs.YtglbiddddflmeaaDoor
