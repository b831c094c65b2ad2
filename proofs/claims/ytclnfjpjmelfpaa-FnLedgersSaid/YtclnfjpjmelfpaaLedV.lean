


/-
  ReverseLedger of the program (by way of slices.Clone and slices.Reverse) and of the reference, and the law FnExactReverseLedger.
-/
import Derived.Test.YtclnfjpjmelfpaaLedF
import Derived.Test.YtclnfjpjmelfpaaAppend
import Derived.Test.YtclnfjpjmelfpaaPostO
import Derived.Lib.SliceRun
namespace Go.Proofs.Ytclnfjpjmelfpaa
open Go.RowKit Go.ChangeShapes Go.WideShapes Go.ChangeAt Go.Deep Go.Joins

/-- a slice of the call's own -/
def NewOwn {α : Type} (t : TypeId) (f : α → List Value) (xs : List α) (w : World) (e : Ending) (w' : World) : Prop :=
  ∃ A n c g, e = .returned (.slice A n c) ∧ n ≤ c ∧ c ≤ 9223372036854775807 ∧ w.heap.size ≤ g ∧ OwnS w' g t f A n xs ∧ Ext w w'

theorem c_Clone (A : Option Addr) (n c : Nat) (ps : List Posting) (w : World) (hs : SliceOf w 4 Posting.cells A n c ps) (hn : n ≤ 1048576) :
    Calls Try.prog 68 #[.slice A n c] w (NewOwn 25 Posting.cells ps w) := by
  have hnil := fun W a n c => Lib.run_eql_slice_nil (P := Try.prog) W 31 25 a n c 0 0 Try.underlying31
  cases A with
  | none =>
    have hn0 : n = 0 := by
      rcases Nat.eq_zero_or_pos n with h | h
      · exact h
      · obtain ⟨_, _, hA, _⟩ := hs.2.2.2 h; cases hA
    have hps : ps = [] := List.eq_nil_of_length_eq_zero (by rw [← hs.len]; exact hn0)
    subst hps
    clear hn0
    go_enter Try.func68, Try.ntmps68
    go_wp2_with fail
    go_ret
    exact ⟨none, 0, 0, w.heap.size, rfl, by omega, by omega, Nat.le_refl _, OwnS.nil, Ext.refl _⟩
  | some ad =>
    go_enter Try.func68, Try.ntmps68
    go_wp2_with (at_builtin; go_must (refine wpList_append_many rfl _ _ 31 rfl w.heap.size 25 _ 4 32 Try.underlying31 posting_info rfl (by decide) Posting.cells post_len post_one _ [] rfl (OwnL.empty _ _ _ _ _ (Nat.le_refl _)) ad n c ps rfl (hs.ext (Ext.alloc _ _)) (by simp; omega) (by omega) (by simp) ?_))
    intro v1 w1 hown1 hext1
    have hx1 := hext1 w (Nat.le_refl _) (Ext.alloc _ _)
    go_wp2_with fail
    go_ret
    obtain ⟨A', c', g, hv, hg, hnc, hcm, ho⟩ := hown1.own post_len (by omega)
    exact ⟨A', _, c', g, by rw [hv]; rfl, hnc, hcm, hg, ho, hx1⟩

theorem OwnS.drew_ {α : Type} {w : World} {g : Nat} {t : TypeId} {f : α → List Value} {A : Option Addr} {n : Nat} {xs : List α} (h : OwnS w g t f A n xs) : OwnS w.drew g t f A n xs := h
theorem set_same {l : List Value} {i : Nat} {v : Value} (h : l[i]? = some v) : l.set i v = l := by
  obtain ⟨hi, rfl⟩ := List.getElem?_eq_some_iff.1 h
  exact List.set_getElem_self hi
/-- the first two fields of one posting -/
theorem OwnS.set2 {w : World} {g : Nat} {t : TypeId} {A : Option Addr} {n : Nat} {L : List Posting} (h : OwnS w g t Posting.cells A n L) {i : Nat} (hi : i < n) {x : Posting} (hx : L[i]? = some x) (a b : Int) :
    OwnS ((w.setCell ⟨g, i * 4, none⟩ (.int .i64 a)).setCell ⟨g, i * 4 + 1, none⟩ (.int .i64 b)) g t Posting.cells A n (L.set i ⟨a, b, x.gas, x.money⟩) := by
  refine ⟨by rw [List.length_set]; exact h.1, fun hn => ?_⟩
  obtain ⟨hA, rest, hr⟩ := h.2 hn
  refine ⟨hA, rest, ?_⟩
  have h1 := (hr.set_ (i * 4) (.int .i64 a)).set_ (i * 4 + 1) (.int .i64 b)
  have hil : i < L.length := by rw [← h.1]; exact hi
  have hb : (i + 1) * 4 ≤ (L.flatMap Posting.cells).length := by rw [flat_len post_len]; exact Nat.mul_le_mul_right _ hil
  have h2 := flat_set (f := Posting.cells) post_len hil ⟨a, b, x.gas, x.money⟩
  have g2 := flat_get (f := Posting.cells) post_len hx (j := 2) rfl
  have g3 := flat_get (f := Posting.cells) post_len hx (j := 3) rfl
  simp only [Posting.cells, setCells] at h2
  rw [show i * 4 + 1 + 1 = i * 4 + 2 by omega, show i * 4 + 2 + 1 = i * 4 + 3 by omega] at h2
  rw [set_same (i := i * 4 + 2) (by rw [List.getElem?_set_ne (by omega), List.getElem?_set_ne (by omega)]; exact g2), set_same (i := i * 4 + 3) (by rw [List.getElem?_set_ne (by omega), List.getElem?_set_ne (by omega)]; exact g3)] at h2
  rw [List.set_append_left _ _ (by omega), List.set_append_left _ _ (by rw [List.length_set]; omega)] at h1
  have h3 : (L.set i ⟨a, b, x.gas, x.money⟩).flatMap Posting.cells = ((L.flatMap Posting.cells).set (i * 4) (.int .i64 a)).set (i * 4 + 1) (.int .i64 b) := h2.symm
  rw [h3]
  exact h1
/-- a row turned round; nothing else has turned -/
def Turned (g : Nat) (A : Option Addr) (n : Nat) (ps : List Posting) (w : World) (e : Ending) (w' : World) : Prop :=
  e = .returned (.tuple #[]) ∧ OwnS w' g 25 Posting.cells A n ps.reverse ∧ Only g w w'
theorem rev_at {ps : List Posting} {i : Nat} (h : i < ps.length) : ps.reverse[i]? = ps[ps.length - 1 - i]? := List.getElem?_reverse h
set_option maxHeartbeats 2000000 in
theorem c_Reverse (g : Nat) (A : Option Addr) (n c : Nat) (ps : List Posting) (w : World) (hown0 : OwnS w g 25 Posting.cells A n ps) (hn : n ≤ 1048576) (hcap : n ≤ c) (hmax : c ≤ 9223372036854775807) :
    Calls Try.prog 69 #[.slice A n c] w (Turned g A n ps w) := by
  have HL0 := hide hown0.1
  go_enter Try.func69, Try.ntmps69
  go_wp2_with fail
  go_loopw [2, 3] (fun i j wr => ∃ (k : Nat) (J : Int) (L : List Posting), i = .int .i64 k ∧ j = .int .i64 J ∧ (k : Int) + J ≤ (n : Int) - 1 ∧ (n : Int) - 1 ≤ (k : Int) + J ∧ 2 * k ≤ n + 1 ∧ OwnS wr g 25 Posting.cells A n L ∧ Hid (∀ q, q < n → L[q]? = if q < k ∨ n ≤ q + k then ps[n - 1 - q]? else ps[q]?) ∧ Only g w wr) (fun i _ _ => n - (intOf i).toNat)
  case atStart => exact ⟨0, (n : Int) - 1, ps, rfl, rfl, by omega, by omega, by omega, hown0, hide (fun q hq => by rw [if_neg (by omega)]), Only.refl _ _⟩
  case round =>
    obtain ⟨k, J, L, rfl, rfl, hJ0, hJ1, hkn, hown, HK, hx⟩ := hrel
    by_cases hlt : (k : Int) < J
    · obtain ⟨j, rfl⟩ := Int.eq_ofNat_of_zero_le (show 0 ≤ J by omega)
      have hkn' : k < n := by omega
      have hjn : j < n := by omega
      have hkj : k < j := by omega
      have hn0 : 0 < n := by omega
      obtain ⟨rfl, _⟩ := hown.2 hn0
      have HL := hide hown.1
      have hsl := hown.slice post_len hcap hmax
      obtain ⟨x, hxk, hc⟩ := hsl.at_ hkn'
      obtain ⟨y, hyj, hd⟩ := hsl.at_ hjn
      have hf := fun i => hown.frozen hn0 i
      simp only [Nat.zero_add] at hc hd
      have hc0 := hc 0 _ rfl
      have hc1 := hc 1 _ rfl
      have hc2 := hc 2 _ rfl
      have hc3 := hc 3 _ rfl
      clear hc
      simp only [Nat.add_zero] at hc0
      have hd0 := hd 0 _ rfl
      have hd1 := hd 1 _ rfl
      have hd2 := hd 2 _ rfl
      have hd3 := hd 3 _ rfl
      clear hd hsl
      simp only [Nat.add_zero] at hd0
      have HX := hide hxk
      have HY := hide hyj
      clear hxk hyj
      go_wp2_with fail
      go_region
      go_wp2_with fail
      go_roundw
      case rel =>
        have hL1 : (L.set k y).length = n := by rw [List.length_set]; exact HL.out.symm
        refine ⟨k + 1, _, (L.set k y).set j x, by go_num, rfl, by omega, by omega, by omega, OwnS.drew_ ((hown.put post_len hkn' y).put post_len hjn x), hide ?_, (((hx.put (k * 4) y.cells).put (j * 4) x.cells)).drew⟩
        have hpk : ps[k]? = some x := by rw [← HX.out, HK.out k hkn', if_neg (by omega)]
        have hpj : ps[j]? = some y := by rw [← HY.out, HK.out j hjn, if_neg (by omega)]
        intro q hq
        rw [List.getElem?_set, List.getElem?_set, hL1, ← HL.out]
        by_cases e1 : j = q
        · subst e1
          rw [if_pos rfl, if_pos hjn, if_pos (by omega), show n - 1 - j = k by omega, hpk]
        · rw [if_neg e1]
          by_cases e2 : k = q
          · subst e2
            rw [if_pos rfl, if_pos hkn', if_pos (by omega), show n - 1 - k = j by omega, hpj]
          · rw [if_neg e2, HK.out q hq]
            by_cases e3 : q < k ∨ n ≤ q + k
            · rw [if_pos e3, if_pos (by omega)]
            · rw [if_neg e3, if_neg (by omega)]
      case measure => simp [intOf]; omega
    · have hLr : L = ps.reverse := by
        apply List.ext_getElem?
        intro q
        by_cases hq : q < n
        · rw [rev_at (by rw [← HL0.out]; exact hq), ← HL0.out, HK.out q hq]
          split
          · rfl
          · congr 1; omega
        · rw [List.getElem?_eq_none (by have := hown.1; omega), List.getElem?_eq_none (by rw [List.length_reverse, ← HL0.out]; omega)]
      subst hLr
      go_wp2_with fail
      go_end0
      exact ⟨rfl, hown, hx⟩

def swapP (p : Posting) : Posting := ⟨p.credit, p.debit, p.gas, p.money⟩
def revL (ps : List Posting) : List Posting := ps.reverse.map swapP
def revR (ps : List Posting) : List Posting × Int := if ledB ps = false then ([], 3) else (revL ps, 0)
theorem revR_len (ps : List Posting) : (revR ps).1.length ≤ 1000000 := by
  unfold revR
  split
  · simp
  · rename_i h
    have := ledB_true (by simpa using h)
    simp [revL]; omega

set_option maxHeartbeats 2000000 in
theorem c_ReverseLedger (A : Option Addr) (n c : Nat) (ps : List Posting) (w : World) (hs : SliceOf w 4 Posting.cells A n c ps) :
    Calls Try.prog 30 #[.slice A n c] w (RetS 25 Posting.cells (revR ps) w) := by
  cases h1 : ledB ps
  · have HR := hide (show revR ps = ([], 3) by simp [revR, h1])
    go_enter Try.func30, Try.ntmps30
    go_wp2_with fail
    refine (c_isLedger A n c ps _ hs).mono ?_
    rw [h1]
    rintro e w1 ⟨rfl, hx1⟩
    go_wp2_with fail
    go_ret2
    exact RetS.nil_ HR.out hx1
  have HR := hide (show revR ps = (revL ps, 0) by simp [revR, h1])
  have hn : n ≤ 300 := by rw [hs.len]; exact (ledB_true h1).1
  go_enter Try.func30, Try.ntmps30
  go_wp2_with fail
  refine (c_isLedger A n c ps _ hs).mono ?_
  rw [h1]
  rintro e w1 ⟨rfl, hx1⟩
  go_wp2_with fail
  refine (c_Clone A n c ps _ (hs.ext hx1) (by omega)).mono ?_
  rintro e w2 ⟨A2, n2, c2, g2, rfl, hnc, hcm, hg2, ho2, hx2⟩
  have hn2 : n2 ≤ 300 := by rw [ho2.1, ← hs.len]; exact hn
  go_wp2_with fail
  refine (c_Reverse g2 A2 n2 c2 ps _ ho2 (by omega) hnc hcm).mono ?_
  rintro e w3 ⟨rfl, ho3, hk3⟩
  have hx13 : Ext w1 w3 := hx2.only hk3 (by omega)
  have HL3 := hide ho3.1
  generalize hQ : ps.reverse = Q at *
  have HQ := hide hQ
  clear hQ
  go_wp2_with fail
  go_loopw [16] (fun i wr => ∃ (k : Nat) (L : List Posting), k ≤ n2 ∧ i = .int .i64 k ∧ OwnS wr g2 25 Posting.cells A2 n2 L ∧ Hid (∀ q, L[q]? = if q < k then Q[q]?.map swapP else Q[q]?) ∧ Ext w1 wr) (fun i _ => n2 - (intOf i).toNat)
  case atStart => exact ⟨0, Q, Nat.zero_le _, rfl, ho3, hide (fun q => by rw [if_neg (by omega)]), hx13⟩
  case round =>
    obtain ⟨k, L, hk, rfl, ho, HK, hx⟩ := hrel
    by_cases hlt : k < n2
    · have hn0 : 0 < n2 := by omega
      obtain ⟨rfl, _⟩ := ho.2 hn0
      have hgl := ho.lt hn0
      have hsl := ho.slice post_len hnc hcm
      obtain ⟨x, hxk, hc⟩ := hsl.at_ hlt
      simp only [Nat.zero_add] at hc
      have hc0 := hc 0 _ rfl
      have hc1 := hc 1 _ rfl
      have hc2 := hc 2 _ rfl
      have hc3 := hc 3 _ rfl
      clear hc
      simp only [Nat.add_zero] at hc0
      have f0 := ho.frozen hn0 (k * 4)
      have f1 := ho.frozen hn0 (k * 4 + 1)
      have HX := hide hxk
      have HL := hide ho.1
      clear hxk hsl
      go_wp2_with fail
      go_region
      go_wp2_with fail
      go_roundw
      case rel =>
        refine ⟨k + 1, L.set k (swapP x), by omega, by go_num, (ho.set2 hlt HX.out x.credit x.debit).ext (Ext.alloc _ _).drew, hide ?_, ((Ext.setCell (Ext.setCell hx (by first | (simp; done) | (simp; omega) | omega) _) (by first | (simp; done) | (simp; omega) | omega) _).and_alloc _).drew⟩
        have hQk : Q[k]? = some x := by rw [← HX.out, HK.out k, if_neg (by omega)]
        intro q
        rw [List.getElem?_set]
        by_cases e : k = q
        · subst e
          rw [if_pos rfl, if_pos (by rw [← HL.out]; exact hlt), if_pos (by omega), hQk]; rfl
        · rw [if_neg e, HK.out q]
          by_cases e3 : q < k
          · rw [if_pos e3, if_pos (by omega)]
          · rw [if_neg e3, if_neg (by omega)]
      case measure => simp [intOf]; omega
    · have hLr : L = revL ps := by
        apply List.ext_getElem?
        intro q
        rw [HK.out q, revL, List.getElem?_map, HQ.out]
        split
        · rfl
        · rw [List.getElem?_eq_none (by have := HL3.out; omega)]; rfl
      subst hLr
      go_wp2_with fail
      go_ret2
      refine ⟨A2, n2, c2, g2, ?_, hnc, hcm, by have := hx1.size; omega, by rw [HR.out]; exact ho, hx1.trans hx⟩
      rw [HR.out]; rfl

theorem rev_step {ps : List Posting} {m : Nat} {x : Posting} (hm : 0 < m) (h : ps[m - 1]? = some x) : ((ps.drop (m - 1)).reverse).map swapP = ((ps.drop m).reverse).map swapP ++ [swapP x] := by
  obtain ⟨hk, e⟩ := List.getElem?_eq_some_iff.1 h
  rw [List.drop_eq_getElem_cons hk, e, show m - 1 + 1 = m by omega, List.reverse_cons, List.map_append]; rfl
set_option maxHeartbeats 2000000 in
theorem c_specReverseLedger (A : Option Addr) (n c : Nat) (ps : List Posting) (w : World) (hs : SliceOf w 4 Posting.cells A n c ps) :
    Calls Try.prog 29 #[.slice A n c] w (RetS 25 Posting.cells (revR ps) w) := by
  cases h1 : ledB ps
  · have HR := hide (show revR ps = ([], 3) by simp [revR, h1])
    go_enter Try.func29, Try.ntmps29
    go_wp2_with fail
    refine (c_l30List A n c ps _ hs).mono ?_
    rw [h1]
    rintro e w1 ⟨rfl, hx1⟩
    go_wp2_with fail
    go_ret2
    exact RetS.nil_ HR.out hx1
  have HR := hide (show revR ps = (revL ps, 0) by simp [revR, h1])
  have hn : n ≤ 300 := by rw [hs.len]; exact (ledB_true h1).1
  have HLn := hide hs.len
  go_enter Try.func29, Try.ntmps29
  go_wp2_with fail
  refine (c_l30List A n c ps _ hs).mono ?_
  rw [h1]
  rintro e w1 ⟨rfl, hx1⟩
  go_wp2_with fail
  go_loopw [4, 5] (fun v i wr => ∃ (m : Nat) (L : List Posting), m ≤ n ∧ i = .int .i64 ((m : Int) - 1) ∧ L.length ≤ 300 ∧ OwnL wr w1.heap.size 25 4 Posting.cells v L ∧ Hid (L = ((ps.drop m).reverse).map swapP) ∧ Ext w1 wr) (fun _ i _ => (intOf i + 1).toNat)
  case atStart => exact ⟨n, [], Nat.le_refl _, rfl, by simp, OwnL.empty _ _ _ _ _ (Nat.le_refl _), hide (by rw [List.drop_of_length_le (by rw [← HLn.out]; omega)]; rfl), Ext.alloc _ _⟩
  case round =>
    obtain ⟨m, L, hm, rfl, hL, hown, HK, hx⟩ := hrel
    by_cases hm0 : 0 < m
    · obtain ⟨b, off, x, rfl, hb, hxk, hc⟩ := (hs.ext (hx1.trans hx)).get (k := m - 1) (by omega)
      have hc0 := hc 0 _ rfl
      have hc1 := hc 1 _ rfl
      have hc2 := hc 2 _ rfl
      have hc3 := hc 3 _ rfl
      clear hc
      simp only [Nat.add_zero] at hc0
      have HST := hide (show L ++ [swapP x] = ((ps.drop (m - 1)).reverse).map swapP by rw [rev_step hm0 hxk, HK.out])
      clear hxk
      have hLm : L.length + 1 ≤ 300 := by rw [HK.out]; simp; have := HLn.out; omega
      have hsz := hx.size
      have ej : ((m : Int) - 1).toNat = m - 1 := by omega
      have e0 : (0 : Int) ≤ (m : Int) - 1 := by omega
      go_wp2_with (at_builtin; go_must (refine wpList_append_one rfl _ _ 31 rfl w1.heap.size 25 _ 4 32 Try.underlying31 posting_info rfl (by decide) Posting.cells post_len post_one _ _ rfl (hown.ext ((Ext.alloc _ _).and_alloc _)) (wr.alloc _) (swapP x) rfl _ rfl (by simp) (by omega) (by omega) (by first | omega | (simp; omega)) ?_))
      intro v1 w2 hown2 hext2
      have hx2 := hext2 w1 (Nat.le_refl _) ((hx.and_alloc _).and_alloc _)
      go_wp2_with fail
      go_roundw
      case rel => exact ⟨m - 1, _, by omega, by rw [show ((m - 1 : Nat) : Int) = (m : Int) - 1 by omega], by simp; omega, hown2, HST, hx2⟩
      case measure => simp [intOf]; omega
    · obtain rfl : m = 0 := by omega
      go_wp2_with fail
      go_ret2
      obtain ⟨A', c', g, hv, hg, hnc, hcm, ho⟩ := hown.own post_len (by omega)
      have hLr : L = revL ps := by rw [HK.out]; rfl
      refine ⟨A', _, c', g, ?_, hnc, hcm, by have := hx1.size; omega, by rw [HR.out, ← hLr]; exact ho, hx1.trans hx⟩
      rw [HR.out, hv]; rfl

set_option maxHeartbeats 4000000 in
theorem law_ReverseLedger  (A : Option Addr) (n c : Nat) (ps : List Posting) (w : World) (hs : SliceOf w 4 Posting.cells A n c ps) :
    Calls Try.prog 6 #[.slice A n c] w (Ret (.bool true) w) := by
  have hcap := hs.cap
  have hmax := hs.max
  have hR := revR_len ps
  have hLn := hs.len
  have HLn := hide hLn
  clear hLn
  go_enter Try.func6, Try.ntmps6
  go_wp2_with fail
  refine (c_szPostingS A n c 1048576 _ hcap hmax (by omega) (by omega)).mono ?_
  rintro e w' ⟨rfl, rfl⟩
  by_cases hn : (1048576 : Int) < n
  · rw [if_pos hn]
    go_wp2_with fail
    go_ret
    exact Ret.bool rfl (Ext.refl _)
  rw [if_neg hn]
  have hn' : n ≤ 1048576 := by omega
  have hpl : ps.length ≤ 1048576 := by rw [← HLn.out]; exact hn'
  go_wp2_with fail
  refine (c_toPostingS A n c ps _ hs hn').mono ?_
  rintro e w1 ⟨g1, rfl, hg1, hr1, hx1⟩
  go_wp2_with fail
  refine (c_specReverseLedger  _ _ _ ps _ (hr1.slice post_len rfl (by omega))).mono ?_
  rintro e w2 ⟨A2, n2, c2, g2, rfl, hn2, hc2, hg2, ho2, hx2⟩
  go_wp2_with fail
  have hx02 := hx1.trans hx2
  refine (c_toPostingS A n c ps _ (hs.ext hx02) hn').mono ?_
  rintro e w3 ⟨g3, rfl, hg3, hr3, hx3⟩
  have hx03 := hx02.trans hx3
  go_wp2_with fail
  refine (c_ReverseLedger  _ _ _ ps _ (hr3.slice post_len rfl (by omega))).mono ?_
  rintro e w4 ⟨A4, n4, c4, g4, rfl, hn4, hc4, hg4, ho4, hx4⟩
  have hx04 := hx03.trans hx4
  have ho2' := ho2.ext (hx3.trans hx4)
  have hr3' := hr3.ext hx4
  have hl3 := hr3.lt
  go_wp2_with fail
  refine (c_eqPostingS _ _ _ _ _ _ (revR ps).1 _ (ho4.slice post_len hn4 hc4) (ho2'.slice post_len hn2 hc2)).mono ?_
  rintro e w5 ⟨rfl, hx5⟩
  go_wp2_with fail
  have hx05 := hx04.trans hx5
  refine (c_toPostingS A n c ps _ (hs.ext hx05) hn').mono ?_
  rintro e w6 ⟨g6, rfl, hg6, hr6, hx6⟩
  go_wp2_with fail
  refine (c_eqPostingS _ _ _ _ _ _ ps _ ((hr3'.ext (hx5.trans hx6)).slice post_len rfl (by omega)) (hr6.slice post_len rfl (by omega))).mono ?_
  rintro e w7 ⟨rfl, hx7⟩
  have hx57 := hx5.trans (hx6.trans hx7)
  have hx07 := hx04.trans hx57
  go_wp2_with fail
  refine (c_markPostingS g3 _ _ _ ps 1 _ (OwnS.of_row (hr3'.ext hx57)) (by omega) (Nat.le_refl _) (by omega) (by omega) (by omega)).mono ?_
  rintro e w8 ⟨rfl, _, hk8⟩
  have hs2 := hx1.size
  have hs3 := hx02.size
  have hsz2 := fun h => ho2.lt h
  have ho2a := (ho2'.ext hx57).onlyz hk8 (fun h => by have := hsz2 h; omega)
  have ho4a := (ho4.ext hx57).onlyz hk8 (fun _ => by omega)
  have hx08 := hx07.only hk8 (by omega)
  go_wp2_with fail
  refine (c_eqPostingS _ _ _ _ _ _ (revR ps).1 _ (ho4a.slice post_len hn4 hc4) (ho2a.slice post_len hn2 hc2)).mono ?_
  rintro e w9 ⟨rfl, hx9⟩
  have hl4 := ho4.1
  have hn4' : n4 ≤ 1000000000 := by omega
  have HL4 := hide hl4
  clear hl4
  go_wp2_with fail
  refine (c_markPostingS g4 _ _ _ (revR ps).1 1 _ (ho4a.ext hx9) hn4' hn4 hc4 (by omega) (by omega)).mono ?_
  rintro e w10 ⟨rfl, ho10, hk10⟩
  have ho2b := (ho2a.ext hx9).onlyz hk10 (fun h => by have := hsz2 h; have := hx3.size; omega)
  have hx10 := (hx08.trans hx9).only hk10 (by have := hx03.size; omega)
  go_wp2_with fail
  refine (c_heldPostingS _ _ _ 1 _ (ho10.slice post_len hn4 hc4) hn4' (by omega) (by omega)).mono ?_
  rintro e w' ⟨rfl, rfl⟩
  go_wp2_with fail
  refine (c_toPostingS A n c ps _ (hs.ext hx10) hn').mono ?_
  rintro e w11 ⟨g11, rfl, hg11, hr11, hx11⟩
  go_wp2_with fail
  refine (c_ReverseLedger  _ _ _ ps _ (hr11.slice post_len rfl (by omega))).mono ?_
  rintro e w12 ⟨A12, n12, c12, g12, rfl, hn12, hc12, hg12, ho12, hx12⟩
  have hxb := hx11.trans hx12
  go_wp2_with fail
  refine (c_eqPostingS _ _ _ _ _ _ (revR ps).1 _ (ho12.slice post_len hn12 hc12) ((ho2b.ext hxb).slice post_len hn2 hc2)).mono ?_
  rintro e w13 ⟨rfl, hx13⟩
  go_wp2_with fail
  refine (c_heldPostingS _ _ _ 1 _ ((ho10.ext (hxb.trans hx13)).slice post_len hn4 hc4) hn4' (by omega) (by omega)).mono ?_
  rintro e w' ⟨rfl, rfl⟩
  go_wp2_with fail
  go_ret
  exact Ret.bool rfl ((hx10.trans hxb).trans hx13)

set_option maxRecDepth 100000 in
theorem lifted_ReverseLedger (os : Os) (started : os.Started) (H : Type) (enc : TypeId × Value → H) :
    ReturnsInHanded {} Try.checked os 6 .any (Rows.fnExactReverseLedgerSpec.pre6 enc Try.prog Try.f6 Rows.fnExactReverseLedgerRow.domain false) (Rows.fnExactReverseLedgerSpec.post enc Try.prog Try.f6 false true false false) := by
  refine returnsInHanded_of_change (C := Try.checked) own started (by kernel_rfl) Try.func6
    (ChangeSpec.witness6 (enc := enc) (C := Try.checked) false ⟨#[], #[.slice none 0 0], []⟩ 8 (by kernel_rfl) (by kernel_rfl) (by kernel_rfl) (by kernel_rfl)) ?_
  intro W base args ds gs before hval0 hW _ _
  have hval : ∀ (j : Nat) t v, Try.f6.params[j]? = some t → args[j]? = some v → Value.okWide Try.prog W .any base t v := hval0
  have hW' := hW
  obtain ⟨p, q, hA0, hV, rfl, hfz, hnd⟩ := hW
  have hA : DataW.TrodAll enc Try.prog W 0 (fun _ => true) true Try.f6.params.toList args.toList ds p := hA0
  rw [Try.params6] at hA hval
  obtain ⟨v0, vs0, d0, ds0, p0, q0, hargs, rfl, rfl, h0, r0⟩ := trodAll_cons hA
  obtain ⟨rfl, rfl, rfl⟩ := trodAll_nil r0
  obtain rfl : args = #[v0] := by cases args; simp_all
  obtain ⟨rfl, rfl⟩ := trodVars_none hV
  have k0 := h0
  have lt0 : ∀ x ∈ p0, x.block < W.heap.size := by obtain ⟨m, hm⟩ := k0; exact DataW.trod_lt m _ _ _ hm
  obtain ⟨A, n, c, ps, e0, hs⟩ := open_postings (hval 0 28 v0 rfl rfl) h0
  rw [e0]
  clear hA0 hval0
  refine (law_ReverseLedger A n c ps W hs).mono fun e W' ⟨he, bel⟩ => ?_
  subst he
  rw [e0] at hW'
  exact ⟨_, rfl, _, _, _, [], _, [], hW', trodAll_mk1 (shut_bool Try.underlying4 _), (trodAll_cons_mk (Below.trod laidOut (by kernel_rfl) (of_decide_eq_true (by kernel_rfl)) (e0 ▸ k0) bel lt0) trodAll_mk0), rfl, bel.frame _, fun h => by cases h⟩

theorem holds_ReverseLedger : Rows.FnExactReverseLedgerSaid :=
  OpenClaim.holds_of_wide 6 Try.f6 rfl rfl rfl rfl rfl rfl rfl ⟨rfl, rfl, rfl, rfl, rfl⟩ rfl rfl rfl rfl rfl (by kernel_rfl) Try.func6 (by kernel_rfl)
    (of_decide_eq_true (by kernel_rfl)) (by unfold Func.isWrapper; first | (rw [if_pos (by decide +kernel)]; kernel_rfl) | (rw [if_neg (by decide +kernel)]; exact ⟨rfl, rfl⟩))
    (fun os started H enc _ => lifted_ReverseLedger os started H enc)
#print axioms holds_ReverseLedger
end Go.Proofs.Ytclnfjpjmelfpaa
