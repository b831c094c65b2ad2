/-
  The codes of a book and of nominations, of the reference. The code, the scales and the orders of an hour; planned flows and readings; of the reference, exactly. What the laws on hours share: boxes of a network, blocks of copies, bounds of what is returned. Contracts of the small functions on numbers and on terms (no loops). IsTerms of the program and of the reference: both return isTermsB. The helpers of the laws on terms: copying, comparing, measuring.
-/
import Derived.Test.YtfkpghdmljjegaaGreatVa05
import Derived.Test.YtfkpghdmljjegaaGreatVa24
import Derived.Test.YtfkpghdmljjegaaGreatVa21
import Derived.Test.YtfkpghdmljjegaaGreatVa28
import Derived.Test.YtfkpghdmljjegaaGreatVa08
import Derived.Test.YtfkpghdmljjegaaGreatVa01
import Derived.Test.YtfkpghdmljjegaaGreatVa00
namespace Go.Proofs.YtfkpghdmljjegaaGreat
open Go.RowKit
set_option maxHeartbeats 1000000 in
theorem c_l20Code (A1 A2 : Option Addr) (n1 c1 n2 c2 : Nat) (ns : List Node) (ps : List Pipe) (A : Option Addr) (n c : Nat) (xs : List Contract) (w : World) (hs1 : SliceOf w 3 Node.cells A1 n1 c1 ns) (hs2 : SliceOf w 5 Pipe.cells A2 n2 c2 ps) (hs : SliceOf w 8 Contract.cells A n c xs) (hnm : ∀ x ∈ ns, x.name.size ≤ 1048576) :
    Calls Tryz.prog 232 #[.agg #[.slice A1 n1 c1, .slice A2 n2 c2], .slice A n c] w (Ret (.int .i64 (bookC n1 ns ps xs)) w) := by
  have hm1 := hs1.max
  have hp1 := hs1.cap
  have HNM := hide hnm
  clear hnm
  go_enter Tryz.func232, Tryz.ntmps232
  go_wp2_with fail
  refine (c_specIsNetwork A1 A2 n1 c1 n2 c2 ns ps _ (hs1.ext (Ext.alloc _ _)) (hs2.ext (Ext.alloc _ _)) HNM.out).mono ?_
  cases hN : netB ns ps
  · have HR := hide (show bookC n1 ns ps xs = 1 by unfold bookC; rw [hN]; rfl)
    rintro e w1 ⟨rfl, hx1⟩
    go_wp2_with fail
    go_ret
    exact Ret.int HR.out hx1.box
  rintro e w1 ⟨rfl, hx1⟩
  have hcl := hx1.cell
  go_wp2_with fail
  refine (c_l20Book A1 A2 n1 c1 n2 c2 A n c xs _ (by omega) (hs.ext hx1.box)).mono ?_
  cases hB : bookB n1 xs
  · have HR := hide (show bookC n1 ns ps xs = 3 by unfold bookC; rw [hN, hB]; rfl)
    rintro e w2 ⟨rfl, hx2⟩
    go_wp2_with fail
    go_ret
    exact Ret.int HR.out (hx1.box.trans hx2)
  · have HR := hide (show bookC n1 ns ps xs = 0 by unfold bookC; rw [hN, hB]; rfl)
    rintro e w2 ⟨rfl, hx2⟩
    go_wp2_with fail
    go_ret
    exact Ret.int HR.out (hx1.box.trans hx2)
set_option maxHeartbeats 1000000 in
theorem c_l21Code (A1 A2 : Option Addr) (n1 c1 n2 c2 : Nat) (ns : List Node) (ps : List Pipe) (A : Option Addr) (n c : Nat) (xs : List Contract) (B : Option Addr) (m d : Nat) (L : List Nomination) (w : World) (hs1 : SliceOf w 3 Node.cells A1 n1 c1 ns) (hs2 : SliceOf w 5 Pipe.cells A2 n2 c2 ps) (hs : SliceOf w 8 Contract.cells A n c xs) (hL : SliceOf w 4 Nomination.cells B m d L) (hnm : ∀ x ∈ ns, x.name.size ≤ 1048576) :
    Calls Tryz.prog 176 #[.agg #[.slice A1 n1 c1, .slice A2 n2 c2], .slice A n c, .slice B m d] w (Ret (.int .i64 (nomC n1 ns ps xs L)) w) := by
  have HNM := hide hnm
  clear hnm
  go_enter Tryz.func176, Tryz.ntmps176
  go_wp2_with fail
  refine (c_l20Code A1 A2 n1 c1 n2 c2 ns ps A n c xs _ (hs1.ext (Ext.alloc _ _)) (hs2.ext (Ext.alloc _ _)) (hs.ext (Ext.alloc _ _)) HNM.out).mono ?_
  by_cases hz : bookC n1 ns ps xs = 0
  · have hbk := book_zero hz
    have HOK := hide (book_hours hbk.2)
    clear hbk
    rw [hz]
    rintro e w1 ⟨rfl, hx1⟩
    go_wp2_with fail
    refine (c_l21List A n c xs B m d L _ (hs.ext hx1.box) (hL.ext hx1.box) HOK.out).mono ?_
    cases hb : nomsB xs L
    · have HR := hide (show nomC n1 ns ps xs L = 5 by unfold nomC; rw [if_pos hz, hb]; rfl)
      clear hz
      rintro e w2 ⟨rfl, hx2⟩
      go_wp2_with fail
      go_ret
      exact Ret.int HR.out (hx1.box.trans hx2)
    · have HR := hide (show nomC n1 ns ps xs L = 0 by unfold nomC; rw [if_pos hz, hb]; rfl)
      clear hz
      rintro e w2 ⟨rfl, hx2⟩
      go_wp2_with fail
      go_ret
      exact Ret.int HR.out (hx1.box.trans hx2)
  · have HR := hide (show nomC n1 ns ps xs L = bookC n1 ns ps xs by unfold nomC; rw [if_neg hz])
    have hz1 : (bookC n1 ns ps xs == 0) = false := by simpa using hz
    clear hz
    generalize bookC n1 ns ps xs = Z at *
    rintro e w1 ⟨rfl, hx1⟩
    go_wp2_with fail
    go_ret
    exact Ret.int HR.out hx1.box
end Go.Proofs.YtfkpghdmljjegaaGreat

namespace Go.Proofs.YtfkpghdmljjegaaGreat
open Go.RowKit
set_option maxHeartbeats 1000000 in
theorem c_l31Code (A1 A2 : Option Addr) (n1 c1 n2 c2 : Nat) (ns : List Node) (ps : List Pipe) (A : Option Addr) (n c : Nat) (xs : List Contract) (B : Option Addr) (m d : Nat) (L : List Nomination) (h : Int) (w : World) (hs1 : SliceOf w 3 Node.cells A1 n1 c1 ns) (hs2 : SliceOf w 5 Pipe.cells A2 n2 c2 ps) (hs : SliceOf w 8 Contract.cells A n c xs) (hL : SliceOf w 4 Nomination.cells B m d L) (hnm : ∀ x ∈ ns, x.name.size ≤ 1048576) : Calls Tryz.prog 100 #[.agg #[.slice A1 n1 c1, .slice A2 n2 c2], .slice A n c, .slice B m d, .int .i64 h] w (Ret (.int .i64 (setC n1 ns ps xs L h)) w) := by
  have hx0 : Ext w (w.alloc (.cells #[.slice A1 n1 c1, .slice A2 n2 c2] 45)) := Ext.alloc _ _
  have HLN := hide hs.len
  have hmx := hs.max
  have hcp := hs.cap
  have HNM := hide hnm
  clear hnm
  obtain ⟨z, HZ⟩ : ∃ z, Hid (nomC n1 ns ps xs L = z) := ⟨_, hide rfl⟩
  go_enter Tryz.func100, Tryz.ntmps100
  go_wp2_with fail
  refine (c_l21Code A1 A2 n1 c1 n2 c2 ns ps A n c xs B m d L _ (hs1.ext hx0) (hs2.ext hx0) (hs.ext hx0) (hL.ext hx0) HNM.out).mono ?_
  rw [HZ.out]
  rintro e w1 ⟨rfl, hx1⟩
  by_cases h0 : z = 0
  · subst h0
    have hb32 : n ≤ 32 := by
      have hb := (nomC_ok3 HZ.out).2.1
      simp only [bookB, Bool.and_eq_true, decide_eq_true_eq] at hb
      rw [HLN.out]; exact hb.1
    cases hh : inB h 0 47
    · have HR : Hid (setC n1 ns ps xs L h = 2) := hide (by unfold setC; rw [if_pos HZ.out, if_pos hh])
      go_wp2_with (go_at_call 136; refine (c_l20Hour h _).mono ?_; rw [hh]; rintro e w' ⟨rfl, rfl⟩)
      go_ret
      exact Ret.int HR.out (hx0.trans hx1)
    · have e1 : IntKind.i64.wrap (2 * (n : Int)) = 2 * n := IntWalk.i64_in _ (by omega)
      by_cases h20 : 20 < n
      · have HR : Hid (setC n1 ns ps xs L h = 7) := hide (by unfold setC; rw [if_pos HZ.out, if_neg (by rw [hh]; decide), if_pos (by rw [← HLN.out]; exact h20)])
        have hd : decide (40 < 2 * (n : Int)) = true := decide_eq_true (by omega)
        go_wp2_with (go_at_call 136; refine (c_l20Hour h _).mono ?_; rw [hh]; rintro e w' ⟨rfl, rfl⟩)
        go_ret
        exact Ret.int HR.out (hx0.trans hx1)
      · have HR : Hid (setC n1 ns ps xs L h = 0) := hide (by unfold setC; rw [if_pos HZ.out, if_neg (by rw [hh]; decide), if_neg (by rw [← HLN.out]; exact h20)])
        have hd : decide (40 < 2 * (n : Int)) = false := decide_eq_false (by omega)
        go_wp2_with (go_at_call 136; refine (c_l20Hour h _).mono ?_; rw [hh]; rintro e w' ⟨rfl, rfl⟩)
        go_ret
        exact Ret.int HR.out (hx0.trans hx1)
  · have HR : Hid (setC n1 ns ps xs L h = z) := hide (by unfold setC; rw [if_neg (by rw [HZ.out]; exact h0), HZ.out])
    have hb : (z == 0) = false := by rw [beq_eq_false_iff_ne]; exact h0
    go_wp2_with fail
    go_ret
    exact Ret.int HR.out (hx0.trans hx1)
/-- the scales and the orders of an hour, of the call's own -/
def RetSO (E : List Int) (O : List Order) (w : World) (e : Ending) (w' : World) : Prop :=
  ∃ v1 v2, e = .returned (.tuple #[v1, v2]) ∧ OwnL w' w.heap.size 2 1 intC v1 E ∧ OwnL w' w.heap.size 199 4 Order.cells v2 O ∧ Ext w w'
set_option maxHeartbeats 2000000 in
theorem c_l31Orders (A1 A2 : Option Addr) (n1 c1 n2 c2 : Nat) (ns : List Node) (ps : List Pipe) (A : Option Addr) (n c : Nat) (xs : List Contract) (B : Option Addr) (m d : Nat) (L : List Nomination) (h : Int) (w : World) (hs1 : SliceOf w 3 Node.cells A1 n1 c1 ns) (hs2 : SliceOf w 5 Pipe.cells A2 n2 c2 ps) (hs : SliceOf w 8 Contract.cells A n c xs) (hL : SliceOf w 4 Nomination.cells B m d L) (hnm : ∀ x ∈ ns, x.name.size ≤ 1048576) (hk : HrOk n1 ns ps xs L h) : Calls Tryz.prog 121 #[.agg #[.slice A1 n1 c1, .slice A2 n2 c2], .slice A n c, .slice B m d, .int .i64 h] w (RetSO (hrSc ps n1 xs L h) (hrOrd ps n1 xs L h) w) := by
  have hB := Row.new w 45 [.slice A1 n1 c1, .slice A2 n2 c2]
  have hx0 : Ext w (w.alloc (.cells #[.slice A1 n1 c1, .slice A2 n2 c2] 45)) := Ext.alloc _ _
  have HLN := hide hs.len
  have HNM := hide hnm
  have HK := hide hk
  have hn20 : n ≤ 20 := by rw [hs.len]; exact hk.le
  have HTO := hide (trn_ok hk.bk hk.nm h)
  have HIN := hide (fun x hx => ((nom_facts hk.bk hk.nm).2 x hx).1)
  clear hnm hk
  obtain ⟨ts, HTS⟩ : ∃ ts, Hid (trnL xs L h = ts) := ⟨_, hide rfl⟩
  obtain ⟨sc, HSC⟩ : ∃ sc, Hid (hrSc ps n1 xs L h = sc) := ⟨_, hide rfl⟩
  have hscl : sc.length = 4 := by rw [← HSC.out]; exact hrSc_len ps n1 xs L h
  obtain ⟨le, HLE⟩ : ∃ le, Hid (lessT ps n1 xs L h = le) := ⟨_, hide rfl⟩
  have hlel : le.length = n := by rw [← HLE.out, lessT_len, HLN.out]
  rw [HSC.out]
  rw [HTS.out] at HTO
  have HLO : Hid (∀ x ∈ le, 0 ≤ x.amount ∧ x.amount ≤ 30000) := hide (fun x hx => by
    rw [← HLE.out] at hx
    exact (less_ok HK.out.bk HK.out.nm h x hx).2.2.1)
  go_enter Tryz.func121, Tryz.ntmps121
  go_wp2_with fail
  refine (c_l31Transports A n c xs B m d L _ (hs.ext hx0) (hL.ext hx0) (by omega) (by rw [HLN.out]; exact HIN.out) h).mono ?_
  rintro e w1 ⟨v1, E1, rfl, ho1, HE1, hx1⟩
  obtain rfl : E1 = ts := by rw [HE1.out]; exact HTS.out
  have htl : E1.length = n := by rw [← HTS.out, trnL_len, HLN.out]
  obtain ⟨A4, c4, rfl, hs4⟩ := ho1.sl trn_len (by omega)
  rw [htl] at hs4
  rw [htl]
  have hb0 := (hB.ext hx1).cell 0
  have hb1 := (hB.ext hx1).cell 1
  simp at hb0 hb1
  have hbl := (hB.ext hx1).lt
  have hX1 := hx0.trans hx1
  go_wp2_with fail
  refine (c_l25Scales A1 A2 n1 c1 n2 c2 ns ps _ (hs1.ext hX1) (hs2.ext hX1) HNM.out HK.out.net A4 n c4 E1 hs4 (by omega) HTO.out).mono ?_
  rintro e w2 ⟨v2, E2, rfl, ho2, HE2, hx2⟩
  obtain rfl : E2 = sc := by rw [HE2.out, ← HTS.out]; exact HSC.out
  obtain ⟨A5, c5, rfl, hs5⟩ := ho2.sl intC_len (by omega)
  rw [hscl] at hs5 ho2
  rw [hscl]
  clear hb0 hb1 hbl
  have hX2 := hX1.trans hx2
  go_wp2_with fail
  refine (c_l24Scale A4 n c4 E1 A5 c5 E2 _ (hs4.ext hx2) hs5 (by omega) n1 HTO.out (by rw [← HSC.out]; exact hrSc_in _ _ _ _ _)).mono ?_
  rintro e w3 ⟨v3, E3, rfl, ho3, HE3, hx3⟩
  obtain rfl : E3 = le := by rw [HE3.out, ← HSC.out, ← HTS.out]; exact HLE.out
  obtain ⟨A6, c6, rfl, hs6⟩ := ho3.sl trn_len (by omega)
  rw [hlel] at hs6
  rw [hlel]
  have hX3 := hX2.trans hx3
  have ho23 := ho2.ext hx3
  have hO0 : OwnL (w3.alloc (.cells #[] 2)) w3.heap.size 2 1 intC (.slice (some ⟨w3.heap.size, 0, none⟩) 0 0) [] := own_new w3 w3.heap.size _ _ _ _ rfl (Nat.le_refl _)
  have hz1 := hX1.size
  have hz2 := hX3.size
  clear ho1 ho2 ho3 HE1 HE2 HE3
  go_wp2_with fail
  go_loopw [13, 14] (fun v i wr => ∃ (k : Nat) (T : List Int), k ≤ n ∧ i = .int .i64 k ∧ T.length = k ∧ Hid (T = (E3.map Trn.amount).take k) ∧ OwnL wr w3.heap.size 2 1 intC v T ∧ Ext w3 wr) (fun _ i _ => n - (intOf i).toNat)
  case atStart => exact ⟨0, [], Nat.zero_le _, rfl, rfl, hide rfl, hO0, Ext.alloc _ _⟩
  case round =>
    clear hO0
    obtain ⟨k, T, hk, rfl, hTk, HT, ho, hx⟩ := hrel
    by_cases hlt : k < n
    · obtain ⟨b, off, x, rfl, hb, hxk, hc⟩ := (hs6.ext hx).get hlt
      have hc2 := hc 2 _ rfl
      clear hc
      have HN : Hid (T ++ [x.amount] = (E3.map Trn.amount).take (k + 1)) := hide (by rw [List.take_add_one, List.getElem?_map, hxk, HT.out]; rfl)
      clear hxk
      have hxz := hx.size
      go_wp2_with (at_builtin; go_must (refine wpList_append_one rfl _ _ 24 rfl w3.heap.size 2 _ 1 8 Tryz.underlying24 int_info rfl (by decide) intC intC_len int_one' _ _ rfl (ho.ext (Ext.alloc _ _)) wr x.amount rfl _ rfl (by first | rfl | simp) (by omega) (by omega) (by first | omega | (simp; omega)) ?_))
      intro v4 w4 ho4 hext4
      have hx4 := hext4 w3 (Nat.le_refl _) (hx.and_alloc _)
      go_wp2_with fail
      go_roundw
      case rel => exact ⟨k + 1, _, by omega, by go_num, by simp; omega, HN, ho4, hx4⟩
      case measure => simp [intOf]; omega
    · obtain rfl : k = n := by omega
      have HTE : Hid (T = E3.map Trn.amount) := hide (by rw [HT.out, List.take_of_length_le (by rw [List.length_map]; omega)])
      have hX4 := hX3.trans hx
      obtain ⟨A7, c7, rfl, hs7⟩ := ho.sl intC_len (by omega)
      rw [hTk] at hs7
      rw [hTk]
      clear ho
      go_wp2_with fail
      refine (c_l22Orders A k c xs A7 c7 T _ (hs.ext hX4) hs7 (by omega) (by
        rw [HTE.out]
        intro z hz
        obtain ⟨y, hy, rfl⟩ := List.mem_map.1 hz
        exact HLO.out y hy)).mono ?_
      rintro e w5 ⟨v5, E5, rfl, ho5, HE5, hx5⟩
      have ho25 := ho23.ext (hx.trans hx5)
      have hzz := hx.size
      have HE6 : Hid (E5 = hrOrd ps n1 xs L h) := hide (by rw [HE5.out, HTE.out, ← HLE.out]; rfl)
      go_wp2_with fail
      go_ret2
      refine ⟨_, _, rfl, ho25.lowG hz1, ?_, hX4.trans hx5⟩
      rw [← HE6.out]
      exact ho5.lowG (by omega)
end Go.Proofs.YtfkpghdmljjegaaGreat

namespace Go.Proofs.YtfkpghdmljjegaaGreat
open Go.RowKit
/-- a box of a network, by its block -/
structure NBoxL (w : World) (b : Nat) (A1 A2 : Option Addr) (n1 c1 n2 c2 : Nat) : Prop where
  lt : b < w.heap.size
  x0 : w.cell? ⟨b, 0, none⟩ = some (.slice A1 n1 c1)
  x1 : w.cell? ⟨b, 1, none⟩ = some (.slice A2 n2 c2)
theorem NBoxL.ext {w w' : World} {b : Nat} {A1 A2 : Option Addr} {n1 c1 n2 c2 : Nat} (h : NBoxL w b A1 A2 n1 c1 n2 c2) (hx : Ext w w') : NBoxL w' b A1 A2 n1 c1 n2 c2 :=
  ⟨Nat.lt_of_lt_of_le h.lt hx.size, (hx.cell _ _ h.lt).trans h.x0, (hx.cell _ _ h.lt).trans h.x1⟩
theorem NBoxL.new (w : World) (A1 A2 : Option Addr) (n1 c1 n2 c2 : Nat) (t : TypeId) : NBoxL (w.alloc (.cells #[.slice A1 n1 c1, .slice A2 n2 c2] t)) w.heap.size A1 A2 n1 c1 n2 c2 := by
  have hR := Row.new w t [.slice A1 n1 c1, .slice A2 n2 c2]
  exact ⟨by simp, hR.cell 0, hR.cell 1⟩
theorem blk_is {g n b : Nat} (h : blkOf (some ⟨g, 0, none⟩) n = some b) : b = g := by
  unfold blkOf at h
  split at h
  · cases h
  · simpa using h.symm
theorem named_sz {ns : List Node} (h : Named ns) : ∀ x ∈ ns, x.name.size ≤ 1048576 := h
end Go.Proofs.YtfkpghdmljjegaaGreat

namespace Go.Proofs.YtfkpghdmljjegaaGreat
open Go.RowKit

def tolF (band percent thr : Int) : Int := max band (thr * percent / 100)
theorem mul_bd {a b : Int} (x y : Int) (ha : 0 ≤ a) (ha' : a ≤ x) (hb : 0 ≤ b) (hb' : b ≤ y) : 0 ≤ a * b ∧ a * b ≤ x * y :=
  ⟨Int.mul_nonneg ha hb, Int.mul_le_mul ha' hb' hb (by omega)⟩
theorem tolF_bd {band percent thr : Int} (h1 : 0 ≤ band) (h1' : band ≤ 1000000000) (h2 : 0 ≤ percent) (h2' : percent ≤ 100) (h3 : 0 ≤ thr) (h3' : thr ≤ 1000000000) : 0 ≤ tolF band percent thr ∧ tolF band percent thr ≤ 1000000000 := by
  have := mul_bd 1000000000 100 h3 h3' h2 h2'
  unfold tolF; omega

theorem c_toleranceFor (band percent price thr : Int) (A : Option Addr) (n c : Nat) (w : World) (h2 : 0 ≤ percent) (h2' : percent ≤ 100) (h3 : 0 ≤ thr) (h3' : thr ≤ 1000000000) :
    Calls Tryz.prog 254 #[.agg #[.int .i64 band, .int .i64 percent, .int .i64 price, .slice A n c], .int .i64 thr] w (Ret (.int .i64 (tolF band percent thr)) w) := by
  obtain ⟨hm, hm'⟩ := mul_bd 1000000000 100 h3 h3' h2 h2'
  go_enter Tryz.func254, Tryz.ntmps254
  go_wp2
  all_goals
    go_ret
    refine Ret.int ?_ (Ext.alloc _ _)
    unfold tolF; omega

theorem c_l29Tolerance (band percent price thr : Int) (A : Option Addr) (n c : Nat) (w : World) (h2 : 0 ≤ percent) (h2' : percent ≤ 100) (h3 : 0 ≤ thr) (h3' : thr ≤ 1000000000) :
    Calls Tryz.prog 258 #[.agg #[.int .i64 band, .int .i64 percent, .int .i64 price, .slice A n c], .int .i64 thr] w (Ret (.int .i64 (tolF band percent thr)) w) := by
  obtain ⟨hm, hm'⟩ := mul_bd 1000000000 100 h3 h3' h2 h2'
  go_enter Tryz.func258, Tryz.ntmps258
  go_wp2
  all_goals
    go_ret
    refine Ret.int ?_ (Ext.alloc _ _)
    unfold tolF; omega

def excF (band percent bal thr : Int) : Int :=
  if tolF band percent thr < bal then bal - tolF band percent thr else if bal < -tolF band percent thr then bal + tolF band percent thr else 0

theorem c_excessOf (band percent price bal thr : Int) (A : Option Addr) (n c : Nat) (w : World) (h1 : 0 ≤ band) (h1' : band ≤ 1000000000) (h2 : 0 ≤ percent) (h2' : percent ≤ 100) (h3 : 0 ≤ thr) (h3' : thr ≤ 1000000000)
    (h4 : -2000000000 ≤ bal) (h4' : bal ≤ 2000000000) :
    Calls Tryz.prog 201 #[.agg #[.int .i64 band, .int .i64 percent, .int .i64 price, .slice A n c], .int .i64 bal, .int .i64 thr] w (Ret (.int .i64 (excF band percent bal thr)) w) := by
  have ht := tolF_bd h1 h1' h2 h2' h3 h3'
  have HE := hide (show excF band percent bal thr = if tolF band percent thr < bal then bal - tolF band percent thr else if bal < -tolF band percent thr then bal + tolF band percent thr else 0 from rfl)
  generalize excF band percent bal thr = R at HE ⊢
  go_enter Tryz.func201, Tryz.ntmps201
  go_wp2_with fail
  refine (c_toleranceFor _ _ _ _ _ _ _ _ h2 h2' h3 h3').mono ?_
  generalize tolF band percent thr = T at ht HE ⊢
  obtain ⟨ht0, ht1⟩ := ht
  rintro e w1 ⟨rfl, hx⟩
  go_wp2
  all_goals
    go_ret
    refine Ret.int ?_ hx.box
    rw [HE.out]
    (repeat' split) <;> omega

theorem excF_spec {band percent bal thr : Int} (h : 0 ≤ tolF band percent thr) :
    excF band percent bal thr = if bal < 0 then -(max 0 (absI bal - tolF band percent thr)) else max 0 (absI bal - tolF band percent thr) := by
  unfold excF absI; (repeat' split) <;> omega

set_option maxHeartbeats 400000 in
theorem c_l29Excess (band percent price bal thr : Int) (A : Option Addr) (n c : Nat) (w : World) (h1 : 0 ≤ band) (h1' : band ≤ 1000000000) (h2 : 0 ≤ percent) (h2' : percent ≤ 100) (h3 : 0 ≤ thr) (h3' : thr ≤ 1000000000)
    (h4 : -2000000000 ≤ bal) (h4' : bal ≤ 2000000000) :
    Calls Tryz.prog 210 #[.agg #[.int .i64 band, .int .i64 percent, .int .i64 price, .slice A n c], .int .i64 bal, .int .i64 thr] w (Ret (.int .i64 (excF band percent bal thr)) w) := by
  have ht := tolF_bd h1 h1' h2 h2' h3 h3'
  have ha := absI_le (n := bal) (m := 2000000000) h4 h4'
  have HE := hide (excF_spec (bal := bal) ht.1)
  generalize excF band percent bal thr = R at HE ⊢
  go_enter Tryz.func210, Tryz.ntmps210
  go_wp2_with fail
  refine wp_region_later (by kernel_rfl) (by kernel_rfl) ?_
  have e1 : IntKind.i64.wrap (absI bal - tolF band percent thr) = absI bal - tolF band percent thr := IntWalk.i64_in _ (by omega)
  repeat (go_big_quiet_step ((first | (go_at_call 209; exact quiet_later_same (c_l01Abs _ _ (by omega) (by omega))) | (go_at_call 258; exact quiet_later (c_l29Tolerance _ _ _ _ _ _ _ _ h2 h2' h3 h3')))))
  refine wpQuiet_nil ?_
  intro w1 hx
  go_wp2
  all_goals
    go_ret
    refine Ret.int ?_ hx.box
    rw [HE.out]
    (repeat' split) <;> omega

end Go.Proofs.YtfkpghdmljjegaaGreat

namespace Go.Proofs.YtfkpghdmljjegaaGreat
open Go.RowKit

structure Tier where
  upto : Int
  factor : Int
def Tier.cells (t : Tier) : List Value := [.int .i64 t.upto, .int .i64 t.factor]

def stepOk : Option Tier → Tier → Bool
  | none, _ => true
  | some y, x => decide (y.upto < x.upto) && decide (y.factor ≤ x.factor)
def tierOk (ts : List Tier) (i : Nat) : Bool :=
  match ts[i]? with
  | none => true
  | some x => inB x.upto 1 1000000000 && inB x.factor 0 1000 && (match i with | 0 => true | j + 1 => stepOk ts[j]? x)
def isTermsB (band percent price : Int) (ts : List Tier) : Bool :=
  inB band 0 1000000000 && inB percent 0 100 && inB price 0 1000000 && inB ts.length 1 6 && (List.range ts.length).all (tierOk ts)

theorem tierOk_zero {ts : List Tier} {k : Nat} {x : Tier} (hk : ¬ 0 < k) (h : ts[k]? = some x) : tierOk ts k = (inB x.upto 1 1000000000 && inB x.factor 0 1000) := by
  obtain rfl : k = 0 := by omega
  simp [tierOk, h]
theorem tierOk_pos {ts : List Tier} {k : Nat} {x y : Tier} (hk : 0 < k) (h : ts[k]? = some x) (h' : ts[k - 1]? = some y) :
    tierOk ts k = (inB x.upto 1 1000000000 && inB x.factor 0 1000 && (decide (y.upto < x.upto) && decide (y.factor ≤ x.factor))) := by
  obtain ⟨m, rfl⟩ : ∃ m, k = m + 1 := ⟨k - 1, by omega⟩
  simp at h'
  simp [tierOk, h, h', stepOk]
/-- the ways through a round -/
theorem tier_ways {ts : List Tier} {k n : Nat} {x y : Tier} (hlt : k < n) (HT : tierOk ts k = (inB x.upto 1 1000000000 && inB x.factor 0 1000 && (decide (y.upto < x.upto) && decide (y.factor ≤ x.factor)))) :
    (inB x.upto 1 1000000000 = true ∧ inB x.factor 0 1000 = true ∧ decide (x.upto ≤ y.upto) = false ∧ decide (x.factor < y.factor) = false ∧ Hid (tierOk ts k = true)) ∨
    (inB x.upto 1 1000000000 = false ∧ Hid ((List.range n).all (tierOk ts) = false)) ∨
    (inB x.upto 1 1000000000 = true ∧ inB x.factor 0 1000 = false ∧ Hid ((List.range n).all (tierOk ts) = false)) ∨
    (inB x.upto 1 1000000000 = true ∧ inB x.factor 0 1000 = true ∧ decide (x.upto ≤ y.upto) = true ∧ Hid ((List.range n).all (tierOk ts) = false)) ∨
    (inB x.upto 1 1000000000 = true ∧ inB x.factor 0 1000 = true ∧ decide (x.upto ≤ y.upto) = false ∧ decide (x.factor < y.factor) = true ∧ Hid ((List.range n).all (tierOk ts) = false)) := by
  have e1 : decide (y.upto < x.upto) = !decide (x.upto ≤ y.upto) := by rw [Bool.eq_iff_iff]; simp
  have e2 : decide (y.factor ≤ x.factor) = !decide (x.factor < y.factor) := by rw [Bool.eq_iff_iff]; simp
  rw [e1, e2] at HT
  have hf : tierOk ts k = false → Hid ((List.range n).all (tierOk ts) = false) := fun h => hide (all_range_false hlt h)
  revert HT hf
  cases inB x.upto 1 1000000000 <;> cases inB x.factor 0 1000 <;> cases decide (x.upto ≤ y.upto) <;> cases decide (x.factor < y.factor) <;> simp <;> intro h <;> simp [h, Hid]
theorem tier_ways0 {ts : List Tier} {k n : Nat} {x : Tier} (hlt : k < n) (HT : tierOk ts k = (inB x.upto 1 1000000000 && inB x.factor 0 1000)) :
    (inB x.upto 1 1000000000 = true ∧ inB x.factor 0 1000 = true ∧ Hid (tierOk ts k = true)) ∨
    (inB x.upto 1 1000000000 = false ∧ Hid ((List.range n).all (tierOk ts) = false)) ∨
    (inB x.upto 1 1000000000 = true ∧ inB x.factor 0 1000 = false ∧ Hid ((List.range n).all (tierOk ts) = false)) := by
  have hf : tierOk ts k = false → Hid ((List.range n).all (tierOk ts) = false) := fun h => hide (all_range_false hlt h)
  revert HT hf
  cases inB x.upto 1 1000000000 <;> cases inB x.factor 0 1000 <;> simp <;> intro h <;> simp [h, Hid]

set_option maxHeartbeats 2000000 in
theorem c_isTerms (band percent price : Int) (A : Option Addr) (n c : Nat) (ts : List Tier) (w : World) (hs : SliceOf w 2 Tier.cells A n c ts) :
    Calls Tryz.prog 127 #[.agg #[.int .i64 band, .int .i64 percent, .int .i64 price, .slice A n c]] w (Ret (.bool (isTermsB band percent price ts)) w) := by
  have HF := hide (show isTermsB band percent price ts = (inB band 0 1000000000 && inB percent 0 100 && inB price 0 1000000 && inB n 1 6 && (List.range n).all (tierOk ts)) by rw [isTermsB, hs.1])
  generalize isTermsB band percent price ts = R at HF ⊢
  by_cases hg : inB band 0 1000000000 = true ∧ inB percent 0 100 = true ∧ inB price 0 1000000 = true ∧ inB n 1 6 = true
  · obtain ⟨h1, h2, h3, h4⟩ := hg
    have hn : n ≤ 6 := by simp [inB] at h4; omega
    have HR := hide (show R = (List.range n).all (tierOk ts) by rw [HF.out]; simp [h1, h2, h3, h4])
    clear HF
    go_enter Tryz.func127, Tryz.ntmps127
    go_wp2_with (go_at_call 164; refine (c_within _ _ _ _).mono ?_; rintro e w' ⟨rfl, rfl⟩)
    go_loopw [2, 31] (fun r i wr => ∃ k : Nat, k ≤ n ∧ r = .bool false ∧ i = .int .i64 k ∧ Hid (∀ j, j < k → tierOk ts j = true) ∧ Ext (w.alloc (.cells #[.int .i64 band, .int .i64 percent, .int .i64 price, .slice A n c] 73)) wr) (fun _ i _ => n - (intOf i).toNat)
    case atStart => exact ⟨0, Nat.zero_le _, rfl, rfl, hide (fun j hj => absurd hj (by omega)), Ext.refl _⟩
    case round =>
      obtain ⟨k, hk, rfl, rfl, HK, hx⟩ := hrel
      have hxs := hx.size
      have hz : w.heap.size < wr.heap.size := by simp at hxs; omega
      clear hxs
      have hbx3 : wr.cell? ⟨w.heap.size, 3, none⟩ = some (.slice A n c) := by rw [hx.cell _ _ (by simp)]; simp
      have hx0 : Ext w wr := hx.box
      by_cases hlt : k < n
      · have hs' := hs.ext hx0
        obtain ⟨b, off, x, rfl, hb, hxk, hc⟩ := hs'.get hlt
        have hc0 := hc 0 _ rfl
        have hc1 := hc 1 _ rfl
        clear hc
        simp only [Nat.add_zero] at hc0
        by_cases h0 : 0 < k
        · obtain ⟨y, hyk, hc⟩ := hs'.at_ (k := k - 1) (by omega)
          have hd0 := hc 0 _ rfl
          have hd1 := hc 1 _ rfl
          clear hc
          simp only [Nat.add_zero] at hd0
          have ways := tier_ways hlt (tierOk_pos h0 hxk hyk)
          clear hxk hyk
          have e1 : IntKind.i64.wrap (↑k - 1) = (↑k - 1) := IntWalk.i64_in _ (by omega)
          have e2 : (0:Int) ≤ ↑k - 1 := by omega
          have e3 : ((k:Int) - 1).toNat = k - 1 := by omega
          rcases ways with ⟨g1, g2, g3, g4, HT⟩ | ⟨g1, HT⟩ | ⟨g1, g2, HT⟩ | ⟨g1, g2, g3, HT⟩ | ⟨g1, g2, g3, g4, HT⟩
          · go_wp2_with (go_at_call 164; refine (c_within _ _ _ _).mono ?_; rintro e w' ⟨rfl, rfl⟩)
            go_quiet ((go_at_call 164; exact quiet_left (c_within _ _ _ _)))
            go_wp2
            go_roundw
            case rel => exact ⟨k + 1, by omega, rfl, by go_num, hide (all_upto HK.out HT.out), (hx.and_alloc _).drewN _⟩
            case measure => simp [intOf]; omega
          all_goals
            go_wp2_with (go_at_call 164; refine (c_within _ _ _ _).mono ?_; rintro e w' ⟨rfl, rfl⟩)
            go_quiet ((go_at_call 164; exact quiet_left (c_within _ _ _ _)))
            go_wp2
            go_ret
            exact Ret.bool (HR.out.trans HT.out) ((hx0.and_alloc _).drewN _)
        · have ways := tier_ways0 hlt (tierOk_zero h0 hxk)
          clear hxk
          have h0' : decide (0 < k) = false := by simpa using h0
          rcases ways with ⟨g1, g2, HT⟩ | ⟨g1, HT⟩ | ⟨g1, g2, HT⟩
          · go_wp2_with (go_at_call 164; refine (c_within _ _ _ _).mono ?_; rintro e w' ⟨rfl, rfl⟩)
            go_quiet ((go_at_call 164; exact quiet_left (c_within _ _ _ _)))
            go_wp2
            go_roundw
            case rel => exact ⟨k + 1, by omega, rfl, by go_num, hide (all_upto HK.out HT.out), (hx.and_alloc _).drewN _⟩
            case measure => simp [intOf]; omega
          all_goals
            go_wp2_with (go_at_call 164; refine (c_within _ _ _ _).mono ?_; rintro e w' ⟨rfl, rfl⟩)
            go_quiet ((go_at_call 164; exact quiet_left (c_within _ _ _ _)))
            go_wp2
            go_ret
            exact Ret.bool (HR.out.trans HT.out) ((hx0.and_alloc _).drewN _)
      · go_wp2
        go_ret
        exact Ret.bool (HR.out.trans (all_range_true (fun j hj => HK.out j (by omega)))) hx0
  · have hw : inB band 0 1000000000 = false ∨ (inB band 0 1000000000 = true ∧ inB percent 0 100 = false) ∨ (inB band 0 1000000000 = true ∧ inB percent 0 100 = true ∧ inB price 0 1000000 = false) ∨ (inB band 0 1000000000 = true ∧ inB percent 0 100 = true ∧ inB price 0 1000000 = true ∧ inB n 1 6 = false) := by
      revert hg; cases inB band 0 1000000000 <;> cases inB percent 0 100 <;> cases inB price 0 1000000 <;> cases inB n 1 6 <;> simp
    have HR := hide (show R = false by rw [HF.out]; rcases hw with h | h | h | h <;> simp [h])
    clear HF hg
    rcases hw with g1 | ⟨g1, g2⟩ | ⟨g1, g2, g3⟩ | ⟨g1, g2, g3, g4⟩
    all_goals
      go_enter Tryz.func127, Tryz.ntmps127
      go_wp2_with (go_at_call 164; refine (c_within _ _ _ _).mono ?_; rintro e w' ⟨rfl, rfl⟩)
      go_ret
      exact Ret.bool HR.out (Ext.alloc _ _)

end Go.Proofs.YtfkpghdmljjegaaGreat

namespace Go.Proofs.YtfkpghdmljjegaaGreat
open Go.RowKit

theorem c_toTier (u f : Int) (w : World) :
    Calls Tryz.prog 213 #[.agg #[.int .i64 u, .int .i64 f]] w (Ret (.agg #[.int .i64 u, .int .i64 f]) w) := by
  go_enter Tryz.func213, Tryz.ntmps213
  go_wp2
  exact bodyPost_ret (v := .agg #[.int .i64 u, .int .i64 f]) (by simp [results, Tryz.results213, go_sem]) rfl ⟨rfl, (((Ext.refl _).and_alloc _).and_alloc _).and_alloc _⟩

theorem c_eqTier (u f u' f' : Int) (w : World) :
    Calls Tryz.prog 214 #[.agg #[.int .i64 u, .int .i64 f], .agg #[.int .i64 u', .int .i64 f']] w (Ret (.bool (decide (u = u') && decide (f = f'))) w) := by
  go_enter Tryz.func214, Tryz.ntmps214
  go_wp2
  all_goals
    go_ret
    refine Ret.bool ?_ (((Ext.refl _).and_alloc _).and_alloc _)
    simp_all

theorem c_szTierS (A : Option Addr) (n c : Nat) (left : Int) (w : World) (hn : n ≤ c) (hc : c ≤ 9223372036854775807) (h0 : 0 ≤ left) (h1 : left ≤ 1048576) :
    Calls Tryz.prog 139 #[.slice A n c, .int .i64 left] w fun e w' => e = .returned (.int .i64 (if left < n then -1 else left - n)) ∧ w = w' := by
  go_enter Tryz.func139, Tryz.ntmps139
  go_wp2
  all_goals
    go_ret
    simp <;> omega

theorem c_szTerms (band percent price left : Int) (A : Option Addr) (n c : Nat) (w : World) (hn : n ≤ c) (hc : c ≤ 9223372036854775807) (h0 : 0 ≤ left) (h1 : left ≤ 1048576) :
    Calls Tryz.prog 54 #[.agg #[.int .i64 band, .int .i64 percent, .int .i64 price, .slice A n c], .int .i64 left] w (Ret (.int .i64 (if left < n then -1 else left - n)) w) := by
  go_enter Tryz.func54, Tryz.ntmps54
  go_wp2_with (go_at_call 139; refine (c_szTierS _ _ _ _ _ hn hc h0 h1).mono ?_; rintro e w' ⟨rfl, rfl⟩)
  all_goals
    go_ret
    refine Ret.int ?_ (Ext.alloc _ _)
    first | omega | rfl

theorem tier_len (t : Tier) : t.cells.length = 2 := rfl
theorem tier_info : (Tryz.prog.info? 70).map (fun i => (i.zero, i.size, i.bytes)) = some (some (.agg #[.int .i64 0, .int .i64 0]), 2, 16) := by kernel_rfl

set_option maxHeartbeats 1000000 in
theorem c_toTierS (A : Option Addr) (n c : Nat) (ts : List Tier) (w : World) (hs : SliceOf w 2 Tier.cells A n c ts) (hn : n ≤ 1048576) :
    Calls Tryz.prog 140 #[.slice A n c] w (NewRow 70 Tier.cells ts w) := by
  have hmk := fun W => run_make_flat (P := Tryz.prog) 71 70 _ _ 2 16 Tryz.underlying71 tier_info (f := Tier.cells) ⟨0, 0⟩ rfl rfl rfl (by omega) n (by omega) (by omega) W
  have hR0 := Row.new w 70 ((List.replicate n (⟨0, 0⟩ : Tier)).flatMap Tier.cells)
  go_enter Tryz.func140, Tryz.ntmps140
  go_wp2_with fail
  go_loopw [4] (fun i wr => ∃ (k : Nat) (L : List Tier), k ≤ n ∧ i = .int .i64 k ∧ L.length = n ∧ RowOf wr w.heap.size 70 Tier.cells L ∧ Hid (∀ j, j < k → L[j]? = ts[j]?) ∧ Ext w wr) (fun i _ => n - (intOf i).toNat)
  case atStart => exact ⟨0, _, Nat.zero_le _, rfl, List.length_replicate, hR0, hide (fun j hj => absurd hj (by omega)), Ext.alloc _ _⟩
  case round =>
    obtain ⟨k, L, hk, rfl, hL, hrow, HK, hx⟩ := hrel
    clear hR0 hmk
    have hgs := hrow.lt
    by_cases hlt : k < n
    · obtain ⟨b, off, x, rfl, hb, hxk, hc⟩ := (hs.ext hx).get hlt
      have hc0 := hc 0 _ rfl
      have hc1 := hc 1 _ rfl
      clear hc
      simp only [Nat.add_zero] at hc0
      have Hx := hide hxk
      have HL := hide hL
      clear hxk hL
      go_wp2_with (go_at_call 213; refine (c_toTier _ _ _).mono ?_; rintro e w1 ⟨rfl, hx1⟩; have hrow1 := hrow.ext hx1; obtain ⟨v0, hv0⟩ := hrow1.there tier_len (i := k) (by rw [HL.out]; exact hlt) (j := 0) (by omega); obtain ⟨v1, hv1⟩ := hrow1.there tier_len (i := k) (by rw [HL.out]; exact hlt) (j := 1) (by omega); have hf0 := hrow1.frozen (k * 2); have hf1 := hrow1.frozen (k * 2 + 1); rw [Nat.add_zero] at hv0)
      go_roundw
      case rel =>
        refine ⟨k + 1, L.set k x, by omega, by go_num, by simpa using HL.out, hrow1.put tier_len (by rw [HL.out]; exact hlt) x, hide ?_, (hx.trans hx1).put (Nat.le_refl _) (k * 2) x.cells⟩
        intro j hj
        rw [List.getElem?_set]
        by_cases e : k = j
        · subst e; rw [if_pos rfl, if_pos (by rw [HL.out]; exact hlt), Hx.out]
        · rw [if_neg e]; exact HK.out j (by omega)
      case measure => simp [intOf]; omega
    · go_wp2
      go_ret
      have hLts : L = ts := by
        apply List.ext_getElem?
        intro j
        by_cases hj : j < n
        · exact HK.out j (by omega)
        · rw [List.getElem?_eq_none (by omega), List.getElem?_eq_none (by have := hs.len; omega)]
      subst hLts
      refine ⟨w.heap.size, ?_, Nat.le_refl _, hrow, hx⟩
      rw [hL]; rfl

end Go.Proofs.YtfkpghdmljjegaaGreat
