/-
  RouteSupplies and IsRoutable of the program, exactly. The codes of a book and of nominations, of the reference. The code, the scales and the orders of an hour; planned flows and readings; of the reference, exactly. Allocating, of the program: matching, and the places that match. A posting's cells are single cells. The program's own knobs are none, and its types are laid out: two facts that every lift of a law names.
-/
import Derived.Test.YtfkpghdmljjegaaGreatVb30
import Derived.Test.YtfkpghdmljjegaaGreatVb19
import Derived.Test.YtfkpghdmljjegaaGreatVb11
import Derived.Test.YtfkpghdmljjegaaGreatVb24
import Derived.Test.YtfkpghdmljjegaaGreatVb21
import Derived.Test.YtfkpghdmljjegaaGreatVb20
import Derived.Test.YtfkpghdmljjegaaGreatVb12
import Derived.Test.YtfkpghdmljjegaaGreatVb00
import Derived.Test.YtfkpghdmljjegaaGreatVb07
import Derived.Test.YtfkpghdmljjegaaGreatVb25
import Derived.OpenShut
import Derived.ProofKit
import Derived.ShutString
import Derived.ChangeOld
import Derived.Lib.SmallJoins
namespace Go.Proofs.YtfkpghdmljjegaaGreat
open Go.RowKit
/-- a list of the call's own, and a code -/
def RetLS {α : Type} (t : TypeId) (f : α → List Value) (p : List α × Int) (w : World) (e : Ending) (w' : World) : Prop :=
  ∃ A n c g l z, e = .returned (.tuple #[.slice A n c, .int .i64 z]) ∧ n ≤ c ∧ c ≤ 9223372036854775807 ∧ w.heap.size ≤ g ∧ OwnS w' g t f A n l ∧ Ext w w' ∧ Hid ((l, z) = p)
theorem RetLS.nil0 {α : Type} {t : TypeId} {f : α → List Value} {p : List α × Int} {w w' : World} {z : Int} (hx : Ext w w') (h : ([], z) = p) : RetLS t f p w (.returned (.tuple #[.slice none 0 0, .int .i64 z])) w' :=
  ⟨none, 0, 0, w.heap.size, [], z, rfl, Nat.le_refl _, by omega, Nat.le_refl _, ⟨rfl, fun h => absurd h (by omega)⟩, hx, hide h⟩
theorem RetLS.of {α : Type} {t : TypeId} {size : Nat} {f : α → List Value} {p : List α × Int} {w w' : World} {v : Value} {l : List α} {z : Int} (h : OwnL w' w.heap.size t size f v l) (hf : ∀ x, (f x).length = size) (hs : 0 < size) (hx : Ext w w') (hp : (l, z) = p) : RetLS t f p w (.returned (.tuple #[v, .int .i64 z])) w' := by
  obtain ⟨A, c, g, rfl, h1, h2, h3, h4⟩ := h.own hf hs
  exact ⟨A, _, c, g, l, z, rfl, h2, h3, h1, h4, hx, hide hp⟩
theorem RetLS.low {α : Type} {t : TypeId} {f : α → List Value} {p : List α × Int} {w w0 w' : World} {e : Ending} (h : RetLS t f p w e w') (hx : Ext w0 w) : RetLS t f p w0 e w' := by
  obtain ⟨A, n, c, g, l, z, h1, h2, h3, h4, h5, h6, h7⟩ := h
  exact ⟨A, n, c, g, l, z, h1, h2, h3, Nat.le_trans hx.size h4, h5, hx.trans h6, h7⟩
/-- a list of the call's own, read -/
theorem OwnS.rd {α : Type} {w : World} {g : Nat} {t : TypeId} {size : Nat} {f : α → List Value} {A : Option Addr} {n c : Nat} {l : List α} (h : OwnS w g t f A n l) (hf : ∀ x, (f x).length = size) (h1 : n ≤ c) (h2 : c ≤ 9223372036854775807) : SliceOf w size f A n c l := h.slice hf h1 h2
set_option maxHeartbeats 1000000 in
theorem c_IsRoutable (A1 A2 : Option Addr) (n1 c1 n2 c2 : Nat) (ns : List Node) (ps : List Pipe) (w : World) (hs1 : SliceOf w 3 Node.cells A1 n1 c1 ns) (hs2 : SliceOf w 5 Pipe.cells A2 n2 c2 ps) (hnet : netB ns ps = true) (A3 : Option Addr) (c3 : Nat) (sup : List Int) (hs3 : SliceOf w 1 intC A3 n1 c3 sup) :
    Calls Tryz.prog 219 #[.agg #[.slice A1 n1 c1, .slice A2 n2 c2], .slice A3 n1 c3] w (Ret (.bool (routB ps n1 sup)) w) := by
  have hx0 : Ext w (w.alloc (.cells #[.slice A1 n1 c1, .slice A2 n2 c2] 45)) := Ext.alloc _ _
  have HNT := hide hnet
  have HP := hide (net_pipes hnet)
  clear hnet
  go_enter Tryz.func219, Tryz.ntmps219
  go_wp2_with fail
  refine (c_checkEven A1 A2 n1 c1 n2 c2 ns ps _ (hs1.ext hx0) (hs2.ext hx0) HNT.out A3 c3 sup (hs3.ext hx0)).mono ?_
  obtain ⟨z, HZ⟩ : ∃ z, Hid (codeRt ps n1 sup = z) := ⟨_, hide rfl⟩
  rw [HZ.out]
  rintro e w1 ⟨rfl, hx1⟩
  have hcl := hx1.cell
  have hsz := hx1.size
  by_cases h0 : z = 0
  · subst h0
    obtain ⟨hsb, hR⟩ := codeRt_ok HZ.out
    have HSB := hide hsb
    have HR := hide hR
    clear hsb hR
    go_wp2_with fail
    refine (c_routed A1 A2 n1 c1 n2 c2 ps _ (hs2.ext hx1.box) (by rw [hs1.len]; exact HP.out.1) (by rw [hs1.len]; exact HP.out.2) A3 c3 sup (hs3.ext hx1.box) (supB_bd HSB.out)).mono ?_
    rintro e w2 ⟨d3, d4, g, gf, gl, rfl, hI⟩
    have hX := hx1.box.trans hI.ext
    have hr3 := hI.row.cell 3
    simp at hr3
    have hrl := hI.row.lt
    have HSL := hide (hI.m.l.slice intC_len hI.c4.1 hI.c4.2)
    clear hI
    go_wp2_with fail
    refine (c_allWithin (some ⟨gl, 0, none⟩) n1 d4 _ 0 0 _ HSL.out).mono ?_
    rw [allB0]
    rintro e w' ⟨rfl, rfl⟩
    cases ha : (routed ps n1 sup).lf.all fun z => decide (z = 0)
    · have HR2 : Hid (routB ps n1 sup = false) := hide (by rw [← routR_code, HR.out, if_pos ha]; rfl)
      clear ha
      go_wp2_with fail
      go_ret
      exact Ret.of (by rw [HR2.out]; rfl) hX
    · have HR2 : Hid (routB ps n1 sup = true) := hide (by rw [← routR_code, HR.out, if_neg (by rw [ha]; decide)]; rfl)
      clear ha
      go_wp2_with fail
      go_ret
      exact Ret.of (by rw [HR2.out]; rfl) hX
  · have HR : Hid (routB ps n1 sup = false) := hide (by rw [← routR_code, codeRt_bad (by rw [HZ.out]; exact h0), HZ.out]; simpa using h0)
    have hb : (z == 0) = false := by rw [beq_eq_false_iff_ne]; exact h0
    go_wp2_with fail
    go_ret
    exact Ret.of (by rw [HR.out]; rfl) hx1.box
end Go.Proofs.YtfkpghdmljjegaaGreat

namespace Go.Proofs.YtfkpghdmljjegaaGreat
open Go.RowKit
set_option maxHeartbeats 1000000 in
theorem c_l20Code (A1 A2 : Option Addr) (n1 c1 n2 c2 : Nat) (ns : List Node) (ps : List Pipe) (A : Option Addr) (n c : Nat) (xs : List Contract) (w : World) (hs1 : SliceOf w 3 Node.cells A1 n1 c1 ns) (hs2 : SliceOf w 5 Pipe.cells A2 n2 c2 ps) (hs : SliceOf w 8 Contract.cells A n c xs) (hnm : ∀ x ∈ ns, x.name.size ≤ 1048576) :
    Calls Tryz.prog 232 #[.agg #[.slice A1 n1 c1, .slice A2 n2 c2], .slice A n c] w (Ret (.int .i64 (bookC n1 ns ps xs)) w) := by
  have hm1 := hs1.max
  have hp1 := hs1.cap
  have HNM := hide hnm
  clear hnm
  go_enter Tryz.func232, Tryz.ntmps232
  go_wp2_with fail
  refine (c_specIsNetwork A1 A2 n1 c1 n2 c2 ns ps _ (hs1.ext (Ext.alloc _ _)) (hs2.ext (Ext.alloc _ _)) HNM.out).mono ?_
  cases hN : netB ns ps
  · have HR := hide (show bookC n1 ns ps xs = 1 by unfold bookC; rw [hN]; rfl)
    rintro e w1 ⟨rfl, hx1⟩
    go_wp2_with fail
    go_ret
    exact Ret.int HR.out hx1.box
  rintro e w1 ⟨rfl, hx1⟩
  have hcl := hx1.cell
  go_wp2_with fail
  refine (c_l20Book A1 A2 n1 c1 n2 c2 A n c xs _ (by omega) (hs.ext hx1.box)).mono ?_
  cases hB : bookB n1 xs
  · have HR := hide (show bookC n1 ns ps xs = 3 by unfold bookC; rw [hN, hB]; rfl)
    rintro e w2 ⟨rfl, hx2⟩
    go_wp2_with fail
    go_ret
    exact Ret.int HR.out (hx1.box.trans hx2)
  · have HR := hide (show bookC n1 ns ps xs = 0 by unfold bookC; rw [hN, hB]; rfl)
    rintro e w2 ⟨rfl, hx2⟩
    go_wp2_with fail
    go_ret
    exact Ret.int HR.out (hx1.box.trans hx2)
set_option maxHeartbeats 1000000 in
theorem c_l21Code (A1 A2 : Option Addr) (n1 c1 n2 c2 : Nat) (ns : List Node) (ps : List Pipe) (A : Option Addr) (n c : Nat) (xs : List Contract) (B : Option Addr) (m d : Nat) (L : List Nomination) (w : World) (hs1 : SliceOf w 3 Node.cells A1 n1 c1 ns) (hs2 : SliceOf w 5 Pipe.cells A2 n2 c2 ps) (hs : SliceOf w 8 Contract.cells A n c xs) (hL : SliceOf w 4 Nomination.cells B m d L) (hnm : ∀ x ∈ ns, x.name.size ≤ 1048576) :
    Calls Tryz.prog 176 #[.agg #[.slice A1 n1 c1, .slice A2 n2 c2], .slice A n c, .slice B m d] w (Ret (.int .i64 (nomC n1 ns ps xs L)) w) := by
  have HNM := hide hnm
  clear hnm
  go_enter Tryz.func176, Tryz.ntmps176
  go_wp2_with fail
  refine (c_l20Code A1 A2 n1 c1 n2 c2 ns ps A n c xs _ (hs1.ext (Ext.alloc _ _)) (hs2.ext (Ext.alloc _ _)) (hs.ext (Ext.alloc _ _)) HNM.out).mono ?_
  by_cases hz : bookC n1 ns ps xs = 0
  · have hbk := book_zero hz
    have HOK := hide (book_hours hbk.2)
    clear hbk
    rw [hz]
    rintro e w1 ⟨rfl, hx1⟩
    go_wp2_with fail
    refine (c_l21List A n c xs B m d L _ (hs.ext hx1.box) (hL.ext hx1.box) HOK.out).mono ?_
    cases hb : nomsB xs L
    · have HR := hide (show nomC n1 ns ps xs L = 5 by unfold nomC; rw [if_pos hz, hb]; rfl)
      clear hz
      rintro e w2 ⟨rfl, hx2⟩
      go_wp2_with fail
      go_ret
      exact Ret.int HR.out (hx1.box.trans hx2)
    · have HR := hide (show nomC n1 ns ps xs L = 0 by unfold nomC; rw [if_pos hz, hb]; rfl)
      clear hz
      rintro e w2 ⟨rfl, hx2⟩
      go_wp2_with fail
      go_ret
      exact Ret.int HR.out (hx1.box.trans hx2)
  · have HR := hide (show nomC n1 ns ps xs L = bookC n1 ns ps xs by unfold nomC; rw [if_neg hz])
    have hz1 : (bookC n1 ns ps xs == 0) = false := by simpa using hz
    clear hz
    generalize bookC n1 ns ps xs = Z at *
    rintro e w1 ⟨rfl, hx1⟩
    go_wp2_with fail
    go_ret
    exact Ret.int HR.out hx1.box
end Go.Proofs.YtfkpghdmljjegaaGreat

namespace Go.Proofs.YtfkpghdmljjegaaGreat
open Go.RowKit
set_option maxHeartbeats 1000000 in
theorem c_l31Code (A1 A2 : Option Addr) (n1 c1 n2 c2 : Nat) (ns : List Node) (ps : List Pipe) (A : Option Addr) (n c : Nat) (xs : List Contract) (B : Option Addr) (m d : Nat) (L : List Nomination) (h : Int) (w : World) (hs1 : SliceOf w 3 Node.cells A1 n1 c1 ns) (hs2 : SliceOf w 5 Pipe.cells A2 n2 c2 ps) (hs : SliceOf w 8 Contract.cells A n c xs) (hL : SliceOf w 4 Nomination.cells B m d L) (hnm : ∀ x ∈ ns, x.name.size ≤ 1048576) : Calls Tryz.prog 100 #[.agg #[.slice A1 n1 c1, .slice A2 n2 c2], .slice A n c, .slice B m d, .int .i64 h] w (Ret (.int .i64 (setC n1 ns ps xs L h)) w) := by
  have hx0 : Ext w (w.alloc (.cells #[.slice A1 n1 c1, .slice A2 n2 c2] 45)) := Ext.alloc _ _
  have HLN := hide hs.len
  have hmx := hs.max
  have hcp := hs.cap
  have HNM := hide hnm
  clear hnm
  obtain ⟨z, HZ⟩ : ∃ z, Hid (nomC n1 ns ps xs L = z) := ⟨_, hide rfl⟩
  go_enter Tryz.func100, Tryz.ntmps100
  go_wp2_with fail
  refine (c_l21Code A1 A2 n1 c1 n2 c2 ns ps A n c xs B m d L _ (hs1.ext hx0) (hs2.ext hx0) (hs.ext hx0) (hL.ext hx0) HNM.out).mono ?_
  rw [HZ.out]
  rintro e w1 ⟨rfl, hx1⟩
  by_cases h0 : z = 0
  · subst h0
    have hb32 : n ≤ 32 := by
      have hb := (nomC_ok3 HZ.out).2.1
      simp only [bookB, Bool.and_eq_true, decide_eq_true_eq] at hb
      rw [HLN.out]; exact hb.1
    cases hh : inB h 0 47
    · have HR : Hid (setC n1 ns ps xs L h = 2) := hide (by unfold setC; rw [if_pos HZ.out, if_pos hh])
      go_wp2_with (go_at_call 136; refine (c_l20Hour h _).mono ?_; rw [hh]; rintro e w' ⟨rfl, rfl⟩)
      go_ret
      exact Ret.int HR.out (hx0.trans hx1)
    · have e1 : IntKind.i64.wrap (2 * (n : Int)) = 2 * n := IntWalk.i64_in _ (by omega)
      by_cases h20 : 20 < n
      · have HR : Hid (setC n1 ns ps xs L h = 7) := hide (by unfold setC; rw [if_pos HZ.out, if_neg (by rw [hh]; decide), if_pos (by rw [← HLN.out]; exact h20)])
        have hd : decide (40 < 2 * (n : Int)) = true := decide_eq_true (by omega)
        go_wp2_with (go_at_call 136; refine (c_l20Hour h _).mono ?_; rw [hh]; rintro e w' ⟨rfl, rfl⟩)
        go_ret
        exact Ret.int HR.out (hx0.trans hx1)
      · have HR : Hid (setC n1 ns ps xs L h = 0) := hide (by unfold setC; rw [if_pos HZ.out, if_neg (by rw [hh]; decide), if_neg (by rw [← HLN.out]; exact h20)])
        have hd : decide (40 < 2 * (n : Int)) = false := decide_eq_false (by omega)
        go_wp2_with (go_at_call 136; refine (c_l20Hour h _).mono ?_; rw [hh]; rintro e w' ⟨rfl, rfl⟩)
        go_ret
        exact Ret.int HR.out (hx0.trans hx1)
  · have HR : Hid (setC n1 ns ps xs L h = z) := hide (by unfold setC; rw [if_neg (by rw [HZ.out]; exact h0), HZ.out])
    have hb : (z == 0) = false := by rw [beq_eq_false_iff_ne]; exact h0
    go_wp2_with fail
    go_ret
    exact Ret.int HR.out (hx0.trans hx1)
/-- the scales and the orders of an hour, of the call's own -/
def RetSO (E : List Int) (O : List Order) (w : World) (e : Ending) (w' : World) : Prop :=
  ∃ v1 v2, e = .returned (.tuple #[v1, v2]) ∧ OwnL w' w.heap.size 2 1 intC v1 E ∧ OwnL w' w.heap.size 199 4 Order.cells v2 O ∧ Ext w w'
set_option maxHeartbeats 2000000 in
theorem c_l31Orders (A1 A2 : Option Addr) (n1 c1 n2 c2 : Nat) (ns : List Node) (ps : List Pipe) (A : Option Addr) (n c : Nat) (xs : List Contract) (B : Option Addr) (m d : Nat) (L : List Nomination) (h : Int) (w : World) (hs1 : SliceOf w 3 Node.cells A1 n1 c1 ns) (hs2 : SliceOf w 5 Pipe.cells A2 n2 c2 ps) (hs : SliceOf w 8 Contract.cells A n c xs) (hL : SliceOf w 4 Nomination.cells B m d L) (hnm : ∀ x ∈ ns, x.name.size ≤ 1048576) (hk : HrOk n1 ns ps xs L h) : Calls Tryz.prog 121 #[.agg #[.slice A1 n1 c1, .slice A2 n2 c2], .slice A n c, .slice B m d, .int .i64 h] w (RetSO (hrSc ps n1 xs L h) (hrOrd ps n1 xs L h) w) := by
  have hB := Row.new w 45 [.slice A1 n1 c1, .slice A2 n2 c2]
  have hx0 : Ext w (w.alloc (.cells #[.slice A1 n1 c1, .slice A2 n2 c2] 45)) := Ext.alloc _ _
  have HLN := hide hs.len
  have HNM := hide hnm
  have HK := hide hk
  have hn20 : n ≤ 20 := by rw [hs.len]; exact hk.le
  have HTO := hide (trn_ok hk.bk hk.nm h)
  have HIN := hide (fun x hx => ((nom_facts hk.bk hk.nm).2 x hx).1)
  clear hnm hk
  obtain ⟨ts, HTS⟩ : ∃ ts, Hid (trnL xs L h = ts) := ⟨_, hide rfl⟩
  obtain ⟨sc, HSC⟩ : ∃ sc, Hid (hrSc ps n1 xs L h = sc) := ⟨_, hide rfl⟩
  have hscl : sc.length = 4 := by rw [← HSC.out]; exact hrSc_len ps n1 xs L h
  obtain ⟨le, HLE⟩ : ∃ le, Hid (lessT ps n1 xs L h = le) := ⟨_, hide rfl⟩
  have hlel : le.length = n := by rw [← HLE.out, lessT_len, HLN.out]
  rw [HSC.out]
  rw [HTS.out] at HTO
  have HLO : Hid (∀ x ∈ le, 0 ≤ x.amount ∧ x.amount ≤ 30000) := hide (fun x hx => by
    rw [← HLE.out] at hx
    exact (less_ok HK.out.bk HK.out.nm h x hx).2.2.1)
  go_enter Tryz.func121, Tryz.ntmps121
  go_wp2_with fail
  refine (c_l31Transports A n c xs B m d L _ (hs.ext hx0) (hL.ext hx0) (by omega) (by rw [HLN.out]; exact HIN.out) h).mono ?_
  rintro e w1 ⟨v1, E1, rfl, ho1, HE1, hx1⟩
  obtain rfl : E1 = ts := by rw [HE1.out]; exact HTS.out
  have htl : E1.length = n := by rw [← HTS.out, trnL_len, HLN.out]
  obtain ⟨A4, c4, rfl, hs4⟩ := ho1.sl trn_len (by omega)
  rw [htl] at hs4
  rw [htl]
  have hb0 := (hB.ext hx1).cell 0
  have hb1 := (hB.ext hx1).cell 1
  simp at hb0 hb1
  have hbl := (hB.ext hx1).lt
  have hX1 := hx0.trans hx1
  go_wp2_with fail
  refine (c_l25Scales A1 A2 n1 c1 n2 c2 ns ps _ (hs1.ext hX1) (hs2.ext hX1) HNM.out HK.out.net A4 n c4 E1 hs4 (by omega) HTO.out).mono ?_
  rintro e w2 ⟨v2, E2, rfl, ho2, HE2, hx2⟩
  obtain rfl : E2 = sc := by rw [HE2.out, ← HTS.out]; exact HSC.out
  obtain ⟨A5, c5, rfl, hs5⟩ := ho2.sl intC_len (by omega)
  rw [hscl] at hs5 ho2
  rw [hscl]
  clear hb0 hb1 hbl
  have hX2 := hX1.trans hx2
  go_wp2_with fail
  refine (c_l24Scale A4 n c4 E1 A5 c5 E2 _ (hs4.ext hx2) hs5 (by omega) n1 HTO.out (by rw [← HSC.out]; exact hrSc_in _ _ _ _ _)).mono ?_
  rintro e w3 ⟨v3, E3, rfl, ho3, HE3, hx3⟩
  obtain rfl : E3 = le := by rw [HE3.out, ← HSC.out, ← HTS.out]; exact HLE.out
  obtain ⟨A6, c6, rfl, hs6⟩ := ho3.sl trn_len (by omega)
  rw [hlel] at hs6
  rw [hlel]
  have hX3 := hX2.trans hx3
  have ho23 := ho2.ext hx3
  have hO0 : OwnL (w3.alloc (.cells #[] 2)) w3.heap.size 2 1 intC (.slice (some ⟨w3.heap.size, 0, none⟩) 0 0) [] := own_new w3 w3.heap.size _ _ _ _ rfl (Nat.le_refl _)
  have hz1 := hX1.size
  have hz2 := hX3.size
  clear ho1 ho2 ho3 HE1 HE2 HE3
  go_wp2_with fail
  go_loopw [13, 14] (fun v i wr => ∃ (k : Nat) (T : List Int), k ≤ n ∧ i = .int .i64 k ∧ T.length = k ∧ Hid (T = (E3.map Trn.amount).take k) ∧ OwnL wr w3.heap.size 2 1 intC v T ∧ Ext w3 wr) (fun _ i _ => n - (intOf i).toNat)
  case atStart => exact ⟨0, [], Nat.zero_le _, rfl, rfl, hide rfl, hO0, Ext.alloc _ _⟩
  case round =>
    clear hO0
    obtain ⟨k, T, hk, rfl, hTk, HT, ho, hx⟩ := hrel
    by_cases hlt : k < n
    · obtain ⟨b, off, x, rfl, hb, hxk, hc⟩ := (hs6.ext hx).get hlt
      have hc2 := hc 2 _ rfl
      clear hc
      have HN : Hid (T ++ [x.amount] = (E3.map Trn.amount).take (k + 1)) := hide (by rw [List.take_add_one, List.getElem?_map, hxk, HT.out]; rfl)
      clear hxk
      have hxz := hx.size
      go_wp2_with (at_builtin; go_must (refine wpList_append_one rfl _ _ 24 rfl w3.heap.size 2 _ 1 8 Tryz.underlying24 int_info rfl (by decide) intC intC_len int_one' _ _ rfl (ho.ext (Ext.alloc _ _)) wr x.amount rfl _ rfl (by first | rfl | simp) (by omega) (by omega) (by first | omega | (simp; omega)) ?_))
      intro v4 w4 ho4 hext4
      have hx4 := hext4 w3 (Nat.le_refl _) (hx.and_alloc _)
      go_wp2_with fail
      go_roundw
      case rel => exact ⟨k + 1, _, by omega, by go_num, by simp; omega, HN, ho4, hx4⟩
      case measure => simp [intOf]; omega
    · obtain rfl : k = n := by omega
      have HTE : Hid (T = E3.map Trn.amount) := hide (by rw [HT.out, List.take_of_length_le (by rw [List.length_map]; omega)])
      have hX4 := hX3.trans hx
      obtain ⟨A7, c7, rfl, hs7⟩ := ho.sl intC_len (by omega)
      rw [hTk] at hs7
      rw [hTk]
      clear ho
      go_wp2_with fail
      refine (c_l22Orders A k c xs A7 c7 T _ (hs.ext hX4) hs7 (by omega) (by
        rw [HTE.out]
        intro z hz
        obtain ⟨y, hy, rfl⟩ := List.mem_map.1 hz
        exact HLO.out y hy)).mono ?_
      rintro e w5 ⟨v5, E5, rfl, ho5, HE5, hx5⟩
      have ho25 := ho23.ext (hx.trans hx5)
      have hzz := hx.size
      have HE6 : Hid (E5 = hrOrd ps n1 xs L h) := hide (by rw [HE5.out, HTE.out, ← HLE.out]; rfl)
      go_wp2_with fail
      go_ret2
      refine ⟨_, _, rfl, ho25.lowG hz1, ?_, hX4.trans hx5⟩
      rw [← HE6.out]
      exact ho5.lowG (by omega)
end Go.Proofs.YtfkpghdmljjegaaGreat

namespace Go.Proofs.YtfkpghdmljjegaaGreat
open Go.RowKit
theorem abs_eq (z : Int) : absI z = absZ z := rfl
theorem match_ways (x : Reading) (o : Order) : ((o.node == x.node) = false ∧ Hid (matchB x o = false)) ∨ ((o.node == x.node) = true ∧ decide (0 < o.amount) = true ∧ decide (0 < x.amount) = true ∧ Hid (matchB x o = true)) ∨
    ((o.node == x.node) = true ∧ decide (0 < o.amount) = true ∧ decide (0 < x.amount) = false ∧ decide (o.amount < 0) = false ∧ Hid (matchB x o = false)) ∨
    ((o.node == x.node) = true ∧ decide (0 < o.amount) = false ∧ decide (o.amount < 0) = true ∧ decide (x.amount < 0) = true ∧ Hid (matchB x o = true)) ∨
    ((o.node == x.node) = true ∧ decide (0 < o.amount) = false ∧ decide (o.amount < 0) = true ∧ decide (x.amount < 0) = false ∧ Hid (matchB x o = false)) ∨
    ((o.node == x.node) = true ∧ decide (0 < o.amount) = false ∧ decide (o.amount < 0) = false ∧ Hid (matchB x o = false)) := by
  unfold matchB Hid
  have h : decide (0 < o.amount) = true → decide (o.amount < 0) = false := by intro h; rw [decide_eq_true_eq] at h; rw [decide_eq_false_iff_not]; omega
  cases ho : decide (0 < o.amount)
  · cases (o.node == x.node) <;> cases decide (0 < x.amount) <;> cases decide (o.amount < 0) <;> cases decide (x.amount < 0) <;> simp
  · rw [h ho]
    cases (o.node == x.node) <;> cases decide (0 < x.amount) <;> cases decide (x.amount < 0) <;> simp
set_option maxHeartbeats 1000000 in
theorem c_matches (o : Order) (x : Reading) (w : World) :
    Calls Tryz.prog 252 #[.agg #[.int .i64 o.shipper, .int .i64 o.node, .int .i64 o.amount, .int .i64 o.cls], .agg #[.int .i64 x.node, .int .i64 x.amount]] w (Ret (.bool (matchB x o)) w) := by
  have hx : Ext w ((w.alloc (.cells o.cells.toArray 199)).alloc (.cells x.cells.toArray 176)) := (Ext.alloc _ _).and_alloc _
  rcases match_ways x o with ⟨h1, H⟩ | ⟨h1, h2, h3, H⟩ | ⟨h1, h2, h3, h4, H⟩ | ⟨h1, h2, h3, h4, H⟩ | ⟨h1, h2, h3, h4, H⟩ | ⟨h1, h2, h3, H⟩ <;>
  · rw [H.out]
    go_enter Tryz.func252, Tryz.ntmps252
    go_wp2_with fail
    go_ret
    exact Ret.bool rfl hx
/-- the places of the picked -/
def posM : Nat → List Bool → List Int
  | _, [] => []
  | k, true :: m => (k : Int) :: posM (k + 1) m
  | k, false :: m => posM (k + 1) m
theorem pos_snoc (b : Bool) : ∀ (k : Nat) (m : List Bool), posM k (m ++ [b]) = posM k m ++ if b = true then [((k + m.length : Nat) : Int)] else []
  | k, [] => by cases b <;> simp [posM]
  | k, true :: m => by
    have ih := pos_snoc b (k + 1) m
    simp only [List.cons_append, posM, ih, List.length_cons]
    rw [show k + 1 + m.length = k + (m.length + 1) by omega]
  | k, false :: m => by
    have ih := pos_snoc b (k + 1) m
    simp only [List.cons_append, posM, ih, List.length_cons]
    rw [show k + 1 + m.length = k + (m.length + 1) by omega]
theorem pick_snoc (b : Bool) (z : Int) : ∀ {m : List Bool} {l : List Int}, m.length = l.length → pickM (m ++ [b]) (l ++ [z]) = pickM m l ++ if b = true then [z] else []
  | [], [], _ => by cases b <;> simp [pickM]
  | [], _ :: _, h => by simp at h
  | _ :: _, [], h => by simp at h
  | true :: m, x :: l, h => by
    have ih := pick_snoc b z (m := m) (l := l) (by simpa using h)
    simp only [List.cons_append, pickM, ih]
  | false :: m, x :: l, h => by
    have ih := pick_snoc b z (m := m) (l := l) (by simpa using h)
    simp only [List.cons_append, pickM, ih]
theorem pos_at : ∀ {m : List Bool} {k j : Nat} {p : Int}, (posM k m)[j]? = some p → ∃ i : Nat, p = ((k + i : Nat) : Int) ∧ m[i]? = some true ∧ rankM m i = j
  | [], k, j, p, h => by simp [posM] at h
  | true :: m, k, 0, p, h => by
    simp [posM] at h
    exact ⟨0, by rw [← h]; simp, rfl, rfl⟩
  | true :: m, k, j + 1, p, h => by
    obtain ⟨i, h1, h2, h3⟩ := pos_at (m := m) (k := k + 1) (j := j) (p := p) (by simpa [posM] using h)
    exact ⟨i + 1, by rw [h1]; congr 1; omega, by simpa using h2, by simp [rankM, h3]⟩
  | false :: m, k, j, p, h => by
    obtain ⟨i, h1, h2, h3⟩ := pos_at (m := m) (k := k + 1) (j := j) (p := p) (by simpa [posM] using h)
    exact ⟨i + 1, by rw [h1]; congr 1; omega, by simpa using h2, by simp [rankM, h3]⟩
theorem pos_len : ∀ {m : List Bool} {l : List Int} {k : Nat}, m.length = l.length → (posM k m).length = (pickM m l).length
  | [], [], _, _ => rfl
  | [], _ :: _, _, h => by simp at h
  | _ :: _, [], _, h => by simp at h
  | true :: m, x :: l, k, h => by simp only [posM, pickM, List.length_cons]; rw [pos_len (k := k + 1) (m := m) (l := l) (by simpa using h)]
  | false :: m, x :: l, k, h => by simp only [posM, pickM]; rw [pos_len (k := k + 1) (m := m) (l := l) (by simpa using h)]
theorem rank_inj {m : List Bool} {i j : Nat} (hi : m[i]? = some true) (hj : m[j]? = some true) (h : rankM m i = rankM m j) : i = j := by
  induction m generalizing i j with
  | nil => simp at hi
  | cons b m ih =>
    cases i with
    | zero =>
      cases j with
      | zero => rfl
      | succ j => cases b <;> simp [rankM] at hi h
    | succ i =>
      cases j with
      | zero => cases b <;> simp [rankM] at hj h
      | succ j =>
        have : i = j := ih (by simpa using hi) (by simpa using hj) (by cases b <;> simpa [rankM] using h)
        omega
def marks (os : List Order) (x : Reading) : List Bool := os.map (matchB x)
theorem marks_len (os : List Order) (x : Reading) : (marks os x).length = os.length := by simp [marks]
theorem marks_at {os : List Order} {x : Reading} {i : Nat} {o : Order} (h : os[i]? = some o) : (marks os x)[i]? = some (matchB x o) := by simp [marks, h]
theorem marks_take {os : List Order} {x : Reading} {k : Nat} {o : Order} (h : os[k]? = some o) : marks (os.take (k + 1)) x = marks (os.take k) x ++ [matchB x o] := by
  unfold marks; rw [List.take_add_one, h, List.map_append]; rfl
theorem places_take {os : List Order} {x : Reading} {k : Nat} {o : Order} (h : os[k]? = some o) : posM 0 (marks (os.take (k + 1)) x) = posM 0 (marks (os.take k) x) ++ if matchB x o = true then [(k : Int)] else [] := by
  have hk := (List.getElem?_eq_some_iff.1 h).1
  rw [marks_take h, pos_snoc, marks_len, List.length_take, Nat.min_eq_left (by omega), Nat.zero_add]
theorem weights_take {os : List Order} {x : Reading} {k : Nat} {o : Order} (h : os[k]? = some o) : pickM (marks (os.take (k + 1)) x) (wts (os.take (k + 1)) x) = pickM (marks (os.take k) x) (wts (os.take k) x) ++ if matchB x o = true then [absI o.amount] else [] := by
  rw [marks_take h, show wts (os.take (k + 1)) x = wts (os.take k) x ++ [wt x o] by unfold wts; rw [List.take_add_one, h, List.map_append]; rfl, pick_snoc _ _ (by simp [marks, wts])]
  cases hm : matchB x o
  · rfl
  · rw [if_pos rfl, if_pos rfl, (wt_yes hm).1]; rfl
/-- no two readings at one node have one sign -/
def Sep (rs : List Reading) : Prop := ∀ (j k : Nat) (y x : Reading), j < k → rs[j]? = some y → rs[k]? = some x → clash y x = false
theorem sep_of {nn : Int} {rs : List Reading} (h : readsB nn rs = true) : Sep rs := by
  intro j k y x hjk hj hk
  unfold readsB at h
  rw [Bool.and_eq_true, List.all_eq_true] at h
  have h1 := h.2 k (List.mem_range.2 (List.getElem?_eq_some_iff.1 hk).1)
  rw [readOk_at hk, Bool.and_eq_true] at h1
  have h2 := h1.2
  simp only [Bool.not_eq_true', hasR, List.any_eq_false] at h2
  have h3 := h2 y (List.mem_of_getElem? (i := j) (by rw [List.getElem?_take, if_pos hjk]; exact hj))
  simpa using h3
theorem reads_mem {nn : Int} {rs : List Reading} (h : readsB nn rs = true) : ∀ x ∈ rs, (-30000 ≤ x.amount ∧ x.amount ≤ 30000) ∧ x.amount ≠ 0 := by
  intro x hx
  obtain ⟨k, hk⟩ := List.getElem?_of_mem hx
  unfold readsB at h
  rw [Bool.and_eq_true, List.all_eq_true] at h
  have h1 := h.2 k (List.mem_range.2 (List.getElem?_eq_some_iff.1 hk).1)
  rw [readOk_at hk, Bool.and_eq_true] at h1
  have h2 := h1.1
  simp only [readB, Bool.and_eq_true, inB_true, Bool.not_eq_true', beq_eq_false_iff_ne] at h2
  exact ⟨h2.1.2, h2.2⟩
theorem match_clash {x y : Reading} {o : Order} (h1 : matchB x o = true) (h2 : matchB y o = true) : clash y x = true := by
  simp only [matchB, clash, Bool.and_eq_true, Bool.or_eq_true, beq_iff_eq, decide_eq_true_eq] at *
  obtain ⟨a, b⟩ := h1
  obtain ⟨c, d⟩ := h2
  refine ⟨by omega, ?_⟩
  rcases b with b | b <;> rcases d with d | d
  · rw [decide_eq_true d.2, decide_eq_true b.2]
  · omega
  · omega
  · rw [decide_eq_false (by omega), decide_eq_false (by omega)]
/-- orders that no reading so far matches have got nothing -/
def Free (os : List Order) (rs : List Reading) (k : Nat) (g : List Int) : Prop := ∀ (i : Nat) (o : Order), os[i]? = some o → (∀ (j : Nat) (y : Reading), j < k → rs[j]? = some y → matchB y o = false) → g[i]? = some 0
theorem Free.hf {os : List Order} {rs : List Reading} {k : Nat} {g : List Int} {x : Reading} (h : Free os rs k g) (hs : Sep rs) (hx : rs[k]? = some x) : ∀ i : Nat, (marks os x)[i]? = some true → g[i]? = some 0 := by
  intro i hi
  unfold marks at hi
  rw [List.getElem?_map] at hi
  cases ho : os[i]? with
  | none => rw [ho] at hi; cases hi
  | some o =>
    rw [ho] at hi
    have hm : matchB x o = true := by simpa using hi
    refine h i o ho fun j y hj hy => ?_
    cases hc : matchB y o with
    | false => rfl
    | true => have := match_clash hm hc; rw [hs j k y x hj hy hx] at this; cases this
/-- some shares laid at their places -/
structure Laid (m : List Bool) (s : Int) (shf g : List Int) (j : Nat) (g2 : List Int) : Prop where
  len : g2.length = g.length
  no : ∀ i : Nat, m[i]? = some false → g2[i]? = g[i]?
  yes : ∀ i : Nat, m[i]? = some true → rankM m i < j → ∃ v, shf[rankM m i]? = some v ∧ g2[i]? = some (s * v)
theorem Laid.start (m : List Bool) (s : Int) (shf g : List Int) : Laid m s shf g 0 g := ⟨rfl, fun _ _ => rfl, fun i _ h => absurd h (by omega)⟩
theorem Laid.next {m : List Bool} {s : Int} {shf g g2 : List Int} {j i : Nat} {v : Int} (h : Laid m s shf g j g2) (hm : m[i]? = some true) (hr : rankM m i = j) (hv : shf[j]? = some v) (hl : i < g.length) : Laid m s shf g (j + 1) (g2.set i (s * v)) := by
  refine ⟨by rw [List.length_set]; exact h.len, fun p hp => ?_, fun p hp hpj => ?_⟩
  · rw [List.getElem?_set, if_neg (fun e => by subst e; rw [hm] at hp; cases hp)]
    exact h.no p hp
  · rw [List.getElem?_set]
    by_cases e : i = p
    · subst e
      rw [if_pos rfl, if_pos (by rw [h.len]; exact hl)]
      exact ⟨v, by rw [hr]; exact hv, rfl⟩
    · rw [if_neg e]
      refine h.yes p hp ?_
      have : rankM m p ≠ j := fun e2 => e (rank_inj hm hp (by rw [hr, e2]))
      omega
theorem rank_count : ∀ {m : List Bool} {l : List Int} {i : Nat}, m.length = l.length → m[i]? = some true → rankM m i < (pickM m l).length
  | [], _, i, _, h => by simp at h
  | _ :: _, [], _, h, _ => by simp at h
  | true :: m, x :: l, 0, _, _ => by simp [rankM, pickM]
  | false :: m, x :: l, 0, _, h => by simp at h
  | true :: m, x :: l, i + 1, hl, h => by
    have := rank_count (m := m) (l := l) (i := i) (by simpa using hl) (by simpa using h)
    simpa [rankM, pickM] using this
  | false :: m, x :: l, i + 1, hl, h => by
    have := rank_count (m := m) (l := l) (i := i) (by simpa using hl) (by simpa using h)
    simpa [rankM, pickM] using this
/-- a whole reading laid: the step of the allocation -/
theorem Laid.step {os : List Order} {rs : List Reading} {k : Nat} {x : Reading} {g g2 shf : List Int} (h : Laid (marks os x) (sgn x) shf g shf.length g2) (hF : Free os rs k g) (hSep : Sep rs) (hx : rs[k]? = some x) (hx0 : x.amount ≠ 0) (hg : g.length = os.length)
    (hs : 0 < sumZ (wts os x)) (hsh : Shares (absZ x.amount) (pickM (marks os x) (wts os x)) shf) :
    (∃ sh, Shares (absZ x.amount) (wts os x) sh ∧ g2 = addS (sgn x) g sh) ∧ Free os rs (k + 1) g2 := by
  have hml : (marks os x).length = (wts os x).length := by simp [marks, wts]
  refine ⟨alloc_step hx0 hg (by rw [h.len, hg]) hs (hF.hf hSep hx) hsh h.no (fun i hi => h.yes i hi (by rw [hsh.len]; exact rank_count hml hi)), ?_⟩
  intro i o ho hno
  rw [h.no i (by rw [marks_at ho, hno k x (by omega) hx])]
  exact hF i o ho fun j y hj hy => hno j y (by omega) hy
theorem Free.skip {os : List Order} {rs : List Reading} {k : Nat} {g : List Int} (h : Free os rs k g) : Free os rs (k + 1) g := fun i o ho hno => h i o ho fun j y hj hy => hno j y (by omega) hy
theorem Free.start (os : List Order) (rs : List Reading) : Free os rs 0 (List.replicate os.length 0) := fun i o ho _ => by
  rw [List.getElem?_replicate, if_pos (List.getElem?_eq_some_iff.1 ho).1]
/-- nothing is picked exactly if the weights are none -/
theorem pos_nil {os : List Order} {x : Reading} (hx : x.amount ≠ 0) (h : posM 0 (marks os x) = []) : sumZ (wts os x) = 0 := by
  refine wts_zero hx fun o ho => ?_
  cases hm : matchB x o with
  | false => rfl
  | true =>
    exfalso
    obtain ⟨i, hi⟩ := List.getElem?_of_mem ho
    have h1 := rank_count (m := marks os x) (l := wts os x) (i := i) (by simp [marks, wts]) (by rw [marks_at hi, hm])
    rw [← pos_len (k := 0) (by simp [marks, wts]), h] at h1
    cases h1
theorem pos_some {os : List Order} {x : Reading} (h : posM 0 (marks os x) ≠ []) : 0 < sumZ (wts os x) ∧ 0 < sumZ (pickM (marks os x) (wts os x)) := by
  obtain ⟨p, hp⟩ : ∃ p, (posM 0 (marks os x))[0]? = some p := by
    cases hc : posM 0 (marks os x) with
    | nil => exact absurd hc h
    | cons a l => exact ⟨a, rfl⟩
  obtain ⟨i, _, hi, _⟩ := pos_at hp
  unfold marks at hi
  rw [List.getElem?_map] at hi
  cases ho : os[i]? with
  | none => rw [ho] at hi; cases hi
  | some o =>
    rw [ho] at hi
    have h1 := wts_pos (List.mem_of_getElem? ho) (by simpa using hi : matchB x o = true)
    refine ⟨h1, ?_⟩
    by_cases hx : x.amount = 0
    · exfalso
      have hm : matchB x o = true := by simpa using hi
      simp only [matchB, Bool.and_eq_true, Bool.or_eq_true, decide_eq_true_eq] at hm
      omega
    rw [pick_sum (by simp [marks, wts]) (fun j y hm hy => ?_)]
    · exact h1
    · unfold marks at hm
      rw [List.getElem?_map] at hm
      rw [wts, List.getElem?_map] at hy
      cases ho : os[j]? with
      | none => rw [ho] at hm; cases hm
      | some o =>
        rw [ho] at hm hy
        simp at hm hy
        rw [← hy]; exact wt_no hm hx
end Go.Proofs.YtfkpghdmljjegaaGreat

namespace Go.Proofs.YtfkpghdmljjegaaGreat
open Go.RowKit
theorem post_one (y : Posting) : ∀ u ∈ y.cells, u.oneCell' = true := by intro u hu; simp [Posting.cells] at hu; rcases hu with rfl | rfl | rfl | rfl <;> rfl
end Go.Proofs.YtfkpghdmljjegaaGreat

namespace Go.Proofs.YtfkpghdmljjegaaGreat
open Go.RowKit Go.ChangeShapes Go.WideShapes Go.ChangeAt Go.Deep Go.Joins
theorem own : ownKnob Tryz.prog.godebug = none := by kernel_rfl
theorem laidOut : laidOutB Tryz.prog = true := by kernel_rfl
end Go.Proofs.YtfkpghdmljjegaaGreat
