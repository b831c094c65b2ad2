/-
  FnExactSettleHour: for every input the law returns true and its arguments read as before. No condition.
-/
import Derived.Test.YtpgbmhpddgjccaaGreatSa10
import Derived.Test.YtpgbmhpddgjccaaGreatSa11
import Derived.Test.YtpgbmhpddgjccaaGreatSc06
import Derived.Test.YtpgbmhpddgjccaaGreatSa38
import Derived.Test.YtpgbmhpddgjccaaGreatSa17
namespace Go.Proofs.YtpgbmhpddgjccaaGreat
open Go.RowKit Go.ChangeShapes Go.WideShapes Go.ChangeAt Go.Deep Go.Joins
/-- values read in a world -/
def KNet (ns : List Node) (ps : List Pipe) : Value → World → Prop := fun v w => ∃ B1 k1 d1 B2 k2 d2, v = .agg #[.slice B1 k1 d1, .slice B2 k2 d2] ∧ SliceOf w 3 Node.cells B1 k1 d1 ns ∧ SliceOf w 5 Pipe.cells B2 k2 d2 ps
def KSl {α : Type} (size : Nat) (f : α → List Value) (L : List α) : Value → World → Prop := fun v w => ∃ B k d, v = .slice B k d ∧ SliceOf w size f B k d L
def KTm (band percent price : Int) (ts : List Tier) : Value → World → Prop := fun v w => ∃ B k d, v = .agg #[.int .i64 band, .int .i64 percent, .int .i64 price, .slice B k d] ∧ SliceOf w 2 Tier.cells B k d ts
def KStl (X : Stl) : Value → World → Prop := fun v w => ∃ (A0 A1 A2 A3 A4 : Option Addr) (n0 c0 n1 c1 n2 c2 n3 c3 n4 c4 : Nat), v = .agg #[.slice A0 n0 c0, .slice A1 n1 c1, .slice A2 n2 c2, .slice A3 n3 c3, .slice A4 n4 c4] ∧ StlAt w A0 A1 A2 A3 A4 n0 c0 n1 c1 n2 c2 n3 c3 n4 c4 X
def KSC (R : Stl × Int) : Value → World → Prop := fun v w => ∃ a, v = .tuple #[a, .int .i64 R.2] ∧ KStl R.1 a w
theorem stKNet (ns : List Node) (ps : List Pipe) : stK (KNet ns ps) := fun _ _ _ ⟨B1, k1, d1, B2, k2, d2, h, h1, h2⟩ hx => ⟨B1, k1, d1, B2, k2, d2, h, h1.ext hx, h2.ext hx⟩
theorem stKSl {α : Type} (size : Nat) (f : α → List Value) (L : List α) : stK (KSl size f L) := fun _ _ _ ⟨B, k, d, h, h1⟩ hx => ⟨B, k, d, h, h1.ext hx⟩
theorem stKTm (band percent price : Int) (ts : List Tier) : stK (KTm band percent price ts) := fun _ _ _ ⟨B, k, d, h, h1⟩ hx => ⟨B, k, d, h, h1.ext hx⟩
theorem stKStl (X : Stl) : stK (KStl X) := fun _ _ _ ⟨A0, A1, A2, A3, A4, n0, c0, n1, c1, n2, c2, n3, c3, n4, c4, h, h1⟩ hx => ⟨A0, A1, A2, A3, A4, n0, c0, n1, c1, n2, c2, n3, c3, n4, c4, h, h1.ext hx⟩
theorem stKSC (R : Stl × Int) : stK (KSC R) := fun _ _ _ ⟨a, h, h1⟩ hx => ⟨a, h, stKStl _ _ _ _ h1 hx⟩
theorem k_toNet (A1 A2 : Option Addr) (n1 c1 n2 c2 : Nat) (ns : List Node) (ps : List Pipe) (w : World) (h1 : SliceOf w 3 Node.cells A1 n1 c1 ns) (h2 : SliceOf w 5 Pipe.cells A2 n2 c2 ps) (m1 : n1 ≤ 1048576) (m2 : n2 ≤ 1048576) :
    Calls Tryz.prog 21 #[.agg #[.slice A1 n1 c1, .slice A2 n2 c2]] w (fun e w' => ∃ v, e = .returned v ∧ KNet ns ps v w' ∧ Ext w w') := by
  have l1 : ns.length ≤ 1048576 := by rw [← h1.len]; exact m1
  have l2 : ps.length ≤ 1048576 := by rw [← h2.len]; exact m2
  refine (c_toNetwork A1 A2 n1 c1 n2 c2 ns ps w h1 h2 m1 m2).mono fun e w' ⟨g1, g2, he, _, _, r1, r2, hx⟩ => ?_
  exact ⟨_, he, ⟨_, _, _, _, _, _, rfl, r1.slice node_len rfl (by omega), r2.slice pipe_len rfl (by omega)⟩, hx⟩
theorem k_toBook (A : Option Addr) (n c : Nat) (xs : List Contract) (w : World) (h : SliceOf w 8 Contract.cells A n c xs) (hn : n ≤ 1048576) :
    Calls Tryz.prog 22 #[.slice A n c] w (fun e w' => ∃ v, e = .returned v ∧ KSl 8 Contract.cells xs v w' ∧ Ext w w') := by
  have l1 : xs.length ≤ 1048576 := by rw [← h.len]; exact hn
  refine (c_toContractS A n c xs w h hn).mono fun e w' ⟨g, he, _, r, hx⟩ => ?_
  exact ⟨_, he, ⟨_, _, _, rfl, r.slice contract_len rfl (by omega)⟩, hx⟩
theorem k_toNoms (A : Option Addr) (n c : Nat) (xs : List Nomination) (w : World) (h : SliceOf w 4 Nomination.cells A n c xs) (hn : n ≤ 1048576) :
    Calls Tryz.prog 23 #[.slice A n c] w (fun e w' => ∃ v, e = .returned v ∧ KSl 4 Nomination.cells xs v w' ∧ Ext w w') := by
  have l1 : xs.length ≤ 1048576 := by rw [← h.len]; exact hn
  refine (c_toNominationS A n c xs w h hn).mono fun e w' ⟨g, he, _, r, hx⟩ => ?_
  exact ⟨_, he, ⟨_, _, _, rfl, r.slice nomination_len rfl (by omega)⟩, hx⟩
theorem k_toReads (A : Option Addr) (n c : Nat) (xs : List Reading) (w : World) (h : SliceOf w 2 Reading.cells A n c xs) (hn : n ≤ 1048576) :
    Calls Tryz.prog 65 #[.slice A n c] w (fun e w' => ∃ v, e = .returned v ∧ KSl 2 Reading.cells xs v w' ∧ Ext w w') := by
  have l1 : xs.length ≤ 1048576 := by rw [← h.len]; exact hn
  refine (c_toReadingS A n c xs w h hn).mono fun e w' ⟨g, he, _, r, hx⟩ => ?_
  exact ⟨_, he, ⟨_, _, _, rfl, r.slice reading_len rfl (by omega)⟩, hx⟩
theorem k_toTerms (band percent price : Int) (K : Option Addr) (kn kc : Nat) (ts : List Tier) (w : World) (hs : SliceOf w 2 Tier.cells K kn kc ts) (hn : kn ≤ 1048576) :
    Calls Tryz.prog 55 #[.agg #[.int .i64 band, .int .i64 percent, .int .i64 price, .slice K kn kc]] w (fun e w' => ∃ v, e = .returned v ∧ KTm band percent price ts v w' ∧ Ext w w') := by
  have l1 : ts.length ≤ 1048576 := by rw [← hs.len]; exact hn
  refine (c_toTerms band percent price K kn kc ts w hs hn).mono fun e w' ⟨g, he, _, r, hx⟩ => ?_
  exact ⟨_, he, ⟨_, _, _, rfl, r.slice (fun _ => rfl) rfl (by omega)⟩, hx⟩
theorem k_spec {ns : List Node} {ps : List Pipe} {xs : List Contract} {L : List Nomination} {h : Int} {rd : List Reading} {band percent price : Int} {ts : List Tier} {v1 v3 v5 v8 v10 : Value} {w : World} (k1 : KNet ns ps v1 w) (k3 : KSl 8 Contract.cells xs v3 w) (k5 : KSl 4 Nomination.cells L v5 w) (k8 : KSl 2 Reading.cells rd v8 w) (k10 : KTm band percent price ts v10 w) (hnm : ∀ x ∈ ns, x.name.size ≤ 1048576) :
    Calls Tryz.prog 64 #[v1, v3, v5, .int .i64 h, v8, v10] w (fun e w' => ∃ v, e = .returned v ∧ KSC (shV ns.length ns ps xs L h rd band percent price ts) v w' ∧ Ext w w') := by
  obtain ⟨B1, a1, b1, B2, a2, b2, rfl, s1, s2⟩ := k1
  obtain ⟨B3, a3, b3, rfl, s3⟩ := k3
  obtain ⟨B4, a4, b4, rfl, s4⟩ := k5
  obtain ⟨B5, a5, b5, rfl, s5⟩ := k8
  obtain ⟨B6, a6, b6, rfl, s6⟩ := k10
  obtain rfl := s1.len
  refine (c_specSettleHour B1 B2 _ b1 a2 b2 ns ps B3 a3 b3 xs B4 a4 b4 L h B5 a5 b5 rd band percent price B6 a6 b6 ts w s1 s2 s3 s4 s5 s6 hnm).mono ?_
  rintro e w' ⟨A0, A1, A2, A3, A4, n0, c0, n1, c1, n2, c2, n3, c3, n4, c4, X, z, rfl, hX, hx, HP⟩
  rw [← HP.out]
  exact ⟨_, rfl, ⟨_, rfl, A0, A1, A2, A3, A4, n0, c0, n1, c1, n2, c2, n3, c3, n4, c4, rfl, hX⟩, hx⟩
theorem k_impl {ns : List Node} {ps : List Pipe} {xs : List Contract} {L : List Nomination} {h : Int} {rd : List Reading} {band percent price : Int} {ts : List Tier} {v1 v3 v5 v8 v10 : Value} {w : World} (k1 : KNet ns ps v1 w) (k3 : KSl 8 Contract.cells xs v3 w) (k5 : KSl 4 Nomination.cells L v5 w) (k8 : KSl 2 Reading.cells rd v8 w) (k10 : KTm band percent price ts v10 w) :
    Calls Tryz.prog 42 #[v1, v3, v5, .int .i64 h, v8, v10] w (fun e w' => ∃ v, e = .returned v ∧ KSC (shV ns.length ns ps xs L h rd band percent price ts) v w' ∧ Ext w w') := by
  obtain ⟨B1, a1, b1, B2, a2, b2, rfl, s1, s2⟩ := k1
  obtain ⟨B3, a3, b3, rfl, s3⟩ := k3
  obtain ⟨B4, a4, b4, rfl, s4⟩ := k5
  obtain ⟨B5, a5, b5, rfl, s5⟩ := k8
  obtain ⟨B6, a6, b6, rfl, s6⟩ := k10
  obtain rfl := s1.len
  refine (c_SettleHour B1 B2 _ b1 a2 b2 ns ps B3 a3 b3 xs B4 a4 b4 L h B5 a5 b5 rd band percent price B6 a6 b6 ts w s1 s2 s3 s4 s5 s6).mono ?_
  rintro e w' ⟨A0, A1, A2, A3, A4, n0, c0, n1, c1, n2, c2, n3, c3, n4, c4, X, z, rfl, hX, hx, HP⟩
  rw [← HP.out]
  exact ⟨_, rfl, ⟨_, rfl, A0, A1, A2, A3, A4, n0, c0, n1, c1, n2, c2, n3, c3, n4, c4, rfl, hX.at_⟩, hx⟩
/-- a list of integers' rows lies apart from a row of empty slices -/
theorem apart5 {α : Type} {w : World} {g size : Nat} {t : TypeId} {f : α → List Value} {A : Option Addr} {n c : Nat} {xs : List α} (h : SliceOf w size f A n c xs) (hr : Row w g t [.slice none 0 0, .slice none 0 0, .slice none 0 0, .slice none 0 0, .slice none 0 0]) (hf : ∀ x, ∃ k, (f x)[0]? = some (.int .i64 k)) (b : Nat) (hb : blkOf A n = some b) : b ≠ g := by
  intro e
  subst e
  unfold blkOf at hb
  split at hb
  · cases hb
  · obtain ⟨h1, h2, h3, h4⟩ := h
    obtain ⟨b', off, hA, hlt, hc⟩ := h4 (by omega)
    rw [hA] at hb
    simp at hb
    subst hb
    obtain ⟨x, hx⟩ : ∃ x, xs[0]? = some x := ⟨_, List.getElem?_eq_getElem (by omega)⟩
    obtain ⟨k, hk⟩ := hf x
    have := hc 0 x hx 0 _ hk
    rw [hr.cell] at this
    match off + 0 * size + 0, this with
    | 0, h => simp at h
    | 1, h => simp at h
    | 2, h => simp at h
    | 3, h => simp at h
    | 4, h => simp at h
    | q + 5, h => simp at h
/-- a settlement lies apart from a new row of slices -/
theorem stl_far {w w' : World} {g : Nat} {A0 A1 A2 A3 A4 : Option Addr} {n0 c0 n1 c1 n2 c2 n3 c3 n4 c4 : Nat} {X : Stl} (h : StlAt w A0 A1 A2 A3 A4 n0 c0 n1 c1 n2 c2 n3 c3 n4 c4 X) (hr : Row w g 28 [.slice none 0 0, .slice none 0 0, .slice none 0 0, .slice none 0 0, .slice none 0 0]) (k : Turn (fun b => b = g) w w') : StlAt w' A0 A1 A2 A3 A4 n0 c0 n1 c1 n2 c2 n3 c3 n4 c4 X :=
  ⟨h.s0.turn k (apart5 h.s0 hr (fun _ => ⟨_, rfl⟩)), h.s1.turn k (apart5 h.s1 hr (fun _ => ⟨_, rfl⟩)), h.s2.turn k (apart5 h.s2 hr (fun _ => ⟨_, rfl⟩)), h.s3.turn k (apart5 h.s3 hr (fun _ => ⟨_, rfl⟩)), h.s4.turn k (apart5 h.s4 hr (fun _ => ⟨_, rfl⟩))⟩
theorem gotOf_le (os : List Order) (rs : List Reading) : (gotOf os rs).length ≤ os.length := by
  by_cases hx : ∃ g, Alloc os (List.replicate os.length 0) rs g
  · obtain ⟨g, hg⟩ := hx
    rw [gotOf_eq hg]
    exact Nat.le_of_eq (hg.law (by simp)).1
  · unfold gotOf
    rw [dif_neg hx]
    exact Nat.zero_le _
theorem shV_small {n1 : Nat} {ns : List Node} {ps : List Pipe} {xs : List Contract} {L : List Nomination} {h : Int} {rd : List Reading} {band percent price : Int} {ts : List Tier} :
    StlSm (shV n1 ns ps xs L h rd band percent price ts).1.sc.length (shV n1 ns ps xs L h rd band percent price ts).1.os.length (shV n1 ns ps xs L h rd band percent price ts).1.got.length (shV n1 ns ps xs L h rd band percent price ts).1.chg.length (shV n1 ns ps xs L h rd band percent price ts).1.psn.length := by
  unfold shV
  split
  · rename_i h0
    have hk := (shC_ok h0).2.2.2.le
    have h1 := hrOrd_len ps n1 xs L h
    have h2 := gotOf_le (hrOrd ps n1 xs L h) rd
    have h3 := hrSc_len ps n1 xs L h
    have h4 := postsL_len band percent price ts (accL id (hrOrd ps n1 xs L h) (gotOf (hrOrd ps n1 xs L h) rd) (hrOrd ps n1 xs L h).length) (accL pos0 (hrOrd ps n1 xs L h) (gotOf (hrOrd ps n1 xs L h) rd) (hrOrd ps n1 xs L h).length) 16
    exact ⟨by show (hrSc ps n1 xs L h).length ≤ _; omega, by show (hrOrd ps n1 xs L h).length ≤ _; omega, by show (gotOf (hrOrd ps n1 xs L h) rd).length ≤ _; omega, Nat.le_trans (Nat.le_of_eq (accL_len _ _ _ _)) (by omega), Nat.le_trans h4 (by omega)⟩
  · exact ⟨by simp [zeroS], by simp [zeroS], by simp [zeroS], by simp [zeroS], by simp [zeroS]⟩
set_option maxRecDepth 20000 in
set_option maxHeartbeats 16000000 in
theorem law_SettleHour (A1 A2 : Option Addr) (n1 c1 n2 c2 : Nat) (ns : List Node) (ps : List Pipe) (A : Option Addr) (n c : Nat) (xs : List Contract) (B : Option Addr) (m d : Nat) (L : List Nomination) (h : Int) (R : Option Addr) (nr cr : Nat) (rd : List Reading) (band percent price : Int) (K : Option Addr) (kn kc : Nat) (ts : List Tier) (w : World) (h1 : SliceOf w 3 Node.cells A1 n1 c1 ns) (h2 : SliceOf w 5 Pipe.cells A2 n2 c2 ps) (hs : SliceOf w 8 Contract.cells A n c xs) (hL : SliceOf w 4 Nomination.cells B m d L) (hR : SliceOf w 2 Reading.cells R nr cr rd) (hK : SliceOf w 2 Tier.cells K kn kc ts) (hnm : Named0 ns) :
    Calls Tryz.prog 10 #[.agg #[.slice A1 n1 c1, .slice A2 n2 c2], .slice A n c, .slice B m d, .int .i64 h, .slice R nr cr, .agg #[.int .i64 band, .int .i64 percent, .int .i64 price, .slice K kn kc]] w (Ret (.bool true) w) := by
  obtain ⟨W0, HW0⟩ : ∃ W0, Hid ((w.alloc (.cells #[.slice A1 n1 c1, .slice A2 n2 c2] 34)).alloc (.cells #[.int .i64 band, .int .i64 percent, .int .i64 price, .slice K kn kc] 91) = W0) := ⟨_, hide rfl⟩
  have hN : Row W0 w.heap.size 34 [.slice A1 n1 c1, .slice A2 n2 c2] := by rw [← HW0.out]; exact (Row.new w 34 [.slice A1 n1 c1, .slice A2 n2 c2]).ext (Ext.alloc _ _)
  have hT : Row W0 (w.heap.size + 1) 91 [.int .i64 band, .int .i64 percent, .int .i64 price, .slice K kn kc] := by rw [← HW0.out]; exact Row.newG (W := w.alloc (.cells #[.slice A1 n1 c1, .slice A2 n2 c2] 34)) _ [.int .i64 band, .int .i64 percent, .int .i64 price, .slice K kn kc] (by simp)
  have hx0 : Ext w W0 := by rw [← HW0.out]; exact (Ext.alloc _ _).and_alloc _
  have HNM := hide hnm
  have hcap := hs.cap
  have hmax := hs.max
  have hcapL := hL.cap
  have hmaxL := hL.max
  have hcapR := hR.cap
  have hmaxR := hR.max
  have hcapK := hK.cap
  have hmaxK := hK.max
  clear hnm
  have hNr := hN.ext ((Ext.refl W0))
  have hb0 := hNr.cell 0
  have hb1 := hNr.cell 1
  simp at hb0 hb1
  have hbl := hNr.lt
  go_enter Tryz.func10, Tryz.ntmps10
  go_wp2_with fail
  rw [HW0.out]
  refine (c_szNetwork A1 A2 n1 c1 n2 c2 ns 1048576 _ (h1.ext hx0) h2.cap h2.max HNM.out (by omega) (by omega)).mono ?_
  rintro e w1 ⟨z, rfl, hx1, rfl | ⟨hz0, hz1, ⟨m1, hnm⟩, m2⟩⟩
  · go_wp2_with fail
    go_ret
    exact Ret.bool rfl (hx0.trans hx1)
  have hz' : ¬ z < 0 := by omega
  clear hNr hb0 hb1 hbl
  go_wp2_with fail
  refine (c_szContractS A n c z _ hcap hmax (by omega) (by omega)).mono ?_
  by_cases hzn : z < (n : Int)
  · rw [if_pos hzn]
    rintro e w' ⟨rfl, rfl⟩
    go_wp2_with fail
    go_ret
    exact Ret.bool rfl (hx0.trans hx1)
  rw [if_neg hzn]
  rintro e w' ⟨rfl, rfl⟩
  have m3 : n ≤ 1048576 := by omega
  have hz'' : ¬ z - (n : Int) < 0 := by omega
  go_wp2_with fail
  refine (c_szNominationS B m d (z - n) _ hcapL hmaxL (by omega) (by omega)).mono ?_
  by_cases hzm : z - (n : Int) < (m : Int)
  · rw [if_pos hzm]
    rintro e w' ⟨rfl, rfl⟩
    go_wp2_with fail
    go_ret
    exact Ret.bool rfl (hx0.trans hx1)
  rw [if_neg hzm]
  rintro e w' ⟨rfl, rfl⟩
  have m4 : m ≤ 1048576 := by omega
  have hz3 : ¬ z - (n : Int) - (m : Int) < 0 := by omega
  go_wp2_with fail
  refine (c_szReadingS R nr cr (z - n - m) _ hcapR hmaxR (by omega) (by omega)).mono ?_
  by_cases hzr : z - (n : Int) - (m : Int) < (nr : Int)
  · rw [if_pos hzr]
    rintro e w' ⟨rfl, rfl⟩
    go_wp2_with fail
    go_ret
    exact Ret.bool rfl (hx0.trans hx1)
  rw [if_neg hzr]
  rintro e w' ⟨rfl, rfl⟩
  have m5 : nr ≤ 1048576 := by omega
  have hz4 : ¬ z - (n : Int) - (m : Int) - (nr : Int) < 0 := by omega
  have hTr := hT.ext (hx1)
  have y0 := hTr.cell 0
  have y1 := hTr.cell 1
  have y2 := hTr.cell 2
  have y3 := hTr.cell 3
  simp at y0 y1 y2 y3
  have hyl := hTr.lt
  go_wp2_with fail
  refine (c_szTerms band percent price (z - n - m - nr) K kn kc _ hcapK hmaxK (by omega) (by omega)).mono ?_
  by_cases hzk : z - (n : Int) - (m : Int) - (nr : Int) < (kn : Int)
  · rw [if_pos hzk]
    rintro e w2 ⟨rfl, hx2⟩
    go_wp2_with fail
    go_ret
    exact Ret.bool rfl ((hx0.trans hx1).trans hx2)
  rw [if_neg hzk]
  rintro e w2 ⟨rfl, hx2⟩
  have m6 : kn ≤ 1048576 := by omega
  have hz5 : ¬ z - (n : Int) - (m : Int) - (nr : Int) - (kn : Int) < 0 := by omega
  clear hTr y0 y1 y2 y3 hyl
  have HNS := hide (show ∀ x ∈ ns, x.name.size ≤ 1048576 from fun x hx => named_sz hnm x hx)
  have HL1 := hide h1.len
  have HL2 := hide h2.len
  have HL3 := hide hs.len
  have HL4 := hide hL.len
  have HL5 := hide hR.len
  have HL6 := hide hK.len
  have l1 : ns.length ≤ 1048576 := by rw [← HL1.out]; exact m1
  have l2 : ps.length ≤ 1048576 := by rw [← HL2.out]; exact m2
  have l3 : xs.length ≤ 1048576 := by rw [← HL3.out]; exact m3
  have l4 : L.length ≤ 1048576 := by rw [← HL4.out]; exact m4
  have l5 : rd.length ≤ 1048576 := by rw [← HL5.out]; exact m5
  have l6 : ts.length ≤ 1048576 := by rw [← HL6.out]; exact m6
  obtain ⟨RR, HRR⟩ : ∃ RR, Hid (shV ns.length ns ps xs L h rd band percent price ts = RR) := ⟨_, hide rfl⟩
  have HSM := hide (shV_small (n1 := ns.length) (ns := ns) (ps := ps) (xs := xs) (L := L) (h := h) (rd := rd) (band := band) (percent := percent) (price := price) (ts := ts))
  rw [HRR.out] at HSM
  have hx02 := hx1.trans hx2
  have X2 := hx0.trans hx02
  clear hnm hz0 hz1 hz' hz'' hz3 hz4 hzn hzm hzr hzk
  go_wp2_with fail
  refine wp_region_KP [KC (.agg #[.slice A1 n1 c1, .slice A2 n2 c2]), KNet ns ps, KC (.slice A n c), KSl 8 Contract.cells xs, KC (.slice B m d), KSl 4 Nomination.cells L, KC (.int .i64 h), KC (.slice R nr cr), KSl 2 Reading.cells rd, KC (.agg #[.int .i64 band, .int .i64 percent, .int .i64 price, .slice K kn kc]), KTm band percent price ts, KSC RR, KSC RR, KStl RR.1, KC (.int .i64 RR.2), KR w2.heap.size 28 [.slice none 0 0, .slice none 0 0, .slice none 0 0, .slice none 0 0, .slice none 0 0]]
    [0, 1, 2, 3, 4, 5, 6, 7, 8, 9, 10, 11, 12, 13, 15] [14] [[], [0], [], [0, 1, 2], [], [0, 1, 2, 3, 4], [], [], [0, 1, 2, 3, 4, 5, 7], [], [0, 1, 2, 3, 4, 5, 7, 8, 9], [0, 1, 2, 3, 4, 5, 6, 7, 8, 9, 10], [0, 1, 2, 3, 4, 5, 6, 7, 8, 9, 10, 11], [0, 1, 2, 3, 4, 5, 6, 7, 8, 9, 10, 11, 12], [0, 1, 2, 3, 4, 5, 6, 7, 8, 9, 10, 11, 12], [], [0, 1, 2, 3, 4, 5, 6, 7, 8, 9, 10, 11, 12, 13, 15], [0, 1, 2, 3, 4, 5, 6, 7, 8, 9, 10, 11, 12, 13, 14, 15, 16]] [] (.one [] 16 (.last [17])) (by kernel_rfl) (by kernel_rfl) (by intro c a w d v h; cases d <;> exact h) (by simp) ⟨stKC _, stKNet _ _, stKC _, stKSl _ _ _, stKC _, stKSl _ _ _, stKC _, stKC _, stKSl _ _ _, stKC _, stKTm _ _ _ _, stKSC _, stKSC _, stKStl _, stKC _, stKR _ _ _, trivial⟩ ?_ ?_ ?_
  · refine ⟨?_, ?_, ?_, ?_, ?_, ?_, ?_, ?_, ?_, ?_, ?_, ?_, ?_, ?_, ?_, trivial⟩
    · intro ts wx hts hX hd
      obtain ⟨t0, ts0, rfl, hts0⟩ := vcons hts
      obtain ⟨t1, ts1, rfl, hts1⟩ := vcons hts0
      obtain ⟨t2, ts2, rfl, hts2⟩ := vcons hts1
      obtain ⟨t3, ts3, rfl, hts3⟩ := vcons hts2
      obtain ⟨t4, ts4, rfl, hts4⟩ := vcons hts3
      obtain ⟨t5, ts5, rfl, hts5⟩ := vcons hts4
      obtain ⟨t6, ts6, rfl, hts6⟩ := vcons hts5
      obtain ⟨t7, ts7, rfl, hts7⟩ := vcons hts6
      obtain ⟨t8, ts8, rfl, hts8⟩ := vcons hts7
      obtain ⟨t9, ts9, rfl, hts9⟩ := vcons hts8
      obtain ⟨t10, ts10, rfl, hts10⟩ := vcons hts9
      obtain ⟨t11, ts11, rfl, hts11⟩ := vcons hts10
      obtain ⟨t12, ts12, rfl, hts12⟩ := vcons hts11
      obtain ⟨t13, ts13, rfl, hts13⟩ := vcons hts12
      obtain ⟨t14, ts14, rfl, hts14⟩ := vcons hts13
      obtain ⟨t15, ts15, rfl, hts15⟩ := vcons hts14
      obtain ⟨t16, ts16, rfl, hts16⟩ := vcons hts15
      obtain ⟨t17, ts17, rfl, hts17⟩ := vcons hts16
      obtain rfl := vnil hts17
      clear hts hts0 hts1 hts2 hts3 hts4 hts5 hts6 hts7 hts8 hts9 hts17
      simp only [putAll, nthO, Act.put, List.setIfInBounds_toArray, List.set_cons_succ, List.set_cons_zero]
      have hNr := hN.ext ((hx02).trans hX)
      have hb0 := hNr.cell 0
      have hb1 := hNr.cell 1
      simp at hb0 hb1
      have hbl := hNr.lt
      go_wp2_with fail
      exact ⟨Ext.refl _, _, rfl, rfl⟩
    · intro ts wx hts hX hd
      obtain ⟨t0, ts0, rfl, hts0⟩ := vcons hts
      obtain ⟨t1, ts1, rfl, hts1⟩ := vcons hts0
      obtain ⟨t2, ts2, rfl, hts2⟩ := vcons hts1
      obtain ⟨t3, ts3, rfl, hts3⟩ := vcons hts2
      obtain ⟨t4, ts4, rfl, hts4⟩ := vcons hts3
      obtain ⟨t5, ts5, rfl, hts5⟩ := vcons hts4
      obtain ⟨t6, ts6, rfl, hts6⟩ := vcons hts5
      obtain ⟨t7, ts7, rfl, hts7⟩ := vcons hts6
      obtain ⟨t8, ts8, rfl, hts8⟩ := vcons hts7
      obtain ⟨t9, ts9, rfl, hts9⟩ := vcons hts8
      obtain ⟨t10, ts10, rfl, hts10⟩ := vcons hts9
      obtain ⟨t11, ts11, rfl, hts11⟩ := vcons hts10
      obtain ⟨t12, ts12, rfl, hts12⟩ := vcons hts11
      obtain ⟨t13, ts13, rfl, hts13⟩ := vcons hts12
      obtain ⟨t14, ts14, rfl, hts14⟩ := vcons hts13
      obtain ⟨t15, ts15, rfl, hts15⟩ := vcons hts14
      obtain ⟨t16, ts16, rfl, hts16⟩ := vcons hts15
      obtain ⟨t17, ts17, rfl, hts17⟩ := vcons hts16
      obtain rfl := vnil hts17
      clear hts hts0 hts1 hts2 hts3 hts4 hts5 hts6 hts7 hts8 hts9 hts17
      simp only [putAll, nthO, Act.put, List.setIfInBounds_toArray, List.set_cons_succ, List.set_cons_zero]
      obtain ⟨rfl, -⟩ := hd
      go_wp2_with fail
      refine (k_toNet A1 A2 n1 c1 n2 c2 ns ps _ (h1.ext ((X2).trans hX)) (h2.ext ((X2).trans hX)) m1 m2).mono ?_
      rintro e wy ⟨v, rfl, hk, hxy⟩
      go_wp2_with fail
      exact ⟨hxy, _, rfl, hk⟩
    · intro ts wx hts hX hd
      obtain ⟨t0, ts0, rfl, hts0⟩ := vcons hts
      obtain ⟨t1, ts1, rfl, hts1⟩ := vcons hts0
      obtain ⟨t2, ts2, rfl, hts2⟩ := vcons hts1
      obtain ⟨t3, ts3, rfl, hts3⟩ := vcons hts2
      obtain ⟨t4, ts4, rfl, hts4⟩ := vcons hts3
      obtain ⟨t5, ts5, rfl, hts5⟩ := vcons hts4
      obtain ⟨t6, ts6, rfl, hts6⟩ := vcons hts5
      obtain ⟨t7, ts7, rfl, hts7⟩ := vcons hts6
      obtain ⟨t8, ts8, rfl, hts8⟩ := vcons hts7
      obtain ⟨t9, ts9, rfl, hts9⟩ := vcons hts8
      obtain ⟨t10, ts10, rfl, hts10⟩ := vcons hts9
      obtain ⟨t11, ts11, rfl, hts11⟩ := vcons hts10
      obtain ⟨t12, ts12, rfl, hts12⟩ := vcons hts11
      obtain ⟨t13, ts13, rfl, hts13⟩ := vcons hts12
      obtain ⟨t14, ts14, rfl, hts14⟩ := vcons hts13
      obtain ⟨t15, ts15, rfl, hts15⟩ := vcons hts14
      obtain ⟨t16, ts16, rfl, hts16⟩ := vcons hts15
      obtain ⟨t17, ts17, rfl, hts17⟩ := vcons hts16
      obtain rfl := vnil hts17
      clear hts hts0 hts1 hts2 hts3 hts4 hts5 hts6 hts7 hts8 hts9 hts17
      simp only [putAll, nthO, Act.put, List.setIfInBounds_toArray, List.set_cons_succ, List.set_cons_zero]
      go_wp2_with fail
      exact ⟨Ext.refl _, _, rfl, rfl⟩
    · intro ts wx hts hX hd
      obtain ⟨t0, ts0, rfl, hts0⟩ := vcons hts
      obtain ⟨t1, ts1, rfl, hts1⟩ := vcons hts0
      obtain ⟨t2, ts2, rfl, hts2⟩ := vcons hts1
      obtain ⟨t3, ts3, rfl, hts3⟩ := vcons hts2
      obtain ⟨t4, ts4, rfl, hts4⟩ := vcons hts3
      obtain ⟨t5, ts5, rfl, hts5⟩ := vcons hts4
      obtain ⟨t6, ts6, rfl, hts6⟩ := vcons hts5
      obtain ⟨t7, ts7, rfl, hts7⟩ := vcons hts6
      obtain ⟨t8, ts8, rfl, hts8⟩ := vcons hts7
      obtain ⟨t9, ts9, rfl, hts9⟩ := vcons hts8
      obtain ⟨t10, ts10, rfl, hts10⟩ := vcons hts9
      obtain ⟨t11, ts11, rfl, hts11⟩ := vcons hts10
      obtain ⟨t12, ts12, rfl, hts12⟩ := vcons hts11
      obtain ⟨t13, ts13, rfl, hts13⟩ := vcons hts12
      obtain ⟨t14, ts14, rfl, hts14⟩ := vcons hts13
      obtain ⟨t15, ts15, rfl, hts15⟩ := vcons hts14
      obtain ⟨t16, ts16, rfl, hts16⟩ := vcons hts15
      obtain ⟨t17, ts17, rfl, hts17⟩ := vcons hts16
      obtain rfl := vnil hts17
      clear hts hts0 hts1 hts2 hts3 hts4 hts5 hts6 hts7 hts8 hts9 hts17
      simp only [putAll, nthO, Act.put, List.setIfInBounds_toArray, List.set_cons_succ, List.set_cons_zero]
      obtain ⟨-, -, rfl, -⟩ := hd
      go_wp2_with fail
      refine (k_toBook A n c xs _ (hs.ext ((X2).trans hX)) m3).mono ?_
      rintro e wy ⟨v, rfl, hk, hxy⟩
      go_wp2_with fail
      exact ⟨hxy, _, rfl, hk⟩
    · intro ts wx hts hX hd
      obtain ⟨t0, ts0, rfl, hts0⟩ := vcons hts
      obtain ⟨t1, ts1, rfl, hts1⟩ := vcons hts0
      obtain ⟨t2, ts2, rfl, hts2⟩ := vcons hts1
      obtain ⟨t3, ts3, rfl, hts3⟩ := vcons hts2
      obtain ⟨t4, ts4, rfl, hts4⟩ := vcons hts3
      obtain ⟨t5, ts5, rfl, hts5⟩ := vcons hts4
      obtain ⟨t6, ts6, rfl, hts6⟩ := vcons hts5
      obtain ⟨t7, ts7, rfl, hts7⟩ := vcons hts6
      obtain ⟨t8, ts8, rfl, hts8⟩ := vcons hts7
      obtain ⟨t9, ts9, rfl, hts9⟩ := vcons hts8
      obtain ⟨t10, ts10, rfl, hts10⟩ := vcons hts9
      obtain ⟨t11, ts11, rfl, hts11⟩ := vcons hts10
      obtain ⟨t12, ts12, rfl, hts12⟩ := vcons hts11
      obtain ⟨t13, ts13, rfl, hts13⟩ := vcons hts12
      obtain ⟨t14, ts14, rfl, hts14⟩ := vcons hts13
      obtain ⟨t15, ts15, rfl, hts15⟩ := vcons hts14
      obtain ⟨t16, ts16, rfl, hts16⟩ := vcons hts15
      obtain ⟨t17, ts17, rfl, hts17⟩ := vcons hts16
      obtain rfl := vnil hts17
      clear hts hts0 hts1 hts2 hts3 hts4 hts5 hts6 hts7 hts8 hts9 hts17
      simp only [putAll, nthO, Act.put, List.setIfInBounds_toArray, List.set_cons_succ, List.set_cons_zero]
      go_wp2_with fail
      exact ⟨Ext.refl _, _, rfl, rfl⟩
    · intro ts wx hts hX hd
      obtain ⟨t0, ts0, rfl, hts0⟩ := vcons hts
      obtain ⟨t1, ts1, rfl, hts1⟩ := vcons hts0
      obtain ⟨t2, ts2, rfl, hts2⟩ := vcons hts1
      obtain ⟨t3, ts3, rfl, hts3⟩ := vcons hts2
      obtain ⟨t4, ts4, rfl, hts4⟩ := vcons hts3
      obtain ⟨t5, ts5, rfl, hts5⟩ := vcons hts4
      obtain ⟨t6, ts6, rfl, hts6⟩ := vcons hts5
      obtain ⟨t7, ts7, rfl, hts7⟩ := vcons hts6
      obtain ⟨t8, ts8, rfl, hts8⟩ := vcons hts7
      obtain ⟨t9, ts9, rfl, hts9⟩ := vcons hts8
      obtain ⟨t10, ts10, rfl, hts10⟩ := vcons hts9
      obtain ⟨t11, ts11, rfl, hts11⟩ := vcons hts10
      obtain ⟨t12, ts12, rfl, hts12⟩ := vcons hts11
      obtain ⟨t13, ts13, rfl, hts13⟩ := vcons hts12
      obtain ⟨t14, ts14, rfl, hts14⟩ := vcons hts13
      obtain ⟨t15, ts15, rfl, hts15⟩ := vcons hts14
      obtain ⟨t16, ts16, rfl, hts16⟩ := vcons hts15
      obtain ⟨t17, ts17, rfl, hts17⟩ := vcons hts16
      obtain rfl := vnil hts17
      clear hts hts0 hts1 hts2 hts3 hts4 hts5 hts6 hts7 hts8 hts9 hts17
      simp only [putAll, nthO, Act.put, List.setIfInBounds_toArray, List.set_cons_succ, List.set_cons_zero]
      obtain ⟨-, -, -, -, rfl, -⟩ := hd
      go_wp2_with fail
      refine (k_toNoms B m d L _ (hL.ext ((X2).trans hX)) m4).mono ?_
      rintro e wy ⟨v, rfl, hk, hxy⟩
      go_wp2_with fail
      exact ⟨hxy, _, rfl, hk⟩
    · intro ts wx hts hX hd
      obtain ⟨t0, ts0, rfl, hts0⟩ := vcons hts
      obtain ⟨t1, ts1, rfl, hts1⟩ := vcons hts0
      obtain ⟨t2, ts2, rfl, hts2⟩ := vcons hts1
      obtain ⟨t3, ts3, rfl, hts3⟩ := vcons hts2
      obtain ⟨t4, ts4, rfl, hts4⟩ := vcons hts3
      obtain ⟨t5, ts5, rfl, hts5⟩ := vcons hts4
      obtain ⟨t6, ts6, rfl, hts6⟩ := vcons hts5
      obtain ⟨t7, ts7, rfl, hts7⟩ := vcons hts6
      obtain ⟨t8, ts8, rfl, hts8⟩ := vcons hts7
      obtain ⟨t9, ts9, rfl, hts9⟩ := vcons hts8
      obtain ⟨t10, ts10, rfl, hts10⟩ := vcons hts9
      obtain ⟨t11, ts11, rfl, hts11⟩ := vcons hts10
      obtain ⟨t12, ts12, rfl, hts12⟩ := vcons hts11
      obtain ⟨t13, ts13, rfl, hts13⟩ := vcons hts12
      obtain ⟨t14, ts14, rfl, hts14⟩ := vcons hts13
      obtain ⟨t15, ts15, rfl, hts15⟩ := vcons hts14
      obtain ⟨t16, ts16, rfl, hts16⟩ := vcons hts15
      obtain ⟨t17, ts17, rfl, hts17⟩ := vcons hts16
      obtain rfl := vnil hts17
      clear hts hts0 hts1 hts2 hts3 hts4 hts5 hts6 hts7 hts8 hts9 hts17
      simp only [putAll, nthO, Act.put, List.setIfInBounds_toArray, List.set_cons_succ, List.set_cons_zero]
      go_wp2_with fail
      exact ⟨Ext.refl _, _, rfl, rfl⟩
    · intro ts wx hts hX hd
      obtain ⟨t0, ts0, rfl, hts0⟩ := vcons hts
      obtain ⟨t1, ts1, rfl, hts1⟩ := vcons hts0
      obtain ⟨t2, ts2, rfl, hts2⟩ := vcons hts1
      obtain ⟨t3, ts3, rfl, hts3⟩ := vcons hts2
      obtain ⟨t4, ts4, rfl, hts4⟩ := vcons hts3
      obtain ⟨t5, ts5, rfl, hts5⟩ := vcons hts4
      obtain ⟨t6, ts6, rfl, hts6⟩ := vcons hts5
      obtain ⟨t7, ts7, rfl, hts7⟩ := vcons hts6
      obtain ⟨t8, ts8, rfl, hts8⟩ := vcons hts7
      obtain ⟨t9, ts9, rfl, hts9⟩ := vcons hts8
      obtain ⟨t10, ts10, rfl, hts10⟩ := vcons hts9
      obtain ⟨t11, ts11, rfl, hts11⟩ := vcons hts10
      obtain ⟨t12, ts12, rfl, hts12⟩ := vcons hts11
      obtain ⟨t13, ts13, rfl, hts13⟩ := vcons hts12
      obtain ⟨t14, ts14, rfl, hts14⟩ := vcons hts13
      obtain ⟨t15, ts15, rfl, hts15⟩ := vcons hts14
      obtain ⟨t16, ts16, rfl, hts16⟩ := vcons hts15
      obtain ⟨t17, ts17, rfl, hts17⟩ := vcons hts16
      obtain rfl := vnil hts17
      clear hts hts0 hts1 hts2 hts3 hts4 hts5 hts6 hts7 hts8 hts9 hts17
      simp only [putAll, nthO, Act.put, List.setIfInBounds_toArray, List.set_cons_succ, List.set_cons_zero]
      go_wp2_with fail
      exact ⟨Ext.refl _, _, rfl, rfl⟩
    · intro ts wx hts hX hd
      obtain ⟨t0, ts0, rfl, hts0⟩ := vcons hts
      obtain ⟨t1, ts1, rfl, hts1⟩ := vcons hts0
      obtain ⟨t2, ts2, rfl, hts2⟩ := vcons hts1
      obtain ⟨t3, ts3, rfl, hts3⟩ := vcons hts2
      obtain ⟨t4, ts4, rfl, hts4⟩ := vcons hts3
      obtain ⟨t5, ts5, rfl, hts5⟩ := vcons hts4
      obtain ⟨t6, ts6, rfl, hts6⟩ := vcons hts5
      obtain ⟨t7, ts7, rfl, hts7⟩ := vcons hts6
      obtain ⟨t8, ts8, rfl, hts8⟩ := vcons hts7
      obtain ⟨t9, ts9, rfl, hts9⟩ := vcons hts8
      obtain ⟨t10, ts10, rfl, hts10⟩ := vcons hts9
      obtain ⟨t11, ts11, rfl, hts11⟩ := vcons hts10
      obtain ⟨t12, ts12, rfl, hts12⟩ := vcons hts11
      obtain ⟨t13, ts13, rfl, hts13⟩ := vcons hts12
      obtain ⟨t14, ts14, rfl, hts14⟩ := vcons hts13
      obtain ⟨t15, ts15, rfl, hts15⟩ := vcons hts14
      obtain ⟨t16, ts16, rfl, hts16⟩ := vcons hts15
      obtain ⟨t17, ts17, rfl, hts17⟩ := vcons hts16
      obtain rfl := vnil hts17
      clear hts hts0 hts1 hts2 hts3 hts4 hts5 hts6 hts7 hts8 hts9 hts17
      simp only [putAll, nthO, Act.put, List.setIfInBounds_toArray, List.set_cons_succ, List.set_cons_zero]
      obtain ⟨-, -, -, -, -, -, rfl, -⟩ := hd
      go_wp2_with fail
      refine (k_toReads R nr cr rd _ (hR.ext ((X2).trans hX)) m5).mono ?_
      rintro e wy ⟨v, rfl, hk, hxy⟩
      go_wp2_with fail
      exact ⟨hxy, _, rfl, hk⟩
    · intro ts wx hts hX hd
      obtain ⟨t0, ts0, rfl, hts0⟩ := vcons hts
      obtain ⟨t1, ts1, rfl, hts1⟩ := vcons hts0
      obtain ⟨t2, ts2, rfl, hts2⟩ := vcons hts1
      obtain ⟨t3, ts3, rfl, hts3⟩ := vcons hts2
      obtain ⟨t4, ts4, rfl, hts4⟩ := vcons hts3
      obtain ⟨t5, ts5, rfl, hts5⟩ := vcons hts4
      obtain ⟨t6, ts6, rfl, hts6⟩ := vcons hts5
      obtain ⟨t7, ts7, rfl, hts7⟩ := vcons hts6
      obtain ⟨t8, ts8, rfl, hts8⟩ := vcons hts7
      obtain ⟨t9, ts9, rfl, hts9⟩ := vcons hts8
      obtain ⟨t10, ts10, rfl, hts10⟩ := vcons hts9
      obtain ⟨t11, ts11, rfl, hts11⟩ := vcons hts10
      obtain ⟨t12, ts12, rfl, hts12⟩ := vcons hts11
      obtain ⟨t13, ts13, rfl, hts13⟩ := vcons hts12
      obtain ⟨t14, ts14, rfl, hts14⟩ := vcons hts13
      obtain ⟨t15, ts15, rfl, hts15⟩ := vcons hts14
      obtain ⟨t16, ts16, rfl, hts16⟩ := vcons hts15
      obtain ⟨t17, ts17, rfl, hts17⟩ := vcons hts16
      obtain rfl := vnil hts17
      clear hts hts0 hts1 hts2 hts3 hts4 hts5 hts6 hts7 hts8 hts9 hts17
      simp only [putAll, nthO, Act.put, List.setIfInBounds_toArray, List.set_cons_succ, List.set_cons_zero]
      have hTr := hT.ext ((hx02).trans hX)
      have y0 := hTr.cell 0
      have y1 := hTr.cell 1
      have y2 := hTr.cell 2
      have y3 := hTr.cell 3
      simp at y0 y1 y2 y3
      have hyl := hTr.lt
      go_wp2_with fail
      exact ⟨Ext.refl _, _, rfl, rfl⟩
    · intro ts wx hts hX hd
      obtain ⟨t0, ts0, rfl, hts0⟩ := vcons hts
      obtain ⟨t1, ts1, rfl, hts1⟩ := vcons hts0
      obtain ⟨t2, ts2, rfl, hts2⟩ := vcons hts1
      obtain ⟨t3, ts3, rfl, hts3⟩ := vcons hts2
      obtain ⟨t4, ts4, rfl, hts4⟩ := vcons hts3
      obtain ⟨t5, ts5, rfl, hts5⟩ := vcons hts4
      obtain ⟨t6, ts6, rfl, hts6⟩ := vcons hts5
      obtain ⟨t7, ts7, rfl, hts7⟩ := vcons hts6
      obtain ⟨t8, ts8, rfl, hts8⟩ := vcons hts7
      obtain ⟨t9, ts9, rfl, hts9⟩ := vcons hts8
      obtain ⟨t10, ts10, rfl, hts10⟩ := vcons hts9
      obtain ⟨t11, ts11, rfl, hts11⟩ := vcons hts10
      obtain ⟨t12, ts12, rfl, hts12⟩ := vcons hts11
      obtain ⟨t13, ts13, rfl, hts13⟩ := vcons hts12
      obtain ⟨t14, ts14, rfl, hts14⟩ := vcons hts13
      obtain ⟨t15, ts15, rfl, hts15⟩ := vcons hts14
      obtain ⟨t16, ts16, rfl, hts16⟩ := vcons hts15
      obtain ⟨t17, ts17, rfl, hts17⟩ := vcons hts16
      obtain rfl := vnil hts17
      clear hts hts0 hts1 hts2 hts3 hts4 hts5 hts6 hts7 hts8 hts9 hts17
      simp only [putAll, nthO, Act.put, List.setIfInBounds_toArray, List.set_cons_succ, List.set_cons_zero]
      obtain ⟨-, -, -, -, -, -, -, -, rfl, -⟩ := hd
      go_wp2_with fail
      refine (k_toTerms band percent price K kn kc ts _ (hK.ext ((X2).trans hX)) m6).mono ?_
      rintro e wy ⟨v, rfl, hk, hxy⟩
      go_wp2_with fail
      exact ⟨hxy, _, rfl, hk⟩
    · intro ts wx hts hX hd
      obtain ⟨t0, ts0, rfl, hts0⟩ := vcons hts
      obtain ⟨t1, ts1, rfl, hts1⟩ := vcons hts0
      obtain ⟨t2, ts2, rfl, hts2⟩ := vcons hts1
      obtain ⟨t3, ts3, rfl, hts3⟩ := vcons hts2
      obtain ⟨t4, ts4, rfl, hts4⟩ := vcons hts3
      obtain ⟨t5, ts5, rfl, hts5⟩ := vcons hts4
      obtain ⟨t6, ts6, rfl, hts6⟩ := vcons hts5
      obtain ⟨t7, ts7, rfl, hts7⟩ := vcons hts6
      obtain ⟨t8, ts8, rfl, hts8⟩ := vcons hts7
      obtain ⟨t9, ts9, rfl, hts9⟩ := vcons hts8
      obtain ⟨t10, ts10, rfl, hts10⟩ := vcons hts9
      obtain ⟨t11, ts11, rfl, hts11⟩ := vcons hts10
      obtain ⟨t12, ts12, rfl, hts12⟩ := vcons hts11
      obtain ⟨t13, ts13, rfl, hts13⟩ := vcons hts12
      obtain ⟨t14, ts14, rfl, hts14⟩ := vcons hts13
      obtain ⟨t15, ts15, rfl, hts15⟩ := vcons hts14
      obtain ⟨t16, ts16, rfl, hts16⟩ := vcons hts15
      obtain ⟨t17, ts17, rfl, hts17⟩ := vcons hts16
      obtain rfl := vnil hts17
      clear hts hts0 hts1 hts2 hts3 hts4 hts5 hts6 hts7 hts8 hts9 hts17
      simp only [putAll, nthO, Act.put, List.setIfInBounds_toArray, List.set_cons_succ, List.set_cons_zero]
      obtain ⟨-, k1, -, k3, -, k5, rfl, -, k8, -, k10, -⟩ := hd
      go_wp2_with fail
      refine (k_spec k1 k3 k5 k8 k10 HNS.out).mono ?_
      rw [HRR.out]
      rintro e wy ⟨v, rfl, hk, hxy⟩
      go_wp2_with fail
      exact ⟨hxy, _, rfl, hk⟩
    · intro ts wx hts hX hd
      obtain ⟨t0, ts0, rfl, hts0⟩ := vcons hts
      obtain ⟨t1, ts1, rfl, hts1⟩ := vcons hts0
      obtain ⟨t2, ts2, rfl, hts2⟩ := vcons hts1
      obtain ⟨t3, ts3, rfl, hts3⟩ := vcons hts2
      obtain ⟨t4, ts4, rfl, hts4⟩ := vcons hts3
      obtain ⟨t5, ts5, rfl, hts5⟩ := vcons hts4
      obtain ⟨t6, ts6, rfl, hts6⟩ := vcons hts5
      obtain ⟨t7, ts7, rfl, hts7⟩ := vcons hts6
      obtain ⟨t8, ts8, rfl, hts8⟩ := vcons hts7
      obtain ⟨t9, ts9, rfl, hts9⟩ := vcons hts8
      obtain ⟨t10, ts10, rfl, hts10⟩ := vcons hts9
      obtain ⟨t11, ts11, rfl, hts11⟩ := vcons hts10
      obtain ⟨t12, ts12, rfl, hts12⟩ := vcons hts11
      obtain ⟨t13, ts13, rfl, hts13⟩ := vcons hts12
      obtain ⟨t14, ts14, rfl, hts14⟩ := vcons hts13
      obtain ⟨t15, ts15, rfl, hts15⟩ := vcons hts14
      obtain ⟨t16, ts16, rfl, hts16⟩ := vcons hts15
      obtain ⟨t17, ts17, rfl, hts17⟩ := vcons hts16
      obtain rfl := vnil hts17
      clear hts hts0 hts1 hts2 hts3 hts4 hts5 hts6 hts7 hts8 hts9 hts17
      simp only [putAll, nthO, Act.put, List.setIfInBounds_toArray, List.set_cons_succ, List.set_cons_zero]
      obtain ⟨-, -, -, -, -, -, -, -, -, -, -, hk, -⟩ := hd
      go_wp2_with fail
      exact ⟨Ext.refl _, _, rfl, hk⟩
    · intro ts wx hts hX hd
      obtain ⟨t0, ts0, rfl, hts0⟩ := vcons hts
      obtain ⟨t1, ts1, rfl, hts1⟩ := vcons hts0
      obtain ⟨t2, ts2, rfl, hts2⟩ := vcons hts1
      obtain ⟨t3, ts3, rfl, hts3⟩ := vcons hts2
      obtain ⟨t4, ts4, rfl, hts4⟩ := vcons hts3
      obtain ⟨t5, ts5, rfl, hts5⟩ := vcons hts4
      obtain ⟨t6, ts6, rfl, hts6⟩ := vcons hts5
      obtain ⟨t7, ts7, rfl, hts7⟩ := vcons hts6
      obtain ⟨t8, ts8, rfl, hts8⟩ := vcons hts7
      obtain ⟨t9, ts9, rfl, hts9⟩ := vcons hts8
      obtain ⟨t10, ts10, rfl, hts10⟩ := vcons hts9
      obtain ⟨t11, ts11, rfl, hts11⟩ := vcons hts10
      obtain ⟨t12, ts12, rfl, hts12⟩ := vcons hts11
      obtain ⟨t13, ts13, rfl, hts13⟩ := vcons hts12
      obtain ⟨t14, ts14, rfl, hts14⟩ := vcons hts13
      obtain ⟨t15, ts15, rfl, hts15⟩ := vcons hts14
      obtain ⟨t16, ts16, rfl, hts16⟩ := vcons hts15
      obtain ⟨t17, ts17, rfl, hts17⟩ := vcons hts16
      obtain rfl := vnil hts17
      clear hts hts0 hts1 hts2 hts3 hts4 hts5 hts6 hts7 hts8 hts9 hts17
      simp only [putAll, nthO, Act.put, List.setIfInBounds_toArray, List.set_cons_succ, List.set_cons_zero]
      obtain ⟨-, -, -, -, -, -, -, -, -, -, -, -, ⟨a, rfl, hk⟩, -⟩ := hd
      go_wp2_with fail
      exact ⟨Ext.refl _, _, rfl, hk⟩
    · intro ts wx hts hX hd
      obtain ⟨t0, ts0, rfl, hts0⟩ := vcons hts
      obtain ⟨t1, ts1, rfl, hts1⟩ := vcons hts0
      obtain ⟨t2, ts2, rfl, hts2⟩ := vcons hts1
      obtain ⟨t3, ts3, rfl, hts3⟩ := vcons hts2
      obtain ⟨t4, ts4, rfl, hts4⟩ := vcons hts3
      obtain ⟨t5, ts5, rfl, hts5⟩ := vcons hts4
      obtain ⟨t6, ts6, rfl, hts6⟩ := vcons hts5
      obtain ⟨t7, ts7, rfl, hts7⟩ := vcons hts6
      obtain ⟨t8, ts8, rfl, hts8⟩ := vcons hts7
      obtain ⟨t9, ts9, rfl, hts9⟩ := vcons hts8
      obtain ⟨t10, ts10, rfl, hts10⟩ := vcons hts9
      obtain ⟨t11, ts11, rfl, hts11⟩ := vcons hts10
      obtain ⟨t12, ts12, rfl, hts12⟩ := vcons hts11
      obtain ⟨t13, ts13, rfl, hts13⟩ := vcons hts12
      obtain ⟨t14, ts14, rfl, hts14⟩ := vcons hts13
      obtain ⟨t15, ts15, rfl, hts15⟩ := vcons hts14
      obtain ⟨t16, ts16, rfl, hts16⟩ := vcons hts15
      obtain ⟨t17, ts17, rfl, hts17⟩ := vcons hts16
      obtain rfl := vnil hts17
      clear hts hts0 hts1 hts2 hts3 hts4 hts5 hts6 hts7 hts8 hts9 hts17
      simp only [putAll, nthO, Act.put, List.setIfInBounds_toArray, List.set_cons_succ, List.set_cons_zero]
      go_wp2_with fail
      exact ⟨Ext.alloc _ _, _, rfl, ⟨_, rfl, Row.new _ _ _, hX.size⟩⟩
  · refine ⟨?_, trivial⟩
    intro ts wx hts hX hd
    obtain ⟨t0, ts0, rfl, hts0⟩ := vcons hts
    obtain ⟨t1, ts1, rfl, hts1⟩ := vcons hts0
    obtain ⟨t2, ts2, rfl, hts2⟩ := vcons hts1
    obtain ⟨t3, ts3, rfl, hts3⟩ := vcons hts2
    obtain ⟨t4, ts4, rfl, hts4⟩ := vcons hts3
    obtain ⟨t5, ts5, rfl, hts5⟩ := vcons hts4
    obtain ⟨t6, ts6, rfl, hts6⟩ := vcons hts5
    obtain ⟨t7, ts7, rfl, hts7⟩ := vcons hts6
    obtain ⟨t8, ts8, rfl, hts8⟩ := vcons hts7
    obtain ⟨t9, ts9, rfl, hts9⟩ := vcons hts8
    obtain ⟨t10, ts10, rfl, hts10⟩ := vcons hts9
    obtain ⟨t11, ts11, rfl, hts11⟩ := vcons hts10
    obtain ⟨t12, ts12, rfl, hts12⟩ := vcons hts11
    obtain ⟨t13, ts13, rfl, hts13⟩ := vcons hts12
    obtain ⟨t14, ts14, rfl, hts14⟩ := vcons hts13
    obtain ⟨t15, ts15, rfl, hts15⟩ := vcons hts14
    obtain ⟨t16, ts16, rfl, hts16⟩ := vcons hts15
    obtain ⟨t17, ts17, rfl, hts17⟩ := vcons hts16
    obtain rfl := vnil hts17
    clear hts hts0 hts1 hts2 hts3 hts4 hts5 hts6 hts7 hts8 hts9 hts17
    simp only [putAll, nthO, Act.put, List.setIfInBounds_toArray, List.set_cons_succ, List.set_cons_zero]
    obtain ⟨-, -, -, -, -, -, -, -, -, -, -, -, ⟨a, rfl, hk⟩, -⟩ := hd
    repeat (go_big_quiet_step (fail))
    exact wpQuiet_nil ⟨_, rfl, rfl⟩
  ·
    intro ts wx hts hX hd
    obtain ⟨t0, ts0, rfl, hts0⟩ := vcons hts
    obtain ⟨t1, ts1, rfl, hts1⟩ := vcons hts0
    obtain ⟨t2, ts2, rfl, hts2⟩ := vcons hts1
    obtain ⟨t3, ts3, rfl, hts3⟩ := vcons hts2
    obtain ⟨t4, ts4, rfl, hts4⟩ := vcons hts3
    obtain ⟨t5, ts5, rfl, hts5⟩ := vcons hts4
    obtain ⟨t6, ts6, rfl, hts6⟩ := vcons hts5
    obtain ⟨t7, ts7, rfl, hts7⟩ := vcons hts6
    obtain ⟨t8, ts8, rfl, hts8⟩ := vcons hts7
    obtain ⟨t9, ts9, rfl, hts9⟩ := vcons hts8
    obtain ⟨t10, ts10, rfl, hts10⟩ := vcons hts9
    obtain ⟨t11, ts11, rfl, hts11⟩ := vcons hts10
    obtain ⟨t12, ts12, rfl, hts12⟩ := vcons hts11
    obtain ⟨t13, ts13, rfl, hts13⟩ := vcons hts12
    obtain ⟨t14, ts14, rfl, hts14⟩ := vcons hts13
    obtain ⟨t15, ts15, rfl, hts15⟩ := vcons hts14
    obtain ⟨t16, ts16, rfl, hts16⟩ := vcons hts15
    obtain ⟨t17, ts17, rfl, hts17⟩ := vcons hts16
    obtain rfl := vnil hts17
    clear hts hts0 hts1 hts2 hts3 hts4 hts5 hts6 hts7 hts8 hts9 hts17
    simp only [putAll, Act.put, List.setIfInBounds_toArray, List.set_cons_succ, List.set_cons_zero]
    obtain ⟨-, -, -, -, -, -, -, -, -, -, -, -, -, h13, ⟨gS, rfl, hg, hgl⟩, h14, -⟩ := hd
    obtain ⟨S0, S1, S2, S3, S4, s0, e0, s1, e1, s2, e2, s3, e3, s4, e4, rfl, hS0⟩ := h13
    obtain rfl := h14
    have p0 := hg.cell 0
    have p1 := hg.cell 1
    have p2 := hg.cell 2
    have p3 := hg.cell 3
    have p4 := hg.cell 4
    have pf := hg.frozen
    have pl := hg.lt
    simp only [List.getElem?_cons_zero, List.getElem?_cons_succ] at p0 p1 p2 p3 p4
    simp only [wpPhT, pickL, nthO]
    refine wpQuiet_nil ?_
    go_wp2_with fail
    refine ⟨fun _ h => (by cases h), ?_⟩
    repeat (go_big_quiet_step (fail))
    refine wpQuiet_nil ?_
    have rS := five_rowS (u0 := .slice S0 s0 e0) (u1 := .slice S1 s1 e1) (u2 := .slice S2 s2 e2) (u3 := .slice S3 s3 e3) (u4 := .slice S4 s4 e4) hg
    have tS := Turn.fiveS (g := gS) wx (.slice S0 s0 e0) (.slice S1 s1 e1) (.slice S2 s2 e2) (.slice S3 s3 e3) (.slice S4 s4 e4)
    have hX3 : Ext w2 (((((wx.setCell ⟨gS, 0, none⟩ (.slice S0 s0 e0)).setCell ⟨gS, 1, none⟩ (.slice S1 s1 e1)).setCell ⟨gS, 2, none⟩ (.slice S2 s2 e2)).setCell ⟨gS, 3, none⟩ (.slice S3 s3 e3)).setCell ⟨gS, 4, none⟩ (.slice S4 s4 e4)) := hX.turn tS (fun b hb => by omega)
    have hS : StlAt (((((wx.setCell ⟨gS, 0, none⟩ (.slice S0 s0 e0)).setCell ⟨gS, 1, none⟩ (.slice S1 s1 e1)).setCell ⟨gS, 2, none⟩ (.slice S2 s2 e2)).setCell ⟨gS, 3, none⟩ (.slice S3 s3 e3)).setCell ⟨gS, 4, none⟩ (.slice S4 s4 e4)) S0 S1 S2 S3 S4 s0 e0 s1 e1 s2 e2 s3 e3 s4 e4 RR.1 := stl_far hS0 hg tS
    generalize (((((wx.setCell ⟨gS, 0, none⟩ (.slice S0 s0 e0)).setCell ⟨gS, 1, none⟩ (.slice S1 s1 e1)).setCell ⟨gS, 2, none⟩ (.slice S2 s2 e2)).setCell ⟨gS, 3, none⟩ (.slice S3 s3 e3)).setCell ⟨gS, 4, none⟩ (.slice S4 s4 e4)) = w3 at *
    clear p0 p1 p2 p3 p4 pf pl tS hS0 hg
    have hx03 := hx02.trans hX3
    have X3 := hx0.trans hx03
    have hNr := hN.ext (hx03)
    have hb0 := hNr.cell 0
    have hb1 := hNr.cell 1
    simp at hb0 hb1
    have hbl := hNr.lt
    go_wp2_with fail
    refine (c_toNetwork A1 A2 n1 c1 n2 c2 ns ps _ (h1.ext X3) (h2.ext X3) m1 m2).mono ?_
    rintro e w4 ⟨p1, p2, rfl, hp1, hp12, u1, u2, hx4⟩
    clear hNr hb0 hb1 hbl
    obtain ⟨w5, HW5⟩ : ∃ w5, Hid (w4.alloc (.cells #[.slice (some ⟨p1, 0, none⟩) ns.length ns.length, .slice (some ⟨p2, 0, none⟩) ps.length ps.length] 45) = w5) := ⟨_, hide rfl⟩
    have bN : Row w5 w4.heap.size 45 [.slice (some ⟨p1, 0, none⟩) ns.length ns.length, .slice (some ⟨p2, 0, none⟩) ps.length ps.length] := by rw [← HW5.out]; exact Row.new w4 _ _
    have hx5 : Ext w4 w5 := by rw [← HW5.out]; exact Ext.alloc _ _
    have hz5 : w4.heap.size + 1 = w5.heap.size := by rw [← HW5.out]; simp
    have X5 := X3.trans (hx4.trans hx5)
    go_wp2_with fail
    rw [HW5.out]
    refine (c_toContractS A n c xs _ (hs.ext X5) m3).mono ?_
    rintro e w6 ⟨p3, rfl, hp3, u3, hx6⟩
    go_wp2_with fail
    refine (c_toNominationS B m d L _ (hL.ext (X5.trans hx6)) m4).mono ?_
    rintro e w7 ⟨p4, rfl, hp4, u4, hx7⟩
    have hx57 := hx6.trans hx7
    go_wp2_with fail
    refine (c_toReadingS R nr cr rd _ (hR.ext (X5.trans hx57)) m5).mono ?_
    rintro e w8 ⟨p5, rfl, hp5, u5, hx8⟩
    have hx58 := hx57.trans hx8
    have X8 := X5.trans hx58
    have hTr := hT.ext (hx03.trans ((hx4.trans hx5).trans hx58))
    have y0 := hTr.cell 0
    have y1 := hTr.cell 1
    have y2 := hTr.cell 2
    have y3 := hTr.cell 3
    simp at y0 y1 y2 y3
    have hyl := hTr.lt
    go_wp2_with fail
    refine (c_toTerms band percent price K kn kc ts _ (hK.ext X8) m6).mono ?_
    rintro e w9 ⟨p6, rfl, hp6, u6, hx9⟩
    clear hTr y0 y1 y2 y3 hyl
    obtain ⟨w10, HW10⟩ : ∃ w10, Hid (w9.alloc (.cells #[.int .i64 band, .int .i64 percent, .int .i64 price, .slice (some ⟨p6, 0, none⟩) ts.length ts.length] 73) = w10) := ⟨_, hide rfl⟩
    have bT : Row w10 w9.heap.size 73 [.int .i64 band, .int .i64 percent, .int .i64 price, .slice (some ⟨p6, 0, none⟩) ts.length ts.length] := by rw [← HW10.out]; exact Row.new w9 _ _
    have hx10 : Ext w9 w10 := by rw [← HW10.out]; exact Ext.alloc _ _
    have hz10 : w9.heap.size + 1 = w10.heap.size := by rw [← HW10.out]; simp
    have sz3 := X3.size
    have sz4 := hx4.size
    have sz58 := hx58.size
    have sz6 := hx6.size
    have sz7 := hx7.size
    have sz8 := hx8.size
    have sz9 := hx9.size
    have lp1 := u1.lt
    have lp2 := u2.lt
    have lp3 := u3.lt
    have lp4 := u4.lt
    have lp5 := u5.lt
    have lp6 := u6.lt
    have HPL := hide (show ∀ b, (b = p1 ∨ b = p2 ∨ b = p3 ∨ b = p4 ∨ b = p5 ∨ b = p6) → w3.heap.size ≤ b ∧ b < w9.heap.size from fun b hb => by omega)
    have HPT := hide (show ∀ b, (b = p1 ∨ b = p2 ∨ b = p3 ∨ b = p4 ∨ b = p5 ∨ b = p6) → b ≠ w9.heap.size from fun b hb => by omega)
    have HPD := hide (show p1 ≠ p2 ∧ p3 ≠ p1 ∧ p3 ≠ p2 ∧ p4 ≠ p1 ∧ p4 ≠ p2 ∧ p4 ≠ p3 ∧ p5 ≠ p1 ∧ p5 ≠ p2 ∧ p5 ≠ p3 ∧ p5 ≠ p4 ∧ p6 ≠ p1 ∧ p6 ≠ p2 ∧ p6 ≠ p3 ∧ p6 ≠ p4 ∧ p6 ≠ p5 from by omega)
    have hx810 := hx9.trans hx10
    have hx510 := hx58.trans hx810
    have U1 := (u1.ext hx5).ext hx510
    have U2 := (u2.ext hx5).ext hx510
    have U3 := ((u3.ext hx7).ext hx8).ext hx810
    have U4 := (u4.ext hx8).ext hx810
    have U5 := u5.ext hx810
    have U6 := u6.ext hx10
    have bNr := bN.ext (hx58.trans hx9)
    have i0 := bNr.cell 0
    have i1 := bNr.cell 1
    simp at i0 i1
    have il := bNr.lt
    have bN := bN.ext hx510
    have hx310 := (hx4.trans hx5).trans hx510
    have hx010 := hx03.trans hx310
    have X10 := hx0.trans hx010
    have sz310 := hx310.size
    have hSO := hS
    have rSO := rS
    have hS := hS.ext hx310
    have rS := rS.ext hx310
    have HGN := hide (show w4.heap.size < w10.heap.size from by omega)
    clear u1 u2 u3 u4 u5 u6 lp1 lp2 lp3 lp4 lp5 lp6 sz4 sz58 sz6 sz7 sz8 sz9 hp1 hp12 hp3 hp4 hp5 hp6 hx4 hx5 hx6 hx7 hx8 hx9 hx57 hx58 hx810 hz5
    go_wp2_with fail
    rw [HW10.out]
    refine (c_SettleHour _ _ _ _ _ _ ns ps _ _ _ xs _ _ _ L h _ _ _ rd band percent price _ _ _ ts _ (U1.slice node_len rfl (by omega)) (U2.slice pipe_len rfl (by omega)) (U3.slice contract_len rfl (by omega)) (U4.slice nomination_len rfl (by omega)) (U5.slice reading_len rfl (by omega)) (U6.slice (fun _ => rfl) rfl (by omega))).mono ?_
    rw [HRR.out]
    rintro e w11 ⟨G0, G1, G2, G3, G4, g0, f0, g1, f1, g2, f2, g3, f3, g4, f4, X', z', rfl, hG, hx11, HP⟩
    obtain ⟨rfl, rfl⟩ : X' = RR.1 ∧ z' = RR.2 := by have := HP.out; exact ⟨congrArg Prod.fst this, congrArg Prod.snd this⟩
    clear bNr i0 i1 il
    have HGB := hide (show ∀ b, (blkOf G0 g0 = some b ∨ blkOf G1 g1 = some b ∨ blkOf G2 g2 = some b ∨ blkOf G3 g3 = some b ∨ blkOf G4 g4 = some b) → w10.heap.size ≤ b ∧ b < w11.heap.size from fun b hb => ⟨hG.lo b hb, by rcases hb with hb | hb | hb | hb | hb <;> first | exact hG.o0.lt hb | exact hG.o1.lt hb | exact hG.o2.lt hb | exact hG.o3.lt hb | exact hG.o4.lt hb⟩)
    have hsm : StlSm g0 g1 g2 g3 g4 := by rw [hG.o0.1, hG.o1.1, hG.o2.1, hG.o3.1, hG.o4.1]; exact HSM.out
    obtain ⟨w12, HW12⟩ : ∃ w12, Hid (w11.alloc (.cells #[.slice G0 g0 f0, .slice G1 g1 f1, .slice G2 g2 f2, .slice G3 g3 f3, .slice G4 g4 f4] 28) = w12) := ⟨_, hide rfl⟩
    have bG : Row w12 w11.heap.size 28 [.slice G0 g0 f0, .slice G1 g1 f1, .slice G2 g2 f2, .slice G3 g3 f3, .slice G4 g4 f4] := by rw [← HW12.out]; exact Row.new w11 _ _
    have hx12 : Ext w11 w12 := by rw [← HW12.out]; exact Ext.alloc _ _
    have hz12 : w11.heap.size + 1 = w12.heap.size := by rw [← HW12.out]; simp
    have sz11 := hx11.size
    have E12 := hx11.trans hx12
    have hG := hG.ext hx12
    have rSr := rS.ext (hx11)
    have q0 := rSr.cell 0
    have q1 := rSr.cell 1
    have q2 := rSr.cell 2
    have q3 := rSr.cell 3
    have q4 := rSr.cell 4
    simp at q0 q1 q2 q3 q4
    have ql := rSr.lt
    go_wp2_with fail
    rw [HW12.out]
    refine (c_eqStl _ _ _ _ _ _ _ _ _ _ _ _ _ _ _ _ _ _ _ _ _ _ _ _ _ _ _ _ _ _ RR.1 _ hG.at_ (hS.ext E12)).mono ?_
    rintro e w13 ⟨rfl, hx13⟩
    have E13 := hx13
    have U1 := U1.ext E12
    have U2 := U2.ext E12
    have U3 := U3.ext E12
    have U4 := U4.ext E12
    have U5 := U5.ext E12
    have U6 := U6.ext E12
    have bN := bN.ext E12
    have bT := bT.ext E12
    have X12 := X10.trans E12
    have hx012 := hx010.trans E12
    have hx312 := hx310.trans E12
    clear rSr q0 q1 q2 q3 q4 ql
    have hNr := hN.ext (hx012.trans E13)
    have hb0 := hNr.cell 0
    have hb1 := hNr.cell 1
    simp at hb0 hb1
    have hbl := hNr.lt
    have bNr := bN.ext (E13)
    have i0 := bNr.cell 0
    have i1 := bNr.cell 1
    simp at i0 i1
    have il := bNr.lt
    go_wp2_with fail
    refine wp_region_ph [([0, 1], 2), ([], 3)] [4] (by kernel_rfl) (by kernel_rfl) (by intro c a w d v h; cases d <;> exact h) ?_
    simp only [wpPh, pickL, nthO]
    repeat (go_big_quiet_step (fail))
    refine wpQuiet_nil ?_
    have X13 := X12.trans E13
    go_wp2_with fail
    refine (c_toNetwork A1 A2 n1 c1 n2 c2 ns ps _ (h1.ext X13.drew) (h2.ext X13.drew) m1 m2).mono ?_
    rintro e w14 ⟨_, _, rfl, _, _, t1, t2, hx14⟩
    have E14 := E13.drew.trans hx14
    go_wp2_with fail
    refine ⟨hx14, wpQuiet_nil ?_⟩
    go_wp2_with fail
    refine (c_eqNetwork _ _ _ _ _ _ _ _ _ _ _ _ ns ps _ ((U1.ext E14).slice node_len rfl (by omega)) ((U2.ext E14).slice pipe_len rfl (by omega)) (t1.slice node_len rfl (by omega)) (t2.slice pipe_len rfl (by omega))).mono ?_
    rintro e w15 ⟨rfl, hx15⟩
    have E15 := E14.trans hx15
    clear hNr hb0 hb1 hbl
    clear bNr i0 i1 il
    go_wp2_with fail
    refine ⟨hx15, ?_⟩
    repeat (go_big_quiet_step (fail))
    refine wpQuiet_nil ?_
    go_wp2_with fail
    refine (c_toContractS A n c xs _ (hs.ext (X12.trans E15)) m3).mono ?_
    rintro e w16 ⟨_, rfl, _, t3, hx16⟩
    go_wp2_with fail
    refine (c_eqContractS _ _ _ _ _ _ xs _ ((U3.ext (E15.trans hx16)).slice contract_len rfl (by omega)) (t3.slice contract_len rfl (by omega))).mono ?_
    rintro e w17 ⟨rfl, hx17⟩
    have E17 := E15.trans (hx16.trans hx17)
    go_wp2_with fail
    refine (c_toNominationS B m d L _ (hL.ext (X12.trans E17)) m4).mono ?_
    rintro e w18 ⟨_, rfl, _, t4, hx18⟩
    go_wp2_with fail
    refine (c_eqNominationS _ _ _ _ _ _ L _ ((U4.ext (E17.trans hx18)).slice nomination_len rfl (by omega)) (t4.slice nomination_len rfl (by omega))).mono ?_
    rintro e w19 ⟨rfl, hx19⟩
    have E19 := E17.trans (hx18.trans hx19)
    go_wp2_with fail
    refine (c_toReadingS R nr cr rd _ (hR.ext (X12.trans E19)) m5).mono ?_
    rintro e w20 ⟨_, rfl, _, t5, hx20⟩
    go_wp2_with fail
    refine (c_eqReadingS _ _ _ _ _ _ rd _ ((U5.ext (E19.trans hx20)).slice reading_len rfl (by omega)) (t5.slice reading_len rfl (by omega))).mono ?_
    rintro e w21 ⟨rfl, hx21⟩
    have E21 := E19.trans (hx20.trans hx21)
    have hTr := hT.ext (hx012.trans E21)
    have y0 := hTr.cell 0
    have y1 := hTr.cell 1
    have y2 := hTr.cell 2
    have y3 := hTr.cell 3
    simp at y0 y1 y2 y3
    have hyl := hTr.lt
    have bTr := bT.ext (E21)
    have j0 := bTr.cell 0
    have j1 := bTr.cell 1
    have j2 := bTr.cell 2
    have j3 := bTr.cell 3
    simp at j0 j1 j2 j3
    have jl := bTr.lt
    go_wp2_with fail
    refine wp_region_ph [([0, 1], 2), ([], 3)] [4] (by kernel_rfl) (by kernel_rfl) (by intro c a w d v h; cases d <;> exact h) ?_
    simp only [wpPh, pickL, nthO]
    repeat (go_big_quiet_step (fail))
    refine wpQuiet_nil ?_
    go_wp2_with fail
    refine (c_toTerms band percent price K kn kc ts _ (hK.ext (X12.trans E21).drew) m6).mono ?_
    rintro e w22 ⟨_, rfl, _, t6, hx22⟩
    have E22 := E21.drew.trans hx22
    go_wp2_with fail
    refine ⟨hx22, wpQuiet_nil ?_⟩
    go_wp2_with fail
    refine (c_eqTerms band percent price _ _ _ _ _ _ ts _ ((U6.ext E22).slice (fun _ => rfl) rfl (by omega)) (t6.slice (fun _ => rfl) rfl (by omega))).mono ?_
    rintro e w23 ⟨rfl, hx23⟩
    have E23 := E22.trans hx23
    clear hTr y0 y1 y2 y3 hyl
    clear bTr j0 j1 j2 j3 jl
    clear t1 t2 t3 t4 t5 t6 hx14 hx15 hx16 hx17 hx18 hx19 hx20 hx21 E14 E15 E17 E19
    go_wp2_with fail
    refine ⟨hx23, ?_⟩
    repeat (go_big_quiet_step (fail))
    refine wpQuiet_nil ?_
    clear hx22 hx23 E21 E22
    have bNr := bN.ext (E23)
    have i0 := bNr.cell 0
    have i1 := bNr.cell 1
    simp at i0 i1
    have il := bNr.lt
    go_wp2_with fail
    refine (c_markNetwork _ _ _ _ _ _ ns ps 1 _ ((U1.ext E23).toA rfl (Nat.le_refl _) (by omega)) ((U2.ext E23).toA rfl (Nat.le_refl _) (by omega)) (fun b hb hb' => by have := blk_is hb; have := blk_is hb'; have := HPD.out; omega) l1 l2 (by omega) (by omega)).mono ?_
    rintro e w24 ⟨rfl, _, _, tr24⟩
    clear bNr i0 i1 il
    have t24 : Turn (fun b => b = p1 ∨ b = p2) w23 w24 := tr24.mono (fun b hb => by
      rcases hb with hb | hb
      · exact .inl (blk_is hb)
      · exact .inr (blk_is hb))
    have V3 := ((U3.ext E23).toA rfl (Nat.le_refl _) (by omega)).turn t24 (fun b hb hS => by have := blk_is hb; have := HPD.out; omega)
    have V4 := ((U4.ext E23).toA rfl (Nat.le_refl _) (by omega)).turn t24 (fun b hb hS => by have := blk_is hb; have := HPD.out; omega)
    have V5 := ((U5.ext E23).toA rfl (Nat.le_refl _) (by omega)).turn t24 (fun b hb hS => by have := blk_is hb; have := HPD.out; omega)
    have V6 := ((U6.ext E23).toA rfl (Nat.le_refl _) (by omega)).turn t24 (fun b hb hS => by have := blk_is hb; have := HPD.out; omega)
    go_wp2_with fail
    refine (m_markContractS _ _ _ xs _ _ V3 (by omega) (by omega) (by omega)).mono ?_
    rintro e w25 ⟨rfl, _, tr25⟩
    have t25 : Turn (fun b => b = p3) w24 w25 := tr25.mono (fun b hb => blk_is hb)
    have V4 := V4.turn t25 (fun b hb hS => by have := blk_is hb; have := HPD.out; omega)
    have V5 := V5.turn t25 (fun b hb hS => by have := blk_is hb; have := HPD.out; omega)
    have V6 := V6.turn t25 (fun b hb hS => by have := blk_is hb; have := HPD.out; omega)
    go_wp2_with fail
    refine (m_markNominationS _ _ _ L _ _ V4 (by omega) (by omega) (by omega)).mono ?_
    rintro e w26 ⟨rfl, _, tr26⟩
    have t26 : Turn (fun b => b = p4) w25 w26 := tr26.mono (fun b hb => blk_is hb)
    have V5 := V5.turn t26 (fun b hb hS => by have := blk_is hb; have := HPD.out; omega)
    have V6 := V6.turn t26 (fun b hb hS => by have := blk_is hb; have := HPD.out; omega)
    go_wp2_with fail
    refine (m_markReadingS _ _ _ rd _ _ V5 (by omega) (by omega) (by omega)).mono ?_
    rintro e w27 ⟨rfl, _, tr27⟩
    have t27 : Turn (fun b => b = p5) w26 w27 := tr27.mono (fun b hb => blk_is hb)
    have V6 := V6.turn t27 (fun b hb hS => by have := blk_is hb; have := HPD.out; omega)
    have TP : Turn (fun b => b = p1 ∨ b = p2 ∨ b = p3 ∨ b = p4 ∨ b = p5 ∨ b = p6) w23 w27 := (t24.mono (fun b hb => by omega)).trans ((t25.mono (fun b hb => by omega)).trans ((t26.mono (fun b hb => by omega)).trans (t27.mono (fun b hb => by omega))))
    have bT := (bT.ext E23).turn TP (fun hb => HPT.out _ hb rfl)
    have bTr := bT.ext ((Ext.refl w27))
    have j0 := bTr.cell 0
    have j1 := bTr.cell 1
    have j2 := bTr.cell 2
    have j3 := bTr.cell 3
    simp at j0 j1 j2 j3
    have jl := bTr.lt
    go_wp2_with fail
    refine (c_markTerms band percent price _ _ _ ts _ _ V6 (by omega) (by omega) (by omega)).mono ?_
    rintro e w28 ⟨rfl, _, tr28⟩
    clear bTr j0 j1 j2 j3 jl
    have t28 : Turn (fun b => b = p6) w27 w28 := tr28.mono (fun b hb => blk_is hb)
    have TP := TP.trans (t28.mono (fun b hb => by omega))
    clear V3 V4 V5 V6 t24 t25 t26 t27 t28 tr24 tr25 tr26 tr27 tr28 bT bN U1 U2 U3 U4 U5 U6
    have hk0 : decide ((1 : Int) + 3 * (ns.length : Int) + 5 * (ps.length : Int) + 8 * (xs.length : Int) + 4 * (L.length : Int) + 2 * (rd.length : Int) + 2 * (ts.length : Int) < 0) = false := by rw [decide_eq_false_iff_not]; omega
    have F28 : Ext w3 w28 := (hx312.trans E23).turn TP (fun b hb => (HPL.out b hb).1)
    have hG := (hG.ext E23).turn TP (fun b hb => by have := HPL.out b hb; omega)
    have bG := (bG.ext E23).turn TP (fun hb => by have := HPL.out _ hb; omega)
    clear TP E23
    have bGr := bG.ext ((Ext.refl w28))
    have k0 := bGr.cell 0
    have k1 := bGr.cell 1
    have k2 := bGr.cell 2
    have k3 := bGr.cell 3
    have k4 := bGr.cell 4
    simp at k0 k1 k2 k3 k4
    have kl := bGr.lt
    have rSr := rSO.ext (F28)
    have q0 := rSr.cell 0
    have q1 := rSr.cell 1
    have q2 := rSr.cell 2
    have q3 := rSr.cell 3
    have q4 := rSr.cell 4
    simp at q0 q1 q2 q3 q4
    have ql := rSr.lt
    go_wp2_with fail
    refine (c_eqStl _ _ _ _ _ _ _ _ _ _ _ _ _ _ _ _ _ _ _ _ _ _ _ _ _ _ _ _ _ _ RR.1 _ hG.at_ (hSO.ext F28)).mono ?_
    rintro e w29 ⟨rfl, hx29⟩
    clear bGr k0 k1 k2 k3 k4 kl
    clear rSr q0 q1 q2 q3 q4 ql
    have hG := hG.ext hx29
    have bG := bG.ext hx29
    have F29 := F28.trans hx29
    have bGr := bG.ext ((Ext.refl w29))
    have k0 := bGr.cell 0
    have k1 := bGr.cell 1
    have k2 := bGr.cell 2
    have k3 := bGr.cell 3
    have k4 := bGr.cell 4
    simp at k0 k1 k2 k3 k4
    have kl := bGr.lt
    go_wp2_with fail
    refine (c_markSettlement w10.heap.size G0 G1 G2 G3 G4 g0 f0 g1 f1 g2 f2 g3 f3 g4 f4 RR.1 1 _ hG hsm (by omega) (by omega)).mono ?_
    obtain ⟨mk, HMK⟩ : ∃ mk, Hid (markSn 1 g0 g1 g2 g3 g4 = mk) := ⟨_, hide rfl⟩
    have hm0 : ¬ mk < 0 := by rw [← HMK.out]; unfold markSn; omega
    unfold MarkedStl
    rw [HMK.out]
    rintro e w30 ⟨rfl, hM, trM⟩
    clear bGr k0 k1 k2 k3 k4 kl
    have F30 := F29.turn trM (fun b hb => by have := HGB.out b hb; have := sz310; omega)
    have bG := bG.turn trM (fun hb => by have := HGB.out _ hb; omega)
    clear trM hG
    have bGr := bG.ext ((Ext.refl w30))
    have k0 := bGr.cell 0
    have k1 := bGr.cell 1
    have k2 := bGr.cell 2
    have k3 := bGr.cell 3
    have k4 := bGr.cell 4
    simp at k0 k1 k2 k3 k4
    have kl := bGr.lt
    go_wp2_with fail
    refine (c_heldSettlement G0 G1 G2 G3 G4 g0 f0 g1 f1 g2 f2 g3 f3 g4 f4 1 _ hM.at_ hsm (by omega) (by omega)).mono ?_
    rw [HMK.out]
    rintro e w31 ⟨rfl, hx31⟩
    clear bGr k0 k1 k2 k3 k4 kl
    have hM := hM.ext hx31
    have bG := bG.ext hx31
    have F31 := F30.trans hx31
    have hx031 := hx03.trans F31
    have X31 := X3.trans F31
    clear F28 hx29 F29 F30 hx31 hk0
    go_wp2_with fail
    refine wp_region_KP [KC (.agg #[.slice A1 n1 c1, .slice A2 n2 c2]), KNet ns ps, KC (.slice A n c), KSl 8 Contract.cells xs, KC (.slice B m d), KSl 4 Nomination.cells L, KC (.int .i64 h), KC (.slice R nr cr), KSl 2 Reading.cells rd, KC (.agg #[.int .i64 band, .int .i64 percent, .int .i64 price, .slice K kn kc]), KTm band percent price ts, KSC RR, KSC RR, KStl RR.1, KC (.int .i64 RR.2), KR w31.heap.size 28 [.slice none 0 0, .slice none 0 0, .slice none 0 0, .slice none 0 0, .slice none 0 0]]
      [0, 1, 2, 3, 4, 5, 6, 7, 8, 9, 10, 11, 12, 13, 15] [14] [[], [0], [], [0, 1, 2], [], [0, 1, 2, 3, 4], [], [], [0, 1, 2, 3, 4, 5, 7], [], [0, 1, 2, 3, 4, 5, 7, 8, 9], [0, 1, 2, 3, 4, 5, 6, 7, 8, 9, 10], [0, 1, 2, 3, 4, 5, 6, 7, 8, 9, 10, 11], [0, 1, 2, 3, 4, 5, 6, 7, 8, 9, 10, 11, 12], [0, 1, 2, 3, 4, 5, 6, 7, 8, 9, 10, 11, 12], [], [0, 1, 2, 3, 4, 5, 6, 7, 8, 9, 10, 11, 12, 13, 15], [0, 1, 2, 3, 4, 5, 6, 7, 8, 9, 10, 11, 12, 13, 14, 15, 16]] [] (.one [] 16 (.last [17])) (by kernel_rfl) (by kernel_rfl) (by intro c a w d v h; cases d <;> exact h) (by simp) ⟨stKC _, stKNet _ _, stKC _, stKSl _ _ _, stKC _, stKSl _ _ _, stKC _, stKC _, stKSl _ _ _, stKC _, stKTm _ _ _ _, stKSC _, stKSC _, stKStl _, stKC _, stKR _ _ _, trivial⟩ ?_ ?_ ?_
    · refine ⟨?_, ?_, ?_, ?_, ?_, ?_, ?_, ?_, ?_, ?_, ?_, ?_, ?_, ?_, ?_, trivial⟩
      · intro ts wx hts hX hd
        obtain ⟨t0, ts0, rfl, hts0⟩ := vcons hts
        obtain ⟨t1, ts1, rfl, hts1⟩ := vcons hts0
        obtain ⟨t2, ts2, rfl, hts2⟩ := vcons hts1
        obtain ⟨t3, ts3, rfl, hts3⟩ := vcons hts2
        obtain ⟨t4, ts4, rfl, hts4⟩ := vcons hts3
        obtain ⟨t5, ts5, rfl, hts5⟩ := vcons hts4
        obtain ⟨t6, ts6, rfl, hts6⟩ := vcons hts5
        obtain ⟨t7, ts7, rfl, hts7⟩ := vcons hts6
        obtain ⟨t8, ts8, rfl, hts8⟩ := vcons hts7
        obtain ⟨t9, ts9, rfl, hts9⟩ := vcons hts8
        obtain ⟨t10, ts10, rfl, hts10⟩ := vcons hts9
        obtain ⟨t11, ts11, rfl, hts11⟩ := vcons hts10
        obtain ⟨t12, ts12, rfl, hts12⟩ := vcons hts11
        obtain ⟨t13, ts13, rfl, hts13⟩ := vcons hts12
        obtain ⟨t14, ts14, rfl, hts14⟩ := vcons hts13
        obtain ⟨t15, ts15, rfl, hts15⟩ := vcons hts14
        obtain ⟨t16, ts16, rfl, hts16⟩ := vcons hts15
        obtain ⟨t17, ts17, rfl, hts17⟩ := vcons hts16
        obtain rfl := vnil hts17
        clear hts hts0 hts1 hts2 hts3 hts4 hts5 hts6 hts7 hts8 hts9 hts17
        simp only [putAll, nthO, Act.put, List.setIfInBounds_toArray, List.set_cons_succ, List.set_cons_zero]
        have hNr := hN.ext ((hx031).trans hX)
        have hb0 := hNr.cell 0
        have hb1 := hNr.cell 1
        simp at hb0 hb1
        have hbl := hNr.lt
        go_wp2_with fail
        exact ⟨Ext.refl _, _, rfl, rfl⟩
      · intro ts wx hts hX hd
        obtain ⟨t0, ts0, rfl, hts0⟩ := vcons hts
        obtain ⟨t1, ts1, rfl, hts1⟩ := vcons hts0
        obtain ⟨t2, ts2, rfl, hts2⟩ := vcons hts1
        obtain ⟨t3, ts3, rfl, hts3⟩ := vcons hts2
        obtain ⟨t4, ts4, rfl, hts4⟩ := vcons hts3
        obtain ⟨t5, ts5, rfl, hts5⟩ := vcons hts4
        obtain ⟨t6, ts6, rfl, hts6⟩ := vcons hts5
        obtain ⟨t7, ts7, rfl, hts7⟩ := vcons hts6
        obtain ⟨t8, ts8, rfl, hts8⟩ := vcons hts7
        obtain ⟨t9, ts9, rfl, hts9⟩ := vcons hts8
        obtain ⟨t10, ts10, rfl, hts10⟩ := vcons hts9
        obtain ⟨t11, ts11, rfl, hts11⟩ := vcons hts10
        obtain ⟨t12, ts12, rfl, hts12⟩ := vcons hts11
        obtain ⟨t13, ts13, rfl, hts13⟩ := vcons hts12
        obtain ⟨t14, ts14, rfl, hts14⟩ := vcons hts13
        obtain ⟨t15, ts15, rfl, hts15⟩ := vcons hts14
        obtain ⟨t16, ts16, rfl, hts16⟩ := vcons hts15
        obtain ⟨t17, ts17, rfl, hts17⟩ := vcons hts16
        obtain rfl := vnil hts17
        clear hts hts0 hts1 hts2 hts3 hts4 hts5 hts6 hts7 hts8 hts9 hts17
        simp only [putAll, nthO, Act.put, List.setIfInBounds_toArray, List.set_cons_succ, List.set_cons_zero]
        obtain ⟨rfl, -⟩ := hd
        go_wp2_with fail
        refine (k_toNet A1 A2 n1 c1 n2 c2 ns ps _ (h1.ext ((X31).trans hX)) (h2.ext ((X31).trans hX)) m1 m2).mono ?_
        rintro e wy ⟨v, rfl, hk, hxy⟩
        go_wp2_with fail
        exact ⟨hxy, _, rfl, hk⟩
      · intro ts wx hts hX hd
        obtain ⟨t0, ts0, rfl, hts0⟩ := vcons hts
        obtain ⟨t1, ts1, rfl, hts1⟩ := vcons hts0
        obtain ⟨t2, ts2, rfl, hts2⟩ := vcons hts1
        obtain ⟨t3, ts3, rfl, hts3⟩ := vcons hts2
        obtain ⟨t4, ts4, rfl, hts4⟩ := vcons hts3
        obtain ⟨t5, ts5, rfl, hts5⟩ := vcons hts4
        obtain ⟨t6, ts6, rfl, hts6⟩ := vcons hts5
        obtain ⟨t7, ts7, rfl, hts7⟩ := vcons hts6
        obtain ⟨t8, ts8, rfl, hts8⟩ := vcons hts7
        obtain ⟨t9, ts9, rfl, hts9⟩ := vcons hts8
        obtain ⟨t10, ts10, rfl, hts10⟩ := vcons hts9
        obtain ⟨t11, ts11, rfl, hts11⟩ := vcons hts10
        obtain ⟨t12, ts12, rfl, hts12⟩ := vcons hts11
        obtain ⟨t13, ts13, rfl, hts13⟩ := vcons hts12
        obtain ⟨t14, ts14, rfl, hts14⟩ := vcons hts13
        obtain ⟨t15, ts15, rfl, hts15⟩ := vcons hts14
        obtain ⟨t16, ts16, rfl, hts16⟩ := vcons hts15
        obtain ⟨t17, ts17, rfl, hts17⟩ := vcons hts16
        obtain rfl := vnil hts17
        clear hts hts0 hts1 hts2 hts3 hts4 hts5 hts6 hts7 hts8 hts9 hts17
        simp only [putAll, nthO, Act.put, List.setIfInBounds_toArray, List.set_cons_succ, List.set_cons_zero]
        go_wp2_with fail
        exact ⟨Ext.refl _, _, rfl, rfl⟩
      · intro ts wx hts hX hd
        obtain ⟨t0, ts0, rfl, hts0⟩ := vcons hts
        obtain ⟨t1, ts1, rfl, hts1⟩ := vcons hts0
        obtain ⟨t2, ts2, rfl, hts2⟩ := vcons hts1
        obtain ⟨t3, ts3, rfl, hts3⟩ := vcons hts2
        obtain ⟨t4, ts4, rfl, hts4⟩ := vcons hts3
        obtain ⟨t5, ts5, rfl, hts5⟩ := vcons hts4
        obtain ⟨t6, ts6, rfl, hts6⟩ := vcons hts5
        obtain ⟨t7, ts7, rfl, hts7⟩ := vcons hts6
        obtain ⟨t8, ts8, rfl, hts8⟩ := vcons hts7
        obtain ⟨t9, ts9, rfl, hts9⟩ := vcons hts8
        obtain ⟨t10, ts10, rfl, hts10⟩ := vcons hts9
        obtain ⟨t11, ts11, rfl, hts11⟩ := vcons hts10
        obtain ⟨t12, ts12, rfl, hts12⟩ := vcons hts11
        obtain ⟨t13, ts13, rfl, hts13⟩ := vcons hts12
        obtain ⟨t14, ts14, rfl, hts14⟩ := vcons hts13
        obtain ⟨t15, ts15, rfl, hts15⟩ := vcons hts14
        obtain ⟨t16, ts16, rfl, hts16⟩ := vcons hts15
        obtain ⟨t17, ts17, rfl, hts17⟩ := vcons hts16
        obtain rfl := vnil hts17
        clear hts hts0 hts1 hts2 hts3 hts4 hts5 hts6 hts7 hts8 hts9 hts17
        simp only [putAll, nthO, Act.put, List.setIfInBounds_toArray, List.set_cons_succ, List.set_cons_zero]
        obtain ⟨-, -, rfl, -⟩ := hd
        go_wp2_with fail
        refine (k_toBook A n c xs _ (hs.ext ((X31).trans hX)) m3).mono ?_
        rintro e wy ⟨v, rfl, hk, hxy⟩
        go_wp2_with fail
        exact ⟨hxy, _, rfl, hk⟩
      · intro ts wx hts hX hd
        obtain ⟨t0, ts0, rfl, hts0⟩ := vcons hts
        obtain ⟨t1, ts1, rfl, hts1⟩ := vcons hts0
        obtain ⟨t2, ts2, rfl, hts2⟩ := vcons hts1
        obtain ⟨t3, ts3, rfl, hts3⟩ := vcons hts2
        obtain ⟨t4, ts4, rfl, hts4⟩ := vcons hts3
        obtain ⟨t5, ts5, rfl, hts5⟩ := vcons hts4
        obtain ⟨t6, ts6, rfl, hts6⟩ := vcons hts5
        obtain ⟨t7, ts7, rfl, hts7⟩ := vcons hts6
        obtain ⟨t8, ts8, rfl, hts8⟩ := vcons hts7
        obtain ⟨t9, ts9, rfl, hts9⟩ := vcons hts8
        obtain ⟨t10, ts10, rfl, hts10⟩ := vcons hts9
        obtain ⟨t11, ts11, rfl, hts11⟩ := vcons hts10
        obtain ⟨t12, ts12, rfl, hts12⟩ := vcons hts11
        obtain ⟨t13, ts13, rfl, hts13⟩ := vcons hts12
        obtain ⟨t14, ts14, rfl, hts14⟩ := vcons hts13
        obtain ⟨t15, ts15, rfl, hts15⟩ := vcons hts14
        obtain ⟨t16, ts16, rfl, hts16⟩ := vcons hts15
        obtain ⟨t17, ts17, rfl, hts17⟩ := vcons hts16
        obtain rfl := vnil hts17
        clear hts hts0 hts1 hts2 hts3 hts4 hts5 hts6 hts7 hts8 hts9 hts17
        simp only [putAll, nthO, Act.put, List.setIfInBounds_toArray, List.set_cons_succ, List.set_cons_zero]
        go_wp2_with fail
        exact ⟨Ext.refl _, _, rfl, rfl⟩
      · intro ts wx hts hX hd
        obtain ⟨t0, ts0, rfl, hts0⟩ := vcons hts
        obtain ⟨t1, ts1, rfl, hts1⟩ := vcons hts0
        obtain ⟨t2, ts2, rfl, hts2⟩ := vcons hts1
        obtain ⟨t3, ts3, rfl, hts3⟩ := vcons hts2
        obtain ⟨t4, ts4, rfl, hts4⟩ := vcons hts3
        obtain ⟨t5, ts5, rfl, hts5⟩ := vcons hts4
        obtain ⟨t6, ts6, rfl, hts6⟩ := vcons hts5
        obtain ⟨t7, ts7, rfl, hts7⟩ := vcons hts6
        obtain ⟨t8, ts8, rfl, hts8⟩ := vcons hts7
        obtain ⟨t9, ts9, rfl, hts9⟩ := vcons hts8
        obtain ⟨t10, ts10, rfl, hts10⟩ := vcons hts9
        obtain ⟨t11, ts11, rfl, hts11⟩ := vcons hts10
        obtain ⟨t12, ts12, rfl, hts12⟩ := vcons hts11
        obtain ⟨t13, ts13, rfl, hts13⟩ := vcons hts12
        obtain ⟨t14, ts14, rfl, hts14⟩ := vcons hts13
        obtain ⟨t15, ts15, rfl, hts15⟩ := vcons hts14
        obtain ⟨t16, ts16, rfl, hts16⟩ := vcons hts15
        obtain ⟨t17, ts17, rfl, hts17⟩ := vcons hts16
        obtain rfl := vnil hts17
        clear hts hts0 hts1 hts2 hts3 hts4 hts5 hts6 hts7 hts8 hts9 hts17
        simp only [putAll, nthO, Act.put, List.setIfInBounds_toArray, List.set_cons_succ, List.set_cons_zero]
        obtain ⟨-, -, -, -, rfl, -⟩ := hd
        go_wp2_with fail
        refine (k_toNoms B m d L _ (hL.ext ((X31).trans hX)) m4).mono ?_
        rintro e wy ⟨v, rfl, hk, hxy⟩
        go_wp2_with fail
        exact ⟨hxy, _, rfl, hk⟩
      · intro ts wx hts hX hd
        obtain ⟨t0, ts0, rfl, hts0⟩ := vcons hts
        obtain ⟨t1, ts1, rfl, hts1⟩ := vcons hts0
        obtain ⟨t2, ts2, rfl, hts2⟩ := vcons hts1
        obtain ⟨t3, ts3, rfl, hts3⟩ := vcons hts2
        obtain ⟨t4, ts4, rfl, hts4⟩ := vcons hts3
        obtain ⟨t5, ts5, rfl, hts5⟩ := vcons hts4
        obtain ⟨t6, ts6, rfl, hts6⟩ := vcons hts5
        obtain ⟨t7, ts7, rfl, hts7⟩ := vcons hts6
        obtain ⟨t8, ts8, rfl, hts8⟩ := vcons hts7
        obtain ⟨t9, ts9, rfl, hts9⟩ := vcons hts8
        obtain ⟨t10, ts10, rfl, hts10⟩ := vcons hts9
        obtain ⟨t11, ts11, rfl, hts11⟩ := vcons hts10
        obtain ⟨t12, ts12, rfl, hts12⟩ := vcons hts11
        obtain ⟨t13, ts13, rfl, hts13⟩ := vcons hts12
        obtain ⟨t14, ts14, rfl, hts14⟩ := vcons hts13
        obtain ⟨t15, ts15, rfl, hts15⟩ := vcons hts14
        obtain ⟨t16, ts16, rfl, hts16⟩ := vcons hts15
        obtain ⟨t17, ts17, rfl, hts17⟩ := vcons hts16
        obtain rfl := vnil hts17
        clear hts hts0 hts1 hts2 hts3 hts4 hts5 hts6 hts7 hts8 hts9 hts17
        simp only [putAll, nthO, Act.put, List.setIfInBounds_toArray, List.set_cons_succ, List.set_cons_zero]
        go_wp2_with fail
        exact ⟨Ext.refl _, _, rfl, rfl⟩
      · intro ts wx hts hX hd
        obtain ⟨t0, ts0, rfl, hts0⟩ := vcons hts
        obtain ⟨t1, ts1, rfl, hts1⟩ := vcons hts0
        obtain ⟨t2, ts2, rfl, hts2⟩ := vcons hts1
        obtain ⟨t3, ts3, rfl, hts3⟩ := vcons hts2
        obtain ⟨t4, ts4, rfl, hts4⟩ := vcons hts3
        obtain ⟨t5, ts5, rfl, hts5⟩ := vcons hts4
        obtain ⟨t6, ts6, rfl, hts6⟩ := vcons hts5
        obtain ⟨t7, ts7, rfl, hts7⟩ := vcons hts6
        obtain ⟨t8, ts8, rfl, hts8⟩ := vcons hts7
        obtain ⟨t9, ts9, rfl, hts9⟩ := vcons hts8
        obtain ⟨t10, ts10, rfl, hts10⟩ := vcons hts9
        obtain ⟨t11, ts11, rfl, hts11⟩ := vcons hts10
        obtain ⟨t12, ts12, rfl, hts12⟩ := vcons hts11
        obtain ⟨t13, ts13, rfl, hts13⟩ := vcons hts12
        obtain ⟨t14, ts14, rfl, hts14⟩ := vcons hts13
        obtain ⟨t15, ts15, rfl, hts15⟩ := vcons hts14
        obtain ⟨t16, ts16, rfl, hts16⟩ := vcons hts15
        obtain ⟨t17, ts17, rfl, hts17⟩ := vcons hts16
        obtain rfl := vnil hts17
        clear hts hts0 hts1 hts2 hts3 hts4 hts5 hts6 hts7 hts8 hts9 hts17
        simp only [putAll, nthO, Act.put, List.setIfInBounds_toArray, List.set_cons_succ, List.set_cons_zero]
        go_wp2_with fail
        exact ⟨Ext.refl _, _, rfl, rfl⟩
      · intro ts wx hts hX hd
        obtain ⟨t0, ts0, rfl, hts0⟩ := vcons hts
        obtain ⟨t1, ts1, rfl, hts1⟩ := vcons hts0
        obtain ⟨t2, ts2, rfl, hts2⟩ := vcons hts1
        obtain ⟨t3, ts3, rfl, hts3⟩ := vcons hts2
        obtain ⟨t4, ts4, rfl, hts4⟩ := vcons hts3
        obtain ⟨t5, ts5, rfl, hts5⟩ := vcons hts4
        obtain ⟨t6, ts6, rfl, hts6⟩ := vcons hts5
        obtain ⟨t7, ts7, rfl, hts7⟩ := vcons hts6
        obtain ⟨t8, ts8, rfl, hts8⟩ := vcons hts7
        obtain ⟨t9, ts9, rfl, hts9⟩ := vcons hts8
        obtain ⟨t10, ts10, rfl, hts10⟩ := vcons hts9
        obtain ⟨t11, ts11, rfl, hts11⟩ := vcons hts10
        obtain ⟨t12, ts12, rfl, hts12⟩ := vcons hts11
        obtain ⟨t13, ts13, rfl, hts13⟩ := vcons hts12
        obtain ⟨t14, ts14, rfl, hts14⟩ := vcons hts13
        obtain ⟨t15, ts15, rfl, hts15⟩ := vcons hts14
        obtain ⟨t16, ts16, rfl, hts16⟩ := vcons hts15
        obtain ⟨t17, ts17, rfl, hts17⟩ := vcons hts16
        obtain rfl := vnil hts17
        clear hts hts0 hts1 hts2 hts3 hts4 hts5 hts6 hts7 hts8 hts9 hts17
        simp only [putAll, nthO, Act.put, List.setIfInBounds_toArray, List.set_cons_succ, List.set_cons_zero]
        obtain ⟨-, -, -, -, -, -, rfl, -⟩ := hd
        go_wp2_with fail
        refine (k_toReads R nr cr rd _ (hR.ext ((X31).trans hX)) m5).mono ?_
        rintro e wy ⟨v, rfl, hk, hxy⟩
        go_wp2_with fail
        exact ⟨hxy, _, rfl, hk⟩
      · intro ts wx hts hX hd
        obtain ⟨t0, ts0, rfl, hts0⟩ := vcons hts
        obtain ⟨t1, ts1, rfl, hts1⟩ := vcons hts0
        obtain ⟨t2, ts2, rfl, hts2⟩ := vcons hts1
        obtain ⟨t3, ts3, rfl, hts3⟩ := vcons hts2
        obtain ⟨t4, ts4, rfl, hts4⟩ := vcons hts3
        obtain ⟨t5, ts5, rfl, hts5⟩ := vcons hts4
        obtain ⟨t6, ts6, rfl, hts6⟩ := vcons hts5
        obtain ⟨t7, ts7, rfl, hts7⟩ := vcons hts6
        obtain ⟨t8, ts8, rfl, hts8⟩ := vcons hts7
        obtain ⟨t9, ts9, rfl, hts9⟩ := vcons hts8
        obtain ⟨t10, ts10, rfl, hts10⟩ := vcons hts9
        obtain ⟨t11, ts11, rfl, hts11⟩ := vcons hts10
        obtain ⟨t12, ts12, rfl, hts12⟩ := vcons hts11
        obtain ⟨t13, ts13, rfl, hts13⟩ := vcons hts12
        obtain ⟨t14, ts14, rfl, hts14⟩ := vcons hts13
        obtain ⟨t15, ts15, rfl, hts15⟩ := vcons hts14
        obtain ⟨t16, ts16, rfl, hts16⟩ := vcons hts15
        obtain ⟨t17, ts17, rfl, hts17⟩ := vcons hts16
        obtain rfl := vnil hts17
        clear hts hts0 hts1 hts2 hts3 hts4 hts5 hts6 hts7 hts8 hts9 hts17
        simp only [putAll, nthO, Act.put, List.setIfInBounds_toArray, List.set_cons_succ, List.set_cons_zero]
        have hTr := hT.ext ((hx031).trans hX)
        have y0 := hTr.cell 0
        have y1 := hTr.cell 1
        have y2 := hTr.cell 2
        have y3 := hTr.cell 3
        simp at y0 y1 y2 y3
        have hyl := hTr.lt
        go_wp2_with fail
        exact ⟨Ext.refl _, _, rfl, rfl⟩
      · intro ts wx hts hX hd
        obtain ⟨t0, ts0, rfl, hts0⟩ := vcons hts
        obtain ⟨t1, ts1, rfl, hts1⟩ := vcons hts0
        obtain ⟨t2, ts2, rfl, hts2⟩ := vcons hts1
        obtain ⟨t3, ts3, rfl, hts3⟩ := vcons hts2
        obtain ⟨t4, ts4, rfl, hts4⟩ := vcons hts3
        obtain ⟨t5, ts5, rfl, hts5⟩ := vcons hts4
        obtain ⟨t6, ts6, rfl, hts6⟩ := vcons hts5
        obtain ⟨t7, ts7, rfl, hts7⟩ := vcons hts6
        obtain ⟨t8, ts8, rfl, hts8⟩ := vcons hts7
        obtain ⟨t9, ts9, rfl, hts9⟩ := vcons hts8
        obtain ⟨t10, ts10, rfl, hts10⟩ := vcons hts9
        obtain ⟨t11, ts11, rfl, hts11⟩ := vcons hts10
        obtain ⟨t12, ts12, rfl, hts12⟩ := vcons hts11
        obtain ⟨t13, ts13, rfl, hts13⟩ := vcons hts12
        obtain ⟨t14, ts14, rfl, hts14⟩ := vcons hts13
        obtain ⟨t15, ts15, rfl, hts15⟩ := vcons hts14
        obtain ⟨t16, ts16, rfl, hts16⟩ := vcons hts15
        obtain ⟨t17, ts17, rfl, hts17⟩ := vcons hts16
        obtain rfl := vnil hts17
        clear hts hts0 hts1 hts2 hts3 hts4 hts5 hts6 hts7 hts8 hts9 hts17
        simp only [putAll, nthO, Act.put, List.setIfInBounds_toArray, List.set_cons_succ, List.set_cons_zero]
        obtain ⟨-, -, -, -, -, -, -, -, rfl, -⟩ := hd
        go_wp2_with fail
        refine (k_toTerms band percent price K kn kc ts _ (hK.ext ((X31).trans hX)) m6).mono ?_
        rintro e wy ⟨v, rfl, hk, hxy⟩
        go_wp2_with fail
        exact ⟨hxy, _, rfl, hk⟩
      · intro ts wx hts hX hd
        obtain ⟨t0, ts0, rfl, hts0⟩ := vcons hts
        obtain ⟨t1, ts1, rfl, hts1⟩ := vcons hts0
        obtain ⟨t2, ts2, rfl, hts2⟩ := vcons hts1
        obtain ⟨t3, ts3, rfl, hts3⟩ := vcons hts2
        obtain ⟨t4, ts4, rfl, hts4⟩ := vcons hts3
        obtain ⟨t5, ts5, rfl, hts5⟩ := vcons hts4
        obtain ⟨t6, ts6, rfl, hts6⟩ := vcons hts5
        obtain ⟨t7, ts7, rfl, hts7⟩ := vcons hts6
        obtain ⟨t8, ts8, rfl, hts8⟩ := vcons hts7
        obtain ⟨t9, ts9, rfl, hts9⟩ := vcons hts8
        obtain ⟨t10, ts10, rfl, hts10⟩ := vcons hts9
        obtain ⟨t11, ts11, rfl, hts11⟩ := vcons hts10
        obtain ⟨t12, ts12, rfl, hts12⟩ := vcons hts11
        obtain ⟨t13, ts13, rfl, hts13⟩ := vcons hts12
        obtain ⟨t14, ts14, rfl, hts14⟩ := vcons hts13
        obtain ⟨t15, ts15, rfl, hts15⟩ := vcons hts14
        obtain ⟨t16, ts16, rfl, hts16⟩ := vcons hts15
        obtain ⟨t17, ts17, rfl, hts17⟩ := vcons hts16
        obtain rfl := vnil hts17
        clear hts hts0 hts1 hts2 hts3 hts4 hts5 hts6 hts7 hts8 hts9 hts17
        simp only [putAll, nthO, Act.put, List.setIfInBounds_toArray, List.set_cons_succ, List.set_cons_zero]
        obtain ⟨-, k1, -, k3, -, k5, rfl, -, k8, -, k10, -⟩ := hd
        go_wp2_with fail
        refine (k_impl k1 k3 k5 k8 k10).mono ?_
        rw [HRR.out]
        rintro e wy ⟨v, rfl, hk, hxy⟩
        go_wp2_with fail
        exact ⟨hxy, _, rfl, hk⟩
      · intro ts wx hts hX hd
        obtain ⟨t0, ts0, rfl, hts0⟩ := vcons hts
        obtain ⟨t1, ts1, rfl, hts1⟩ := vcons hts0
        obtain ⟨t2, ts2, rfl, hts2⟩ := vcons hts1
        obtain ⟨t3, ts3, rfl, hts3⟩ := vcons hts2
        obtain ⟨t4, ts4, rfl, hts4⟩ := vcons hts3
        obtain ⟨t5, ts5, rfl, hts5⟩ := vcons hts4
        obtain ⟨t6, ts6, rfl, hts6⟩ := vcons hts5
        obtain ⟨t7, ts7, rfl, hts7⟩ := vcons hts6
        obtain ⟨t8, ts8, rfl, hts8⟩ := vcons hts7
        obtain ⟨t9, ts9, rfl, hts9⟩ := vcons hts8
        obtain ⟨t10, ts10, rfl, hts10⟩ := vcons hts9
        obtain ⟨t11, ts11, rfl, hts11⟩ := vcons hts10
        obtain ⟨t12, ts12, rfl, hts12⟩ := vcons hts11
        obtain ⟨t13, ts13, rfl, hts13⟩ := vcons hts12
        obtain ⟨t14, ts14, rfl, hts14⟩ := vcons hts13
        obtain ⟨t15, ts15, rfl, hts15⟩ := vcons hts14
        obtain ⟨t16, ts16, rfl, hts16⟩ := vcons hts15
        obtain ⟨t17, ts17, rfl, hts17⟩ := vcons hts16
        obtain rfl := vnil hts17
        clear hts hts0 hts1 hts2 hts3 hts4 hts5 hts6 hts7 hts8 hts9 hts17
        simp only [putAll, nthO, Act.put, List.setIfInBounds_toArray, List.set_cons_succ, List.set_cons_zero]
        obtain ⟨-, -, -, -, -, -, -, -, -, -, -, hk, -⟩ := hd
        go_wp2_with fail
        exact ⟨Ext.refl _, _, rfl, hk⟩
      · intro ts wx hts hX hd
        obtain ⟨t0, ts0, rfl, hts0⟩ := vcons hts
        obtain ⟨t1, ts1, rfl, hts1⟩ := vcons hts0
        obtain ⟨t2, ts2, rfl, hts2⟩ := vcons hts1
        obtain ⟨t3, ts3, rfl, hts3⟩ := vcons hts2
        obtain ⟨t4, ts4, rfl, hts4⟩ := vcons hts3
        obtain ⟨t5, ts5, rfl, hts5⟩ := vcons hts4
        obtain ⟨t6, ts6, rfl, hts6⟩ := vcons hts5
        obtain ⟨t7, ts7, rfl, hts7⟩ := vcons hts6
        obtain ⟨t8, ts8, rfl, hts8⟩ := vcons hts7
        obtain ⟨t9, ts9, rfl, hts9⟩ := vcons hts8
        obtain ⟨t10, ts10, rfl, hts10⟩ := vcons hts9
        obtain ⟨t11, ts11, rfl, hts11⟩ := vcons hts10
        obtain ⟨t12, ts12, rfl, hts12⟩ := vcons hts11
        obtain ⟨t13, ts13, rfl, hts13⟩ := vcons hts12
        obtain ⟨t14, ts14, rfl, hts14⟩ := vcons hts13
        obtain ⟨t15, ts15, rfl, hts15⟩ := vcons hts14
        obtain ⟨t16, ts16, rfl, hts16⟩ := vcons hts15
        obtain ⟨t17, ts17, rfl, hts17⟩ := vcons hts16
        obtain rfl := vnil hts17
        clear hts hts0 hts1 hts2 hts3 hts4 hts5 hts6 hts7 hts8 hts9 hts17
        simp only [putAll, nthO, Act.put, List.setIfInBounds_toArray, List.set_cons_succ, List.set_cons_zero]
        obtain ⟨-, -, -, -, -, -, -, -, -, -, -, -, ⟨a, rfl, hk⟩, -⟩ := hd
        go_wp2_with fail
        exact ⟨Ext.refl _, _, rfl, hk⟩
      · intro ts wx hts hX hd
        obtain ⟨t0, ts0, rfl, hts0⟩ := vcons hts
        obtain ⟨t1, ts1, rfl, hts1⟩ := vcons hts0
        obtain ⟨t2, ts2, rfl, hts2⟩ := vcons hts1
        obtain ⟨t3, ts3, rfl, hts3⟩ := vcons hts2
        obtain ⟨t4, ts4, rfl, hts4⟩ := vcons hts3
        obtain ⟨t5, ts5, rfl, hts5⟩ := vcons hts4
        obtain ⟨t6, ts6, rfl, hts6⟩ := vcons hts5
        obtain ⟨t7, ts7, rfl, hts7⟩ := vcons hts6
        obtain ⟨t8, ts8, rfl, hts8⟩ := vcons hts7
        obtain ⟨t9, ts9, rfl, hts9⟩ := vcons hts8
        obtain ⟨t10, ts10, rfl, hts10⟩ := vcons hts9
        obtain ⟨t11, ts11, rfl, hts11⟩ := vcons hts10
        obtain ⟨t12, ts12, rfl, hts12⟩ := vcons hts11
        obtain ⟨t13, ts13, rfl, hts13⟩ := vcons hts12
        obtain ⟨t14, ts14, rfl, hts14⟩ := vcons hts13
        obtain ⟨t15, ts15, rfl, hts15⟩ := vcons hts14
        obtain ⟨t16, ts16, rfl, hts16⟩ := vcons hts15
        obtain ⟨t17, ts17, rfl, hts17⟩ := vcons hts16
        obtain rfl := vnil hts17
        clear hts hts0 hts1 hts2 hts3 hts4 hts5 hts6 hts7 hts8 hts9 hts17
        simp only [putAll, nthO, Act.put, List.setIfInBounds_toArray, List.set_cons_succ, List.set_cons_zero]
        go_wp2_with fail
        exact ⟨Ext.alloc _ _, _, rfl, ⟨_, rfl, Row.new _ _ _, hX.size⟩⟩
    · refine ⟨?_, trivial⟩
      intro ts wx hts hX hd
      obtain ⟨t0, ts0, rfl, hts0⟩ := vcons hts
      obtain ⟨t1, ts1, rfl, hts1⟩ := vcons hts0
      obtain ⟨t2, ts2, rfl, hts2⟩ := vcons hts1
      obtain ⟨t3, ts3, rfl, hts3⟩ := vcons hts2
      obtain ⟨t4, ts4, rfl, hts4⟩ := vcons hts3
      obtain ⟨t5, ts5, rfl, hts5⟩ := vcons hts4
      obtain ⟨t6, ts6, rfl, hts6⟩ := vcons hts5
      obtain ⟨t7, ts7, rfl, hts7⟩ := vcons hts6
      obtain ⟨t8, ts8, rfl, hts8⟩ := vcons hts7
      obtain ⟨t9, ts9, rfl, hts9⟩ := vcons hts8
      obtain ⟨t10, ts10, rfl, hts10⟩ := vcons hts9
      obtain ⟨t11, ts11, rfl, hts11⟩ := vcons hts10
      obtain ⟨t12, ts12, rfl, hts12⟩ := vcons hts11
      obtain ⟨t13, ts13, rfl, hts13⟩ := vcons hts12
      obtain ⟨t14, ts14, rfl, hts14⟩ := vcons hts13
      obtain ⟨t15, ts15, rfl, hts15⟩ := vcons hts14
      obtain ⟨t16, ts16, rfl, hts16⟩ := vcons hts15
      obtain ⟨t17, ts17, rfl, hts17⟩ := vcons hts16
      obtain rfl := vnil hts17
      clear hts hts0 hts1 hts2 hts3 hts4 hts5 hts6 hts7 hts8 hts9 hts17
      simp only [putAll, nthO, Act.put, List.setIfInBounds_toArray, List.set_cons_succ, List.set_cons_zero]
      obtain ⟨-, -, -, -, -, -, -, -, -, -, -, -, ⟨a, rfl, hk⟩, -⟩ := hd
      repeat (go_big_quiet_step (fail))
      exact wpQuiet_nil ⟨_, rfl, rfl⟩
    ·
      intro ts wx hts hX hd
      obtain ⟨t0, ts0, rfl, hts0⟩ := vcons hts
      obtain ⟨t1, ts1, rfl, hts1⟩ := vcons hts0
      obtain ⟨t2, ts2, rfl, hts2⟩ := vcons hts1
      obtain ⟨t3, ts3, rfl, hts3⟩ := vcons hts2
      obtain ⟨t4, ts4, rfl, hts4⟩ := vcons hts3
      obtain ⟨t5, ts5, rfl, hts5⟩ := vcons hts4
      obtain ⟨t6, ts6, rfl, hts6⟩ := vcons hts5
      obtain ⟨t7, ts7, rfl, hts7⟩ := vcons hts6
      obtain ⟨t8, ts8, rfl, hts8⟩ := vcons hts7
      obtain ⟨t9, ts9, rfl, hts9⟩ := vcons hts8
      obtain ⟨t10, ts10, rfl, hts10⟩ := vcons hts9
      obtain ⟨t11, ts11, rfl, hts11⟩ := vcons hts10
      obtain ⟨t12, ts12, rfl, hts12⟩ := vcons hts11
      obtain ⟨t13, ts13, rfl, hts13⟩ := vcons hts12
      obtain ⟨t14, ts14, rfl, hts14⟩ := vcons hts13
      obtain ⟨t15, ts15, rfl, hts15⟩ := vcons hts14
      obtain ⟨t16, ts16, rfl, hts16⟩ := vcons hts15
      obtain ⟨t17, ts17, rfl, hts17⟩ := vcons hts16
      obtain rfl := vnil hts17
      clear hts hts0 hts1 hts2 hts3 hts4 hts5 hts6 hts7 hts8 hts9 hts17
      simp only [putAll, Act.put, List.setIfInBounds_toArray, List.set_cons_succ, List.set_cons_zero]
      obtain ⟨-, -, -, -, -, -, -, -, -, -, -, -, -, h13, ⟨gH, rfl, hg, hgl⟩, h14, -⟩ := hd
      obtain ⟨S0, S1, S2, S3, S4, s0, e0, s1, e1, s2, e2, s3, e3, s4, e4, rfl, hS0⟩ := h13
      obtain rfl := h14
      have p0 := hg.cell 0
      have p1 := hg.cell 1
      have p2 := hg.cell 2
      have p3 := hg.cell 3
      have p4 := hg.cell 4
      have pf := hg.frozen
      have pl := hg.lt
      simp only [List.getElem?_cons_zero, List.getElem?_cons_succ] at p0 p1 p2 p3 p4
      simp only [wpPhT, pickL, nthO]
      refine wpQuiet_nil ?_
      go_wp2_with fail
      refine ⟨fun _ h => (by cases h), ?_⟩
      repeat (go_big_quiet_step (fail))
      refine wpQuiet_nil ?_
      have rH := five_rowS (u0 := .slice S0 s0 e0) (u1 := .slice S1 s1 e1) (u2 := .slice S2 s2 e2) (u3 := .slice S3 s3 e3) (u4 := .slice S4 s4 e4) hg
      have tS := Turn.fiveS (g := gH) wx (.slice S0 s0 e0) (.slice S1 s1 e1) (.slice S2 s2 e2) (.slice S3 s3 e3) (.slice S4 s4 e4)
      have hX32 : Ext w31 (((((wx.setCell ⟨gH, 0, none⟩ (.slice S0 s0 e0)).setCell ⟨gH, 1, none⟩ (.slice S1 s1 e1)).setCell ⟨gH, 2, none⟩ (.slice S2 s2 e2)).setCell ⟨gH, 3, none⟩ (.slice S3 s3 e3)).setCell ⟨gH, 4, none⟩ (.slice S4 s4 e4)) := hX.turn tS (fun b hb => by omega)
      have hH : StlAt (((((wx.setCell ⟨gH, 0, none⟩ (.slice S0 s0 e0)).setCell ⟨gH, 1, none⟩ (.slice S1 s1 e1)).setCell ⟨gH, 2, none⟩ (.slice S2 s2 e2)).setCell ⟨gH, 3, none⟩ (.slice S3 s3 e3)).setCell ⟨gH, 4, none⟩ (.slice S4 s4 e4)) S0 S1 S2 S3 S4 s0 e0 s1 e1 s2 e2 s3 e3 s4 e4 RR.1 := stl_far hS0 hg tS
      generalize (((((wx.setCell ⟨gH, 0, none⟩ (.slice S0 s0 e0)).setCell ⟨gH, 1, none⟩ (.slice S1 s1 e1)).setCell ⟨gH, 2, none⟩ (.slice S2 s2 e2)).setCell ⟨gH, 3, none⟩ (.slice S3 s3 e3)).setCell ⟨gH, 4, none⟩ (.slice S4 s4 e4)) = w32 at *
      clear p0 p1 p2 p3 p4 pf pl tS hS0 hg
      have F32 := F31.trans hX32
      have rSr := rSO.ext (F32)
      have q0 := rSr.cell 0
      have q1 := rSr.cell 1
      have q2 := rSr.cell 2
      have q3 := rSr.cell 3
      have q4 := rSr.cell 4
      simp at q0 q1 q2 q3 q4
      have ql := rSr.lt
      have h0 := rH.cell 0
      have h1' := rH.cell 1
      have h2' := rH.cell 2
      have h3 := rH.cell 3
      have h4 := rH.cell 4
      simp at h0 h1' h2' h3 h4
      have hl := rH.lt
      go_wp2_with fail
      refine (c_eqStl _ _ _ _ _ _ _ _ _ _ _ _ _ _ _ _ _ _ _ _ _ _ _ _ _ _ _ _ _ _ RR.1 _ hH (hSO.ext F32)).mono ?_
      rintro e w33 ⟨rfl, hx33⟩
      have hx3133 := hX32.trans hx33
      clear h0 h1' h2' h3 h4 hl rH
      clear rSr q0 q1 q2 q3 q4 ql
      have bGr := bG.ext (hx3133)
      have k0 := bGr.cell 0
      have k1 := bGr.cell 1
      have k2 := bGr.cell 2
      have k3 := bGr.cell 3
      have k4 := bGr.cell 4
      simp at k0 k1 k2 k3 k4
      have kl := bGr.lt
      go_wp2_with fail
      refine (c_heldSettlement G0 G1 G2 G3 G4 g0 f0 g1 f1 g2 f2 g3 f3 g4 f4 1 _ (hM.ext hx3133).at_ hsm (by omega) (by omega)).mono ?_
      rw [HMK.out]
      rintro e w34 ⟨rfl, hx34⟩
      clear bGr k0 k1 k2 k3 k4 kl
      go_wp2_with fail
      go_ret
      exact Ret.bool rfl (X31.trans (hx3133.trans hx34))
end Go.Proofs.YtpgbmhpddgjccaaGreat
