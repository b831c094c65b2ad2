/-
  Lists of nominations: validity, of the program and of the reference. The helpers of the laws on Reading: copying, comparing, measuring, marking.
-/
import Derived.Test.YtfkpghdmljjegaaGreatVb10
import Derived.Test.YtfkpghdmljjegaaGreatVb09
import Derived.Test.YtfkpghdmljjegaaGreatVb04
import Derived.Test.YtfkpghdmljjegaaGreatVb01
namespace Go.Proofs.YtfkpghdmljjegaaGreat
open Go.RowKit
def prevOk (L : List Nomination) (i : Nat) (s : Int) : Bool := if i = 0 then true else match L[i - 1]? with
  | some y => decide (y.sent ≤ s)
  | none => true
def nomOkB (xs : List Contract) (L : List Nomination) (i : Nat) : Bool := match L[i]? with
  | some x => nomB xs x && prevOk L i x.sent
  | none => true
def nomsB (xs : List Contract) (L : List Nomination) : Bool := decide (L.length ≤ 200) && (List.range L.length).all (nomOkB xs L)
theorem nomOk_at {xs : List Contract} {L : List Nomination} {k : Nat} {x : Nomination} (h : L[k]? = some x) : nomOkB xs L k = (nomB xs x && prevOk L k x.sent) := by unfold nomOkB; rw [h]
theorem noms_no {xs : List Contract} {L : List Nomination} {n k : Nat} (hn : n = L.length) (hk : k < n) (h : nomOkB xs L k = false) : nomsB xs L = false := by
  unfold nomsB
  rw [all_range_false (by omega) h]; simp
theorem noms_yes {xs : List Contract} {L : List Nomination} {n : Nat} (hn : n = L.length) (h200 : n ≤ 200) (h : ∀ j, j < n → nomOkB xs L j = true) : nomsB xs L = true := by
  subst hn
  unfold nomsB
  rw [all_range_true h]; simp [h200]
theorem noms_long {xs : List Contract} {L : List Nomination} {n : Nat} (hn : n = L.length) (h : ¬ n ≤ 200) : nomsB xs L = false := by
  subst hn
  unfold nomsB; simp [h]
theorem prev_zero (L : List Nomination) (s : Int) : prevOk L 0 s = true := rfl
theorem prev_at {L : List Nomination} {k : Nat} {s : Int} {y : Nomination} (h : L[k]? = some y) : prevOk L (k + 1) s = decide (y.sent ≤ s) := by
  unfold prevOk; rw [if_neg (by omega), Nat.add_sub_cancel, h]
def nomC (n1 : Int) (ns : List Node) (ps : List Pipe) (xs : List Contract) (L : List Nomination) : Int := if bookC n1 ns ps xs = 0 then (if nomsB xs L = false then 5 else 0) else bookC n1 ns ps xs
theorem book_zero {n1 : Int} {ns : List Node} {ps : List Pipe} {xs : List Contract} (h : bookC n1 ns ps xs = 0) : netB ns ps = true ∧ bookB n1 xs = true := by
  unfold bookC at h
  split at h
  · cases h
  · split at h
    · cases h
    · simp_all
set_option maxHeartbeats 4000000 in
theorem c_checkNominations (A1 A2 : Option Addr) (n1 c1 n2 c2 : Nat) (ns : List Node) (ps : List Pipe) (A : Option Addr) (n c : Nat) (xs : List Contract) (B : Option Addr) (m d : Nat) (L : List Nomination) (w : World) (hs1 : SliceOf w 3 Node.cells A1 n1 c1 ns) (hs2 : SliceOf w 5 Pipe.cells A2 n2 c2 ps) (hs : SliceOf w 8 Contract.cells A n c xs) (hL : SliceOf w 4 Nomination.cells B m d L) :
    Calls Tryz.prog 216 #[.agg #[.slice A1 n1 c1, .slice A2 n2 c2], .slice A n c, .slice B m d] w (Ret (.int .i64 (nomC n1 ns ps xs L)) w) := by
  have hm := hL.max
  have hcap := hL.cap
  have HL := hide hL.len
  by_cases hb0 : bookC n1 ns ps xs = 0
  case neg =>
    have hb1 : (bookC n1 ns ps xs != 0) = true := by simpa using hb0
    have HR := hide (show nomC n1 ns ps xs L = bookC n1 ns ps xs by simp [nomC, hb0])
    clear hb0
    go_enter Tryz.func216, Tryz.ntmps216
    go_wp2_with fail
    refine (c_checkBook A1 A2 n1 c1 n2 c2 ns ps A n c xs _ (hs1.ext (Ext.alloc _ _)) (hs2.ext (Ext.alloc _ _)) (hs.ext (Ext.alloc _ _))).mono ?_
    generalize bookC n1 ns ps xs = B0 at *
    rintro e w1 ⟨rfl, hx1⟩
    go_wp2_with fail
    go_ret
    exact Ret.int HR.out hx1.box
  have hok := book_hours (book_zero hb0).2
  have HOK := hide hok
  have HB := hide hb0
  have HRn := hide (show nomsB xs L = false → nomC n1 ns ps xs L = 5 by intro h; simp [nomC, hb0, h])
  have HRy := hide (show nomsB xs L = true → nomC n1 ns ps xs L = 0 by intro h; simp [nomC, hb0, h])
  clear hok hb0
  by_cases h200 : m ≤ 200
  case neg =>
    have HR := hide (HRn.out (noms_long HL.out h200))
    have h2' : (200 : Int) < m := by omega
    go_enter Tryz.func216, Tryz.ntmps216
    go_wp2_with fail
    refine (c_checkBook A1 A2 n1 c1 n2 c2 ns ps A n c xs _ (hs1.ext (Ext.alloc _ _)) (hs2.ext (Ext.alloc _ _)) (hs.ext (Ext.alloc _ _))).mono ?_
    rw [HB.out]
    rintro e w1 ⟨rfl, hx1⟩
    go_wp2_with fail
    go_ret
    exact Ret.int HR.out hx1.box
  go_enter Tryz.func216, Tryz.ntmps216
  go_wp2_with fail
  refine (c_checkBook A1 A2 n1 c1 n2 c2 ns ps A n c xs _ (hs1.ext (Ext.alloc _ _)) (hs2.ext (Ext.alloc _ _)) (hs.ext (Ext.alloc _ _))).mono ?_
  rw [HB.out]
  rintro e w1 ⟨rfl, hx1⟩
  have hx0 := hx1.box
  clear hx1
  go_wp2_with fail
  go_loopw [21] (fun i wr => ∃ k : Nat, k ≤ m ∧ i = .int .i64 k ∧ Hid (∀ j, j < k → nomOkB xs L j = true) ∧ Ext w wr) (fun i _ => m - (intOf i).toNat)
  case atStart => exact ⟨0, Nat.zero_le _, rfl, hide (fun j hj => absurd hj (by omega)), hx0⟩
  case round =>
    obtain ⟨k, hk, rfl, HK, hx⟩ := hrel
    clear hx0
    by_cases hlt : k < m
    · obtain ⟨bb, off, x, rfl, hbb, hxk, t⟩ := (hL.ext hx).get hlt
      have t0 := (t 0 _ rfl)
      have t1 := (t 1 _ rfl)
      have t2 := (t 2 _ rfl)
      have t3 := (t 3 _ rfl)
      simp only [Nat.add_zero] at t0
      clear t
      have HX := hide (nomOk_at (xs := xs) hxk)
      have hR := Row.new wr 157 [.int .i64 x.contract, .int .i64 x.hour, .int .i64 x.sent, .int .i64 x.amount]
      have q0 := hR.cell 0
      have q1 := hR.cell 1
      have q2 := hR.cell 2
      have q3 := hR.cell 3
      simp at q0 q1 q2 q3
      have hl := hR.lt
      have hL' := hL.ext hx
      clear hxk
      rcases Nat.eq_zero_or_pos k with hk0 | hk0
      · have HP := hide (show prevOk L k x.sent = true by rw [hk0]; exact prev_zero L x.sent)
        have hk0' : decide (0 < k) = false := by simp; omega
        clear hk0
        rw [HP.out, Bool.and_true] at HX
        go_wp2_with fail
        refine wp_region_ph [([0, 1], 2)] [3, 4, 5, 6, 7, 8, 9, 10, 11, 12, 13, 14, 15, 16, 17, 18] (by kernel_rfl) (by kernel_rfl) (by intro c a w d v h; cases d <;> exact h) ?_
        simp only [wpPh, pickL, nthO]
        repeat (go_big_quiet_step (fail))
        refine wpQuiet_nil ?_
        go_wp2_with fail
        refine (c_isNomination A n c xs x _ (hs.ext ((hx.and_alloc _).drew)) HOK.out).mono ?_
        cases hp : nomB xs x
        · rw [hp] at HX
          have HR := hide (HRn.out (noms_no HL.out hlt HX.out))
          rintro e w2 ⟨rfl, hx2⟩
          go_wp2_with fail
          refine ⟨hx2, ?_⟩
          repeat (go_big_quiet_step (fail))
          refine wpQuiet_nil ?_
          go_wp2_with fail
          go_ret
          exact Ret.int HR.out ((hx.and_alloc _).drew.trans hx2)
        · rw [hp] at HX
          have HO := hide (all_upto HK.out HX.out)
          rintro e w2 ⟨rfl, hx2⟩
          go_wp2_with fail
          refine ⟨hx2, ?_⟩
          repeat (go_big_quiet_step (fail))
          refine wpQuiet_nil ?_
          go_wp2_with fail
          go_roundw
          case rel => exact ⟨k + 1, by omega, by go_num, HO, (hx.and_alloc _).drew.trans hx2⟩
          case measure => simp [intOf]; omega
      · obtain ⟨k', hkk⟩ : ∃ k', k = k' + 1 := ⟨k - 1, by omega⟩
        have hk1 : k' < m := by omega
        obtain ⟨y, hyk, u⟩ := hL'.at_ hk1
        have u2 := u 2 _ rfl
        have HP := hide (show prevOk L k x.sent = decide (y.sent ≤ x.sent) by rw [hkk]; exact prev_at (s := x.sent) hyk)
        have hidx : (k : Int) - 1 = (k' : Int) := by omega
        have hk0' : decide (0 < k) = true := by simp; omega
        clear u hyk hkk
        go_wp2_with fail
        refine wp_region_ph [([0, 1], 2)] [3, 4, 5, 6, 7, 8, 9, 10, 11, 12, 13, 14, 15, 16, 17, 18] (by kernel_rfl) (by kernel_rfl) (by intro c a w d v h; cases d <;> exact h) ?_
        simp only [wpPh, pickL, nthO]
        repeat (go_big_quiet_step (fail))
        refine wpQuiet_nil ?_
        go_wp2_with fail
        refine (c_isNomination A n c xs x _ (hs.ext ((hx.and_alloc _).drew)) HOK.out).mono ?_
        cases hp : nomB xs x
        · rw [hp] at HX
          have HR := hide (HRn.out (noms_no HL.out hlt HX.out))
          rintro e w2 ⟨rfl, hx2⟩
          go_wp2_with fail
          refine ⟨hx2, ?_⟩
          repeat (go_big_quiet_step (fail))
          refine wpQuiet_nil ?_
          go_wp2_with fail
          go_ret
          exact Ret.int HR.out ((hx.and_alloc _).drew.trans hx2)
        rw [hp] at HX
        rintro e w2 ⟨rfl, hx2⟩
        have hxa := (Ext.refl (wr.alloc (.cells #[.int .i64 x.contract, .int .i64 x.hour, .int .i64 x.sent, .int .i64 x.amount] 157))).drew.trans hx2
        have hR2 := hR.ext hxa
        have v2 := hR2.cell 2
        simp at v2
        have hl2 := hR2.lt
        have u2' : w2.cell? ⟨bb, off + k' * 4 + 2, none⟩ = some (.int .i64 y.sent) := ((hxa.box).cell _ _ hbb).trans u2
        have hbb2 : bb < w2.heap.size := Nat.lt_of_lt_of_le hbb hxa.box.size
        by_cases hq : y.sent ≤ x.sent
        · rw [HP.out, decide_eq_true hq] at HX
          have HO := hide (all_upto HK.out HX.out)
          have hq' : decide (x.sent < y.sent) = false := by simp; omega
          go_wp2_with fail
          refine ⟨hx2, ?_⟩
          repeat (go_big_quiet_step (fail))
          refine wpQuiet_nil ?_
          go_wp2_with fail
          go_roundw
          case rel => exact ⟨k + 1, by omega, by go_num, HO, hx.trans hxa.box⟩
          case measure => simp [intOf]; omega
        · rw [HP.out, decide_eq_false hq] at HX
          have HR := hide (HRn.out (noms_no HL.out hlt HX.out))
          have hq' : decide (x.sent < y.sent) = true := by simp; omega
          go_wp2_with fail
          refine ⟨hx2, ?_⟩
          repeat (go_big_quiet_step (fail))
          refine wpQuiet_nil ?_
          go_wp2_with fail
          go_ret
          exact Ret.int HR.out (hx.trans hxa.box)
    · have HR := hide (HRy.out (noms_yes HL.out h200 (fun j hj => HK.out j (by omega))))
      go_wp2_with fail
      go_ret
      exact Ret.int HR.out hx

set_option maxHeartbeats 4000000 in
theorem c_l21List (A : Option Addr) (n c : Nat) (xs : List Contract) (B : Option Addr) (m d : Nat) (L : List Nomination) (w : World) (hs : SliceOf w 8 Contract.cells A n c xs) (hL : SliceOf w 4 Nomination.cells B m d L) (hok : HoursOk xs) :
    Calls Tryz.prog 229 #[.slice A n c, .slice B m d] w (Ret (.bool (nomsB xs L)) w) := by
  have hm := hL.max
  have hcap := hL.cap
  have HL := hide hL.len
  have HOK := hide hok
  clear hok
  by_cases h200 : m ≤ 200
  case neg =>
    have HR := hide (noms_long (xs := xs) HL.out h200)
    have h2' : (200 : Int) < m := by omega
    go_enter Tryz.func229, Tryz.ntmps229
    go_wp2_with fail
    go_ret
    exact Ret.bool HR.out (Ext.refl _)
  go_enter Tryz.func229, Tryz.ntmps229
  go_wp2_with fail
  go_loopw [5] (fun i wr => ∃ k : Nat, k ≤ m ∧ i = .int .i64 k ∧ Hid (∀ j, j < k → nomOkB xs L j = true) ∧ Ext w wr) (fun i _ => m - (intOf i).toNat)
  case atStart => exact ⟨0, Nat.zero_le _, rfl, hide (fun j hj => absurd hj (by omega)), Ext.refl _⟩
  case round =>
    obtain ⟨k, hk, rfl, HK, hx⟩ := hrel
    by_cases hlt : k < m
    · obtain ⟨bb, off, x, rfl, hbb, hxk, t⟩ := (hL.ext hx).get hlt
      have t0 := (t 0 _ rfl)
      have t1 := (t 1 _ rfl)
      have t2 := (t 2 _ rfl)
      have t3 := (t 3 _ rfl)
      simp only [Nat.add_zero] at t0
      clear t
      have HX := hide (nomOk_at (xs := xs) hxk)
      have hL' := hL.ext hx
      clear hxk
      rcases Nat.eq_zero_or_pos k with hk0 | hk0
      · have HP := hide (show prevOk L k x.sent = true by rw [hk0]; exact prev_zero L x.sent)
        have hk0' : decide (0 < k) = false := by simp; omega
        clear hk0
        rw [HP.out, Bool.and_true] at HX
        go_wp2_with fail
        refine wp_region_ph [([0, 1, 2, 3, 4], 5)] [6, 7, 8, 9, 10, 11, 12, 13, 14, 15, 16, 17, 18, 19, 20, 21, 22, 23, 24] (by kernel_rfl) (by kernel_rfl) (by intro c a w d v h; cases d <;> exact h) ?_
        simp only [wpPh, pickL, nthO]
        repeat (go_big_quiet_step (fail))
        refine wpQuiet_nil ?_
        go_wp2_with fail
        refine (c_l21Is A n c xs x _ (hs.ext hx.drew) HOK.out).mono ?_
        cases hp : nomB xs x
        · rw [hp] at HX
          have HR := hide (noms_no HL.out hlt HX.out)
          rintro e w2 ⟨rfl, hx2⟩
          go_wp2_with fail
          refine ⟨hx2, ?_⟩
          repeat (go_big_quiet_step (fail))
          refine wpQuiet_nil ?_
          go_wp2_with fail
          go_ret
          exact Ret.bool HR.out (hx.drew.trans hx2)
        · rw [hp] at HX
          have HO := hide (all_upto HK.out HX.out)
          rintro e w2 ⟨rfl, hx2⟩
          go_wp2_with fail
          refine ⟨hx2, ?_⟩
          repeat (go_big_quiet_step (fail))
          refine wpQuiet_nil ?_
          go_wp2_with fail
          go_roundw
          case rel => exact ⟨k + 1, by omega, by go_num, HO, hx.drew.trans hx2⟩
          case measure => simp [intOf]; omega
      · obtain ⟨k', hkk⟩ : ∃ k', k = k' + 1 := ⟨k - 1, by omega⟩
        have hk1 : k' < m := by omega
        obtain ⟨y, hyk, u⟩ := hL'.at_ hk1
        have u2 := u 2 _ rfl
        have HP := hide (show prevOk L k x.sent = decide (y.sent ≤ x.sent) by rw [hkk]; exact prev_at (s := x.sent) hyk)
        have hidx : (k : Int) - 1 = (k' : Int) := by omega
        have hk0' : decide (0 < k) = true := by simp; omega
        clear u hyk hkk
        go_wp2_with fail
        refine wp_region_ph [([0, 1, 2, 3, 4], 5)] [6, 7, 8, 9, 10, 11, 12, 13, 14, 15, 16, 17, 18, 19, 20, 21, 22, 23, 24] (by kernel_rfl) (by kernel_rfl) (by intro c a w d v h; cases d <;> exact h) ?_
        simp only [wpPh, pickL, nthO]
        repeat (go_big_quiet_step (fail))
        refine wpQuiet_nil ?_
        go_wp2_with fail
        refine (c_l21Is A n c xs x _ (hs.ext hx.drew) HOK.out).mono ?_
        cases hp : nomB xs x
        · rw [hp] at HX
          have HR := hide (noms_no HL.out hlt HX.out)
          rintro e w2 ⟨rfl, hx2⟩
          go_wp2_with fail
          refine ⟨hx2, ?_⟩
          repeat (go_big_quiet_step (fail))
          refine wpQuiet_nil ?_
          go_wp2_with fail
          go_ret
          exact Ret.bool HR.out (hx.drew.trans hx2)
        rw [hp] at HX
        rintro e w2 ⟨rfl, hx2⟩
        have hxa := (Ext.refl wr).drew.trans hx2
        have u2' : w2.cell? ⟨bb, off + k' * 4 + 2, none⟩ = some (.int .i64 y.sent) := (hxa.cell _ _ hbb).trans u2
        have t2' : w2.cell? ⟨bb, off + k * 4 + 2, none⟩ = some (.int .i64 x.sent) := (hxa.cell _ _ hbb).trans t2
        have hbb2 : bb < w2.heap.size := Nat.lt_of_lt_of_le hbb hxa.size
        by_cases hq : y.sent ≤ x.sent
        · rw [HP.out, decide_eq_true hq] at HX
          have HO := hide (all_upto HK.out HX.out)
          have hq' : decide (x.sent < y.sent) = false := by simp; omega
          go_wp2_with fail
          refine ⟨hx2, ?_⟩
          repeat (go_big_quiet_step (fail))
          refine wpQuiet_nil ?_
          go_wp2_with fail
          go_roundw
          case rel => exact ⟨k + 1, by omega, by go_num, HO, hx.trans hxa⟩
          case measure => simp [intOf]; omega
        · rw [HP.out, decide_eq_false hq] at HX
          have HR := hide (noms_no HL.out hlt HX.out)
          have hq' : decide (x.sent < y.sent) = true := by simp; omega
          go_wp2_with fail
          refine ⟨hx2, ?_⟩
          repeat (go_big_quiet_step (fail))
          refine wpQuiet_nil ?_
          go_wp2_with fail
          go_ret
          exact Ret.bool HR.out (hx.trans hxa)
    · have HR := hide (noms_yes HL.out h200 (fun j hj => HK.out j (by omega)))
      go_wp2_with fail
      go_ret
      exact Ret.bool HR.out hx

def nomsOk (n1 : Int) (ns : List Node) (ps : List Pipe) (xs : List Contract) (L : List Nomination) : Bool := netB ns ps && bookB n1 xs && nomsB xs L
theorem nomC_ok (n1 : Int) (ns : List Node) (ps : List Pipe) (xs : List Contract) (L : List Nomination) : (nomC n1 ns ps xs L == 0) = nomsOk n1 ns ps xs L := by
  unfold nomC bookC nomsOk
  cases netB ns ps <;> cases bookB n1 xs <;> cases nomsB xs L <;> simp
theorem c_AreNominations (A1 A2 : Option Addr) (n1 c1 n2 c2 : Nat) (ns : List Node) (ps : List Pipe) (A : Option Addr) (n c : Nat) (xs : List Contract) (B : Option Addr) (m d : Nat) (L : List Nomination) (w : World) (hs1 : SliceOf w 3 Node.cells A1 n1 c1 ns) (hs2 : SliceOf w 5 Pipe.cells A2 n2 c2 ps) (hs : SliceOf w 8 Contract.cells A n c xs) (hL : SliceOf w 4 Nomination.cells B m d L) :
    Calls Tryz.prog 163 #[.agg #[.slice A1 n1 c1, .slice A2 n2 c2], .slice A n c, .slice B m d] w (Ret (.bool (nomsOk n1 ns ps xs L)) w) := by
  have HR := hide (nomC_ok n1 ns ps xs L)
  go_enter Tryz.func163, Tryz.ntmps163
  go_wp2_with fail
  refine (c_checkNominations A1 A2 n1 c1 n2 c2 ns ps A n c xs B m d L _ (hs1.ext (Ext.alloc _ _)) (hs2.ext (Ext.alloc _ _)) (hs.ext (Ext.alloc _ _)) (hL.ext (Ext.alloc _ _))).mono ?_
  generalize nomC n1 ns ps xs L = z at *
  rintro e w1 ⟨rfl, hx1⟩
  go_wp2_with fail
  go_ret
  exact Ret.bool HR.out.symm hx1.box
theorem c_specAreNominations (A1 A2 : Option Addr) (n1 c1 n2 c2 : Nat) (ns : List Node) (ps : List Pipe) (A : Option Addr) (n c : Nat) (xs : List Contract) (B : Option Addr) (m d : Nat) (L : List Nomination) (w : World) (hs1 : SliceOf w 3 Node.cells A1 n1 c1 ns) (hs2 : SliceOf w 5 Pipe.cells A2 n2 c2 ps) (hs : SliceOf w 8 Contract.cells A n c xs) (hL : SliceOf w 4 Nomination.cells B m d L) (hnm : ∀ x ∈ ns, x.name.size ≤ 1048576) :
    Calls Tryz.prog 168 #[.agg #[.slice A1 n1 c1, .slice A2 n2 c2], .slice A n c, .slice B m d] w (Ret (.bool (nomsOk n1 ns ps xs L)) w) := by
  cases hb : (netB ns ps && bookB n1 xs)
  · have HR := hide (show nomsOk n1 ns ps xs L = false by unfold nomsOk; rw [hb]; rfl)
    go_enter Tryz.func168, Tryz.ntmps168
    go_wp2_with fail
    refine (c_specIsBook A1 A2 n1 c1 n2 c2 ns ps A n c xs _ (hs1.ext (Ext.alloc _ _)) (hs2.ext (Ext.alloc _ _)) (hs.ext (Ext.alloc _ _)) hnm).mono ?_
    rw [hb]
    rintro e w1 ⟨rfl, hx1⟩
    go_wp2_with fail
    go_ret
    exact Ret.bool HR.out hx1.box
  · have HR := hide (show nomsOk n1 ns ps xs L = nomsB xs L by unfold nomsOk; rw [hb]; rfl)
    have hok : HoursOk xs := book_hours (nn := n1) (by rw [Bool.and_eq_true] at hb; exact hb.2)
    go_enter Tryz.func168, Tryz.ntmps168
    go_wp2_with fail
    refine (c_specIsBook A1 A2 n1 c1 n2 c2 ns ps A n c xs _ (hs1.ext (Ext.alloc _ _)) (hs2.ext (Ext.alloc _ _)) (hs.ext (Ext.alloc _ _)) hnm).mono ?_
    rw [hb]
    rintro e w1 ⟨rfl, hx1⟩
    go_wp2_with fail
    refine (c_l21List A n c xs B m d L _ (hs.ext hx1.box) (hL.ext hx1.box) hok).mono ?_
    rintro e w2 ⟨rfl, hx2⟩
    go_wp2_with fail
    go_ret
    exact Ret.bool HR.out (hx1.box.trans hx2)
end Go.Proofs.YtfkpghdmljjegaaGreat

namespace Go.Proofs.YtfkpghdmljjegaaGreat
open Go.RowKit

structure Reading where
  node : Int
  amount : Int
def Reading.cells (x : Reading) : List Value := [.int .i64 x.node, .int .i64 x.amount]
theorem reading_len (x : Reading) : x.cells.length = 2 := rfl
theorem reading_info : (Tryz.prog.info? 176).map (fun i => (i.zero, i.size, i.bytes)) = some (some (.agg #[.int .i64 0, .int .i64 0]), 2, 16) := by kernel_rfl

theorem c_toReading (x : Reading) (w : World) :
    Calls Tryz.prog 144 #[.agg #[.int .i64 x.node, .int .i64 x.amount]] w (Ret (.agg #[.int .i64 x.node, .int .i64 x.amount]) w) := by
  go_enter Tryz.func144, Tryz.ntmps144
  go_wp2
  exact bodyPost_ret (v := .agg #[.int .i64 x.node, .int .i64 x.amount]) (by simp [results, Tryz.results144, go_sem]) rfl ⟨rfl, (((Ext.refl _).and_alloc _).and_alloc _).and_alloc _⟩

theorem c_eqReading (x : Reading) (w : World) :
    Calls Tryz.prog 125 #[.agg #[.int .i64 x.node, .int .i64 x.amount], .agg #[.int .i64 x.node, .int .i64 x.amount]] w (Ret (.bool true) w) := by
  go_enter Tryz.func125, Tryz.ntmps125
  go_wp2
  go_ret
  exact Ret.bool rfl (((Ext.refl _).and_alloc _).and_alloc _)

theorem c_szReadingS (A : Option Addr) (n c : Nat) (left : Int) (w : World) (hn : n ≤ c) (hc : c ≤ 9223372036854775807) (h0 : 0 ≤ left) (h1 : left ≤ 1048576) :
    Calls Tryz.prog 64 #[.slice A n c, .int .i64 left] w fun e w' => e = .returned (.int .i64 (if left < n then -1 else left - n)) ∧ w = w' := by
  go_enter Tryz.func64, Tryz.ntmps64
  go_wp2
  all_goals
    go_ret
    simp <;> omega


set_option maxHeartbeats 1000000 in
theorem c_toReadingS (A : Option Addr) (n c : Nat) (ts : List Reading) (w : World) (hs : SliceOf w 2 Reading.cells A n c ts) (hn : n ≤ 1048576) :
    Calls Tryz.prog 66 #[.slice A n c] w (NewRow 176 Reading.cells ts w) := by
  have hmk := fun W => run_make_flat (P := Tryz.prog) 60 176 _ _ 2 16 Tryz.underlying60 reading_info (f := Reading.cells) ⟨0, 0⟩ rfl rfl rfl (by omega) n (by omega) (by omega) W
  have hR0 := Row.new w 176 ((List.replicate n (⟨0, 0⟩ : Reading)).flatMap Reading.cells)
  go_enter Tryz.func66, Tryz.ntmps66
  go_wp2_with fail
  go_loopw [4] (fun i wr => ∃ (k : Nat) (L : List Reading), k ≤ n ∧ i = .int .i64 k ∧ L.length = n ∧ RowOf wr w.heap.size 176 Reading.cells L ∧ Hid (∀ j, j < k → L[j]? = ts[j]?) ∧ Ext w wr) (fun i _ => n - (intOf i).toNat)
  case atStart => exact ⟨0, _, Nat.zero_le _, rfl, List.length_replicate, hR0, hide (fun j hj => absurd hj (by omega)), Ext.alloc _ _⟩
  case round =>
    obtain ⟨k, L, hk, rfl, hL, hrow, HK, hx⟩ := hrel
    clear hR0 hmk
    have hgs := hrow.lt
    by_cases hlt : k < n
    · obtain ⟨b, off, x, rfl, hb, hxk, hc⟩ := (hs.ext hx).get hlt
      have hc0 := hc 0 _ rfl
      have hc1 := hc 1 _ rfl
      clear hc
      simp only [Nat.add_zero] at hc0
      have Hx := hide hxk
      have HL := hide hL
      clear hxk hL
      go_wp2_with (go_at_call 144; refine (c_toReading x _).mono ?_; rintro e w1 ⟨rfl, hx1⟩; have hrow1 := hrow.ext hx1; obtain ⟨v0, hv0⟩ := hrow1.there reading_len (i := k) (by rw [HL.out]; exact hlt) (j := 0) (by omega); have hf0 := hrow1.frozen (k * 2); obtain ⟨v1, hv1⟩ := hrow1.there reading_len (i := k) (by rw [HL.out]; exact hlt) (j := 1) (by omega); have hf1 := hrow1.frozen (k * 2 + 1); rw [Nat.add_zero] at hv0)
      go_roundw
      case rel =>
        refine ⟨k + 1, L.set k x, by omega, by go_num, by simpa using HL.out, hrow1.put reading_len (by rw [HL.out]; exact hlt) x, hide ?_, (hx.trans hx1).put (Nat.le_refl _) (k * 2) x.cells⟩
        intro j hj
        rw [List.getElem?_set]
        by_cases e : k = j
        · subst e; rw [if_pos rfl, if_pos (by rw [HL.out]; exact hlt), Hx.out]
        · rw [if_neg e]; exact HK.out j (by omega)
      case measure => simp [intOf]; omega
    · go_wp2
      go_ret
      have hLts : L = ts := by
        apply List.ext_getElem?
        intro j
        by_cases hj : j < n
        · exact HK.out j (by omega)
        · rw [List.getElem?_eq_none (by omega), List.getElem?_eq_none (by have := hs.len; omega)]
      subst hLts
      refine ⟨w.heap.size, ?_, Nat.le_refl _, hrow, hx⟩
      rw [hL]; rfl

set_option maxHeartbeats 1000000 in
theorem c_eqReadingS (A A' : Option Addr) (n c n' c' : Nat) (ts : List Reading) (w : World) (hs : SliceOf w 2 Reading.cells A n c ts) (hs' : SliceOf w 2 Reading.cells A' n' c' ts) :
    Calls Tryz.prog 37 #[.slice A n c, .slice A' n' c'] w (Ret (.bool true) w) := by
  have hl := hs.len
  obtain rfl : n = n' := by rw [hs.len, hs'.len]
  have hm := hs.max
  have hcp := hs.cap
  clear hl
  go_enter Tryz.func37, Tryz.ntmps37
  go_wp2_with fail
  go_loopw [5] (fun i wr => ∃ (k : Nat), k ≤ n ∧ i = .int .i64 k ∧ Ext w wr) (fun i _ => n - (intOf i).toNat)
  case atStart => exact ⟨0, Nat.zero_le _, rfl, Ext.refl _⟩
  case round =>
    obtain ⟨k, hk, rfl, hx⟩ := hrel
    by_cases hlt : k < n
    · obtain ⟨b, off, x, rfl, hb, hxk, hc⟩ := (hs.ext hx).get hlt
      obtain ⟨b', off', x', rfl, hb', hxk', hc'⟩ := (hs'.ext hx).get hlt
      obtain rfl : x = x' := by rw [hxk] at hxk'; injection hxk'
      have hc0 := hc 0 _ rfl
      have hc1 := hc 1 _ rfl
      have hd0 := hc' 0 _ rfl
      have hd1 := hc' 1 _ rfl
      clear hc hc' hxk hxk'
      simp only [Nat.add_zero] at hc0 hd0
      go_wp2_with fail
      refine wp_region_later (by kernel_rfl) (by kernel_rfl) ?_
      repeat (go_big_quiet_step ((go_at_call 125; exact quiet_later (c_eqReading x _))))
      refine wpQuiet_nil ?_
      intro w1 hx1
      go_wp2
      go_roundw
      case rel => exact ⟨k + 1, by omega, by go_num, hx.trans hx1⟩
      case measure => simp [intOf]; omega
    · go_wp2
      go_ret
      exact Ret.bool rfl hx


/-- the marks from a number on -/
def markReading (a : Int) (n : Nat) : List Reading := (List.range n).map fun (i : Nat) => ⟨a + 2 * (i : Int), a + 2 * (i : Int) + 1⟩
theorem markReading_at (a : Int) (n i : Nat) (h : i < n) : (markReading a n)[i]? = some ⟨a + 2 * (i : Int), a + 2 * (i : Int) + 1⟩ := by
  unfold markReading; rw [List.getElem?_map, List.getElem?_range h]; rfl
/-- the row is marked; nothing else has turned -/
def MarkedReading (g : Nat) (A : Option Addr) (n : Nat) (a : Int) (w : World) (e : Ending) (w' : World) : Prop :=
  e = .returned (.int .i64 (a + 2 * n)) ∧ OwnS w' g 176 Reading.cells A n (markReading a n) ∧ Only g w w'
set_option maxHeartbeats 1000000 in
theorem c_markReadingS (g : Nat) (A : Option Addr) (n c : Nat) (ts : List Reading) (a : Int) (w : World) (hown0 : OwnS w g 176 Reading.cells A n ts) (hn : n ≤ 1000000000) (hcap : n ≤ c) (hmax : c ≤ 9223372036854775807) (ha0 : 0 ≤ a) (ha1 : a ≤ 1000000000000) :
    Calls Tryz.prog 38 #[.slice A n c, .int .i64 a] w (MarkedReading g A n a w) := by
  go_enter Tryz.func38, Tryz.ntmps38
  go_wp2_with fail
  go_loopw [1, 5] (fun q i wr => ∃ (k : Nat) (K : Int) (L : List Reading), k ≤ n ∧ q = .int .i64 K ∧ i = .int .i64 k ∧ a + 2 * (k : Int) ≤ K ∧ K ≤ a + 2 * (k : Int) ∧ OwnS wr g 176 Reading.cells A n L ∧ Hid (∀ j, j < k → L[j]? = (markReading a n)[j]?) ∧ Only g w wr) (fun _ i _ => n - (intOf i).toNat)
  case atStart => exact ⟨0, a, ts, Nat.zero_le _, rfl, rfl, by omega, by omega, hown0, hide (fun j hj => absurd hj (by omega)), Only.refl _ _⟩
  case round =>
    obtain ⟨k, K, L, hk, rfl, rfl, hK0, hK1, hown, HK, hx⟩ := hrel
    by_cases hlt : k < n
    · have hn0 : 0 < n := by omega
      obtain ⟨rfl, _⟩ := hown.2 hn0
      obtain ⟨v0, hv0⟩ := hown.there reading_len (i := k) hlt (j := 0) (by omega)
      have hf0 := hown.frozen hn0 (k * 2)
      obtain ⟨v1, hv1⟩ := hown.there reading_len (i := k) hlt (j := 1) (by omega)
      have hf1 := hown.frozen hn0 (k * 2 + 1)
      rw [Nat.add_zero] at hv0
      have HL := hide hown.1
      go_wp2_with fail
      go_roundw
      case rel =>
        refine ⟨k + 1, _, L.set k ⟨K, K + 1⟩, by omega, rfl, by go_num, by omega, by omega, hown.put reading_len hlt ⟨K, K + 1⟩, hide ?_, hx.put (k * 2) (Reading.cells ⟨K, K + 1⟩)⟩
        intro j hj
        rw [List.getElem?_set]
        by_cases e : k = j
        · subst e
          rw [if_pos rfl, if_pos (by rw [← HL.out]; exact hlt), markReading_at _ _ _ hlt]
          congr 2 <;> omega
        · rw [if_neg e]; exact HK.out j (by omega)
      case measure => simp [intOf]; omega
    · go_wp2_with fail
      go_ret
      have hLts : L = markReading a n := by
        apply List.ext_getElem?
        intro j
        by_cases hj : j < n
        · exact HK.out j (by omega)
        · rw [List.getElem?_eq_none (by have := hown.1; omega), List.getElem?_eq_none (by simp [markReading]; omega)]
      subst hLts
      refine ⟨?_, hown, hx⟩
      obtain rfl : k = n := by omega
      have : K = a + 2 * (k : Int) := by omega
      rw [← this]; rfl

end Go.Proofs.YtfkpghdmljjegaaGreat
