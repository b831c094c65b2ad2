/-
  Lists of nominations: validity, of the program and of the reference.
-/
import Derived.Test.YtjpmiokbgpggbaaGreatRb12
namespace Go.Proofs.YtjpmiokbgpggbaaGreat
open Go.RowKit
def prevOk (L : List Nomination) (i : Nat) (s : Int) : Bool := if i = 0 then true else match L[i - 1]? with
  | some y => decide (y.sent ≤ s)
  | none => true
def nomOkB (xs : List Contract) (L : List Nomination) (i : Nat) : Bool := match L[i]? with
  | some x => nomB xs x && prevOk L i x.sent
  | none => true
def nomsB (xs : List Contract) (L : List Nomination) : Bool := decide (L.length ≤ 200) && (List.range L.length).all (nomOkB xs L)
theorem nomOk_at {xs : List Contract} {L : List Nomination} {k : Nat} {x : Nomination} (h : L[k]? = some x) : nomOkB xs L k = (nomB xs x && prevOk L k x.sent) := by unfold nomOkB; rw [h]
theorem noms_no {xs : List Contract} {L : List Nomination} {n k : Nat} (hn : n = L.length) (hk : k < n) (h : nomOkB xs L k = false) : nomsB xs L = false := by
  unfold nomsB
  rw [all_range_false (by omega) h]; simp
theorem noms_yes {xs : List Contract} {L : List Nomination} {n : Nat} (hn : n = L.length) (h200 : n ≤ 200) (h : ∀ j, j < n → nomOkB xs L j = true) : nomsB xs L = true := by
  subst hn
  unfold nomsB
  rw [all_range_true h]; simp [h200]
theorem noms_long {xs : List Contract} {L : List Nomination} {n : Nat} (hn : n = L.length) (h : ¬ n ≤ 200) : nomsB xs L = false := by
  subst hn
  unfold nomsB; simp [h]
theorem prev_zero (L : List Nomination) (s : Int) : prevOk L 0 s = true := rfl
theorem prev_at {L : List Nomination} {k : Nat} {s : Int} {y : Nomination} (h : L[k]? = some y) : prevOk L (k + 1) s = decide (y.sent ≤ s) := by
  unfold prevOk; rw [if_neg (by omega), Nat.add_sub_cancel, h]
def nomC (n1 : Int) (ns : List Node) (ps : List Pipe) (xs : List Contract) (L : List Nomination) : Int := if bookC n1 ns ps xs = 0 then (if nomsB xs L = false then 5 else 0) else bookC n1 ns ps xs
theorem book_zero {n1 : Int} {ns : List Node} {ps : List Pipe} {xs : List Contract} (h : bookC n1 ns ps xs = 0) : netB ns ps = true ∧ bookB n1 xs = true := by
  unfold bookC at h
  split at h
  · cases h
  · split at h
    · cases h
    · simp_all
set_option maxHeartbeats 4000000 in
theorem c_checkNominations (A1 A2 : Option Addr) (n1 c1 n2 c2 : Nat) (ns : List Node) (ps : List Pipe) (A : Option Addr) (n c : Nat) (xs : List Contract) (B : Option Addr) (m d : Nat) (L : List Nomination) (w : World) (hs1 : SliceOf w 3 Node.cells A1 n1 c1 ns) (hs2 : SliceOf w 5 Pipe.cells A2 n2 c2 ps) (hs : SliceOf w 8 Contract.cells A n c xs) (hL : SliceOf w 4 Nomination.cells B m d L) :
    Calls Tryz.prog 78 #[.agg #[.slice A1 n1 c1, .slice A2 n2 c2], .slice A n c, .slice B m d] w (Ret (.int .i64 (nomC n1 ns ps xs L)) w) := by
  have hm := hL.max
  have hcap := hL.cap
  have HL := hide hL.len
  by_cases hb0 : bookC n1 ns ps xs = 0
  case neg =>
    have hb1 : (bookC n1 ns ps xs != 0) = true := by simpa using hb0
    have HR := hide (show nomC n1 ns ps xs L = bookC n1 ns ps xs by simp [nomC, hb0])
    clear hb0
    go_enter Tryz.func78, Tryz.ntmps78
    go_wp2_with fail
    refine (c_checkBook A1 A2 n1 c1 n2 c2 ns ps A n c xs _ (hs1.ext (Ext.alloc _ _)) (hs2.ext (Ext.alloc _ _)) (hs.ext (Ext.alloc _ _))).mono ?_
    generalize bookC n1 ns ps xs = B0 at *
    rintro e w1 ⟨rfl, hx1⟩
    go_wp2_with fail
    go_ret
    exact Ret.int HR.out hx1.box
  have hok := book_hours (book_zero hb0).2
  have HOK := hide hok
  have HB := hide hb0
  have HRn := hide (show nomsB xs L = false → nomC n1 ns ps xs L = 5 by intro h; simp [nomC, hb0, h])
  have HRy := hide (show nomsB xs L = true → nomC n1 ns ps xs L = 0 by intro h; simp [nomC, hb0, h])
  clear hok hb0
  by_cases h200 : m ≤ 200
  case neg =>
    have HR := hide (HRn.out (noms_long HL.out h200))
    have h2' : (200 : Int) < m := by omega
    go_enter Tryz.func78, Tryz.ntmps78
    go_wp2_with fail
    refine (c_checkBook A1 A2 n1 c1 n2 c2 ns ps A n c xs _ (hs1.ext (Ext.alloc _ _)) (hs2.ext (Ext.alloc _ _)) (hs.ext (Ext.alloc _ _))).mono ?_
    rw [HB.out]
    rintro e w1 ⟨rfl, hx1⟩
    go_wp2_with fail
    go_ret
    exact Ret.int HR.out hx1.box
  go_enter Tryz.func78, Tryz.ntmps78
  go_wp2_with fail
  refine (c_checkBook A1 A2 n1 c1 n2 c2 ns ps A n c xs _ (hs1.ext (Ext.alloc _ _)) (hs2.ext (Ext.alloc _ _)) (hs.ext (Ext.alloc _ _))).mono ?_
  rw [HB.out]
  rintro e w1 ⟨rfl, hx1⟩
  have hx0 := hx1.box
  clear hx1
  go_wp2_with fail
  go_loopw [21] (fun i wr => ∃ k : Nat, k ≤ m ∧ i = .int .i64 k ∧ Hid (∀ j, j < k → nomOkB xs L j = true) ∧ Ext w wr) (fun i _ => m - (intOf i).toNat)
  case atStart => exact ⟨0, Nat.zero_le _, rfl, hide (fun j hj => absurd hj (by omega)), hx0⟩
  case round =>
    obtain ⟨k, hk, rfl, HK, hx⟩ := hrel
    clear hx0
    by_cases hlt : k < m
    · obtain ⟨bb, off, x, rfl, hbb, hxk, t⟩ := (hL.ext hx).get hlt
      have t0 := (t 0 _ rfl)
      have t1 := (t 1 _ rfl)
      have t2 := (t 2 _ rfl)
      have t3 := (t 3 _ rfl)
      simp only [Nat.add_zero] at t0
      clear t
      have HX := hide (nomOk_at (xs := xs) hxk)
      have hR := Row.new wr 70 [.int .i64 x.contract, .int .i64 x.hour, .int .i64 x.sent, .int .i64 x.amount]
      have q0 := hR.cell 0
      have q1 := hR.cell 1
      have q2 := hR.cell 2
      have q3 := hR.cell 3
      simp at q0 q1 q2 q3
      have hl := hR.lt
      have hL' := hL.ext hx
      clear hxk
      rcases Nat.eq_zero_or_pos k with hk0 | hk0
      · have HP := hide (show prevOk L k x.sent = true by rw [hk0]; exact prev_zero L x.sent)
        have hk0' : decide (0 < k) = false := by simp; omega
        clear hk0
        rw [HP.out, Bool.and_true] at HX
        go_wp2_with fail
        refine wp_region_ph [([0, 1], 2)] [3, 4, 5, 6, 7, 8, 9, 10, 11, 12, 13, 14, 15, 16, 17, 18] (by kernel_rfl) (by kernel_rfl) (by intro c a w d v h; cases d <;> exact h) ?_
        simp only [wpPh, pickL, nthO]
        repeat (go_big_quiet_step (fail))
        refine wpQuiet_nil ?_
        go_wp2_with fail
        refine (c_isNomination A n c xs x _ (hs.ext ((hx.and_alloc _).drew)) HOK.out).mono ?_
        cases hp : nomB xs x
        · rw [hp] at HX
          have HR := hide (HRn.out (noms_no HL.out hlt HX.out))
          rintro e w2 ⟨rfl, hx2⟩
          go_wp2_with fail
          refine ⟨hx2, ?_⟩
          repeat (go_big_quiet_step (fail))
          refine wpQuiet_nil ?_
          go_wp2_with fail
          go_ret
          exact Ret.int HR.out ((hx.and_alloc _).drew.trans hx2)
        · rw [hp] at HX
          have HO := hide (all_upto HK.out HX.out)
          rintro e w2 ⟨rfl, hx2⟩
          go_wp2_with fail
          refine ⟨hx2, ?_⟩
          repeat (go_big_quiet_step (fail))
          refine wpQuiet_nil ?_
          go_wp2_with fail
          go_roundw
          case rel => exact ⟨k + 1, by omega, by go_num, HO, (hx.and_alloc _).drew.trans hx2⟩
          case measure => simp [intOf]; omega
      · obtain ⟨k', hkk⟩ : ∃ k', k = k' + 1 := ⟨k - 1, by omega⟩
        have hk1 : k' < m := by omega
        obtain ⟨y, hyk, u⟩ := hL'.at_ hk1
        have u2 := u 2 _ rfl
        have HP := hide (show prevOk L k x.sent = decide (y.sent ≤ x.sent) by rw [hkk]; exact prev_at (s := x.sent) hyk)
        have hidx : (k : Int) - 1 = (k' : Int) := by omega
        have hk0' : decide (0 < k) = true := by simp; omega
        clear u hyk hkk
        go_wp2_with fail
        refine wp_region_ph [([0, 1], 2)] [3, 4, 5, 6, 7, 8, 9, 10, 11, 12, 13, 14, 15, 16, 17, 18] (by kernel_rfl) (by kernel_rfl) (by intro c a w d v h; cases d <;> exact h) ?_
        simp only [wpPh, pickL, nthO]
        repeat (go_big_quiet_step (fail))
        refine wpQuiet_nil ?_
        go_wp2_with fail
        refine (c_isNomination A n c xs x _ (hs.ext ((hx.and_alloc _).drew)) HOK.out).mono ?_
        cases hp : nomB xs x
        · rw [hp] at HX
          have HR := hide (HRn.out (noms_no HL.out hlt HX.out))
          rintro e w2 ⟨rfl, hx2⟩
          go_wp2_with fail
          refine ⟨hx2, ?_⟩
          repeat (go_big_quiet_step (fail))
          refine wpQuiet_nil ?_
          go_wp2_with fail
          go_ret
          exact Ret.int HR.out ((hx.and_alloc _).drew.trans hx2)
        rw [hp] at HX
        rintro e w2 ⟨rfl, hx2⟩
        have hxa := (Ext.refl (wr.alloc (.cells #[.int .i64 x.contract, .int .i64 x.hour, .int .i64 x.sent, .int .i64 x.amount] 70))).drew.trans hx2
        have hR2 := hR.ext hxa
        have v2 := hR2.cell 2
        simp at v2
        have hl2 := hR2.lt
        have u2' : w2.cell? ⟨bb, off + k' * 4 + 2, none⟩ = some (.int .i64 y.sent) := ((hxa.box).cell _ _ hbb).trans u2
        have hbb2 : bb < w2.heap.size := Nat.lt_of_lt_of_le hbb hxa.box.size
        by_cases hq : y.sent ≤ x.sent
        · rw [HP.out, decide_eq_true hq] at HX
          have HO := hide (all_upto HK.out HX.out)
          have hq' : decide (x.sent < y.sent) = false := by simp; omega
          go_wp2_with fail
          refine ⟨hx2, ?_⟩
          repeat (go_big_quiet_step (fail))
          refine wpQuiet_nil ?_
          go_wp2_with fail
          go_roundw
          case rel => exact ⟨k + 1, by omega, by go_num, HO, hx.trans hxa.box⟩
          case measure => simp [intOf]; omega
        · rw [HP.out, decide_eq_false hq] at HX
          have HR := hide (HRn.out (noms_no HL.out hlt HX.out))
          have hq' : decide (x.sent < y.sent) = true := by simp; omega
          go_wp2_with fail
          refine ⟨hx2, ?_⟩
          repeat (go_big_quiet_step (fail))
          refine wpQuiet_nil ?_
          go_wp2_with fail
          go_ret
          exact Ret.int HR.out (hx.trans hxa.box)
    · have HR := hide (HRy.out (noms_yes HL.out h200 (fun j hj => HK.out j (by omega))))
      go_wp2_with fail
      go_ret
      exact Ret.int HR.out hx

set_option maxHeartbeats 4000000 in
theorem c_l21List (A : Option Addr) (n c : Nat) (xs : List Contract) (B : Option Addr) (m d : Nat) (L : List Nomination) (w : World) (hs : SliceOf w 8 Contract.cells A n c xs) (hL : SliceOf w 4 Nomination.cells B m d L) (hok : HoursOk xs) :
    Calls Tryz.prog 82 #[.slice A n c, .slice B m d] w (Ret (.bool (nomsB xs L)) w) := by
  have hm := hL.max
  have hcap := hL.cap
  have HL := hide hL.len
  have HOK := hide hok
  clear hok
  by_cases h200 : m ≤ 200
  case neg =>
    have HR := hide (noms_long (xs := xs) HL.out h200)
    have h2' : (200 : Int) < m := by omega
    go_enter Tryz.func82, Tryz.ntmps82
    go_wp2_with fail
    go_ret
    exact Ret.bool HR.out (Ext.refl _)
  go_enter Tryz.func82, Tryz.ntmps82
  go_wp2_with fail
  go_loopw [5] (fun i wr => ∃ k : Nat, k ≤ m ∧ i = .int .i64 k ∧ Hid (∀ j, j < k → nomOkB xs L j = true) ∧ Ext w wr) (fun i _ => m - (intOf i).toNat)
  case atStart => exact ⟨0, Nat.zero_le _, rfl, hide (fun j hj => absurd hj (by omega)), Ext.refl _⟩
  case round =>
    obtain ⟨k, hk, rfl, HK, hx⟩ := hrel
    by_cases hlt : k < m
    · obtain ⟨bb, off, x, rfl, hbb, hxk, t⟩ := (hL.ext hx).get hlt
      have t0 := (t 0 _ rfl)
      have t1 := (t 1 _ rfl)
      have t2 := (t 2 _ rfl)
      have t3 := (t 3 _ rfl)
      simp only [Nat.add_zero] at t0
      clear t
      have HX := hide (nomOk_at (xs := xs) hxk)
      have hL' := hL.ext hx
      clear hxk
      rcases Nat.eq_zero_or_pos k with hk0 | hk0
      · have HP := hide (show prevOk L k x.sent = true by rw [hk0]; exact prev_zero L x.sent)
        have hk0' : decide (0 < k) = false := by simp; omega
        clear hk0
        rw [HP.out, Bool.and_true] at HX
        go_wp2_with fail
        refine wp_region_ph [([0, 1, 2, 3, 4], 5)] [6, 7, 8, 9, 10, 11, 12, 13, 14, 15, 16, 17, 18, 19, 20, 21, 22, 23, 24] (by kernel_rfl) (by kernel_rfl) (by intro c a w d v h; cases d <;> exact h) ?_
        simp only [wpPh, pickL, nthO]
        repeat (go_big_quiet_step (fail))
        refine wpQuiet_nil ?_
        go_wp2_with fail
        refine (c_l21Is A n c xs x _ (hs.ext hx.drew) HOK.out).mono ?_
        cases hp : nomB xs x
        · rw [hp] at HX
          have HR := hide (noms_no HL.out hlt HX.out)
          rintro e w2 ⟨rfl, hx2⟩
          go_wp2_with fail
          refine ⟨hx2, ?_⟩
          repeat (go_big_quiet_step (fail))
          refine wpQuiet_nil ?_
          go_wp2_with fail
          go_ret
          exact Ret.bool HR.out (hx.drew.trans hx2)
        · rw [hp] at HX
          have HO := hide (all_upto HK.out HX.out)
          rintro e w2 ⟨rfl, hx2⟩
          go_wp2_with fail
          refine ⟨hx2, ?_⟩
          repeat (go_big_quiet_step (fail))
          refine wpQuiet_nil ?_
          go_wp2_with fail
          go_roundw
          case rel => exact ⟨k + 1, by omega, by go_num, HO, hx.drew.trans hx2⟩
          case measure => simp [intOf]; omega
      · obtain ⟨k', hkk⟩ : ∃ k', k = k' + 1 := ⟨k - 1, by omega⟩
        have hk1 : k' < m := by omega
        obtain ⟨y, hyk, u⟩ := hL'.at_ hk1
        have u2 := u 2 _ rfl
        have HP := hide (show prevOk L k x.sent = decide (y.sent ≤ x.sent) by rw [hkk]; exact prev_at (s := x.sent) hyk)
        have hidx : (k : Int) - 1 = (k' : Int) := by omega
        have hk0' : decide (0 < k) = true := by simp; omega
        clear u hyk hkk
        go_wp2_with fail
        refine wp_region_ph [([0, 1, 2, 3, 4], 5)] [6, 7, 8, 9, 10, 11, 12, 13, 14, 15, 16, 17, 18, 19, 20, 21, 22, 23, 24] (by kernel_rfl) (by kernel_rfl) (by intro c a w d v h; cases d <;> exact h) ?_
        simp only [wpPh, pickL, nthO]
        repeat (go_big_quiet_step (fail))
        refine wpQuiet_nil ?_
        go_wp2_with fail
        refine (c_l21Is A n c xs x _ (hs.ext hx.drew) HOK.out).mono ?_
        cases hp : nomB xs x
        · rw [hp] at HX
          have HR := hide (noms_no HL.out hlt HX.out)
          rintro e w2 ⟨rfl, hx2⟩
          go_wp2_with fail
          refine ⟨hx2, ?_⟩
          repeat (go_big_quiet_step (fail))
          refine wpQuiet_nil ?_
          go_wp2_with fail
          go_ret
          exact Ret.bool HR.out (hx.drew.trans hx2)
        rw [hp] at HX
        rintro e w2 ⟨rfl, hx2⟩
        have hxa := (Ext.refl wr).drew.trans hx2
        have u2' : w2.cell? ⟨bb, off + k' * 4 + 2, none⟩ = some (.int .i64 y.sent) := (hxa.cell _ _ hbb).trans u2
        have t2' : w2.cell? ⟨bb, off + k * 4 + 2, none⟩ = some (.int .i64 x.sent) := (hxa.cell _ _ hbb).trans t2
        have hbb2 : bb < w2.heap.size := Nat.lt_of_lt_of_le hbb hxa.size
        by_cases hq : y.sent ≤ x.sent
        · rw [HP.out, decide_eq_true hq] at HX
          have HO := hide (all_upto HK.out HX.out)
          have hq' : decide (x.sent < y.sent) = false := by simp; omega
          go_wp2_with fail
          refine ⟨hx2, ?_⟩
          repeat (go_big_quiet_step (fail))
          refine wpQuiet_nil ?_
          go_wp2_with fail
          go_roundw
          case rel => exact ⟨k + 1, by omega, by go_num, HO, hx.trans hxa⟩
          case measure => simp [intOf]; omega
        · rw [HP.out, decide_eq_false hq] at HX
          have HR := hide (noms_no HL.out hlt HX.out)
          have hq' : decide (x.sent < y.sent) = true := by simp; omega
          go_wp2_with fail
          refine ⟨hx2, ?_⟩
          repeat (go_big_quiet_step (fail))
          refine wpQuiet_nil ?_
          go_wp2_with fail
          go_ret
          exact Ret.bool HR.out (hx.trans hxa)
    · have HR := hide (noms_yes HL.out h200 (fun j hj => HK.out j (by omega)))
      go_wp2_with fail
      go_ret
      exact Ret.bool HR.out hx

def nomsOk (n1 : Int) (ns : List Node) (ps : List Pipe) (xs : List Contract) (L : List Nomination) : Bool := netB ns ps && bookB n1 xs && nomsB xs L
theorem nomC_ok (n1 : Int) (ns : List Node) (ps : List Pipe) (xs : List Contract) (L : List Nomination) : (nomC n1 ns ps xs L == 0) = nomsOk n1 ns ps xs L := by
  unfold nomC bookC nomsOk
  cases netB ns ps <;> cases bookB n1 xs <;> cases nomsB xs L <;> simp
theorem c_AreNominations (A1 A2 : Option Addr) (n1 c1 n2 c2 : Nat) (ns : List Node) (ps : List Pipe) (A : Option Addr) (n c : Nat) (xs : List Contract) (B : Option Addr) (m d : Nat) (L : List Nomination) (w : World) (hs1 : SliceOf w 3 Node.cells A1 n1 c1 ns) (hs2 : SliceOf w 5 Pipe.cells A2 n2 c2 ps) (hs : SliceOf w 8 Contract.cells A n c xs) (hL : SliceOf w 4 Nomination.cells B m d L) :
    Calls Tryz.prog 31 #[.agg #[.slice A1 n1 c1, .slice A2 n2 c2], .slice A n c, .slice B m d] w (Ret (.bool (nomsOk n1 ns ps xs L)) w) := by
  have HR := hide (nomC_ok n1 ns ps xs L)
  go_enter Tryz.func31, Tryz.ntmps31
  go_wp2_with fail
  refine (c_checkNominations A1 A2 n1 c1 n2 c2 ns ps A n c xs B m d L _ (hs1.ext (Ext.alloc _ _)) (hs2.ext (Ext.alloc _ _)) (hs.ext (Ext.alloc _ _)) (hL.ext (Ext.alloc _ _))).mono ?_
  generalize nomC n1 ns ps xs L = z at *
  rintro e w1 ⟨rfl, hx1⟩
  go_wp2_with fail
  go_ret
  exact Ret.bool HR.out.symm hx1.box
theorem c_specAreNominations (A1 A2 : Option Addr) (n1 c1 n2 c2 : Nat) (ns : List Node) (ps : List Pipe) (A : Option Addr) (n c : Nat) (xs : List Contract) (B : Option Addr) (m d : Nat) (L : List Nomination) (w : World) (hs1 : SliceOf w 3 Node.cells A1 n1 c1 ns) (hs2 : SliceOf w 5 Pipe.cells A2 n2 c2 ps) (hs : SliceOf w 8 Contract.cells A n c xs) (hL : SliceOf w 4 Nomination.cells B m d L) (hnm : ∀ x ∈ ns, x.name.size ≤ 1048576) :
    Calls Tryz.prog 36 #[.agg #[.slice A1 n1 c1, .slice A2 n2 c2], .slice A n c, .slice B m d] w (Ret (.bool (nomsOk n1 ns ps xs L)) w) := by
  cases hb : (netB ns ps && bookB n1 xs)
  · have HR := hide (show nomsOk n1 ns ps xs L = false by unfold nomsOk; rw [hb]; rfl)
    go_enter Tryz.func36, Tryz.ntmps36
    go_wp2_with fail
    refine (c_specIsBook A1 A2 n1 c1 n2 c2 ns ps A n c xs _ (hs1.ext (Ext.alloc _ _)) (hs2.ext (Ext.alloc _ _)) (hs.ext (Ext.alloc _ _)) hnm).mono ?_
    rw [hb]
    rintro e w1 ⟨rfl, hx1⟩
    go_wp2_with fail
    go_ret
    exact Ret.bool HR.out hx1.box
  · have HR := hide (show nomsOk n1 ns ps xs L = nomsB xs L by unfold nomsOk; rw [hb]; rfl)
    have hok : HoursOk xs := book_hours (nn := n1) (by rw [Bool.and_eq_true] at hb; exact hb.2)
    go_enter Tryz.func36, Tryz.ntmps36
    go_wp2_with fail
    refine (c_specIsBook A1 A2 n1 c1 n2 c2 ns ps A n c xs _ (hs1.ext (Ext.alloc _ _)) (hs2.ext (Ext.alloc _ _)) (hs.ext (Ext.alloc _ _)) hnm).mono ?_
    rw [hb]
    rintro e w1 ⟨rfl, hx1⟩
    go_wp2_with fail
    refine (c_l21List A n c xs B m d L _ (hs.ext hx1.box) (hL.ext hx1.box) hok).mono ?_
    rintro e w2 ⟨rfl, hx2⟩
    go_wp2_with fail
    go_ret
    exact Ret.bool HR.out (hx1.box.trans hx2)
end Go.Proofs.YtjpmiokbgpggbaaGreat
