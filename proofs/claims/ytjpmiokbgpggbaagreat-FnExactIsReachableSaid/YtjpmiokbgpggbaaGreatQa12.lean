/-
  Nominations: validity of one, of the program and of the reference.
-/
import Derived.Test.YtjpmiokbgpggbaaGreatQa10
import Derived.Test.YtjpmiokbgpggbaaGreatQa11
namespace Go.Proofs.YtjpmiokbgpggbaaGreat
open Go.RowKit
def nomB (xs : List Contract) (x : Nomination) : Bool := match xs[x.contract.toNat]? with
  | some p => inB x.contract 0 ((xs.length : Int) - 1) && inB x.hour p.start p.stop && inB x.sent (-48) (x.hour - 2) && inB x.amount 0 p.amount
  | none => false
theorem nom_no {xs : List Contract} {x : Nomination} {n : Nat} (hn : n = xs.length) (h : inB x.contract 0 ((n : Int) - 1) = false) : nomB xs x = false := by
  subst hn
  unfold nomB
  split
  · simp [h]
  · rfl
theorem nom_at {xs : List Contract} {k : Nat} {hr st am : Int} {p : Contract} {n : Nat} (hn : n = xs.length) (hk : k < n) (h : xs[k]? = some p) : nomB xs ⟨k, hr, st, am⟩ = (inB hr p.start p.stop && inB st (-48) (hr - 2) && inB am 0 p.amount) := by
  unfold nomB
  simp only [Int.toNat_natCast]
  rw [h]
  simp only
  rw [inB_true.2 ⟨by omega, by omega⟩, Bool.true_and]
def HoursOk (xs : List Contract) : Prop := ∀ p ∈ xs, 0 ≤ p.start ∧ p.stop < 48
theorem book_hours {nn : Int} {xs : List Contract} (h : bookB nn xs = true) : HoursOk xs := by
  intro p hp
  simp only [bookB, Bool.and_eq_true, List.all_eq_true] at h
  have := h.2 p hp
  simp only [conB, Bool.and_eq_true, decide_eq_true_eq] at this
  omega

set_option maxHeartbeats 2000000 in
theorem c_isNomination (A : Option Addr) (n c : Nat) (xs : List Contract) (x : Nomination) (w : World) (hs : SliceOf w 8 Contract.cells A n c xs) (hok : HoursOk xs) :
    Calls Tryz.prog 112 #[.slice A n c, .agg #[.int .i64 x.contract, .int .i64 x.hour, .int .i64 x.sent, .int .i64 x.amount]] w (Ret (.bool (nomB xs x)) w) := by
  have hm := hs.max
  have hcap := hs.cap
  have HL := hide hs.len
  have HOK := hide hok
  clear hok
  cases h1 : inB x.contract 0 ((n : Int) - 1)
  · have HR := hide (nom_no HL.out h1)
    go_enter Tryz.func112, Tryz.ntmps112
    go_wp2_with (go_at_call 32; refine (c_within _ _ _ _).mono ?_; rintro e w' ⟨rfl, rfl⟩)
    go_ret
    exact Ret.bool HR.out (Ext.alloc _ _)
  obtain ⟨ct, hr, st, am⟩ := x
  obtain ⟨h10, h11⟩ := inB_true.1 h1
  simp only at h10 h11 h1
  obtain ⟨k, rfl⟩ := Int.eq_ofNat_of_zero_le h10
  have hk : k < n := by omega
  obtain ⟨bb, off, p, rfl, hbb, hxk, t⟩ := hs.get hk
  have t0 := (t 0 _ rfl)
  have t1 := (t 1 _ rfl)
  have t2 := (t 2 _ rfl)
  have t3 := (t 3 _ rfl)
  have t4 := (t 4 _ rfl)
  have t5 := (t 5 _ rfl)
  have t6 := (t 6 _ rfl)
  have t7 := (t 7 _ rfl)
  clear t
  simp only [Nat.add_zero] at t0
  have HR := hide (nom_at (hr := hr) (st := st) (am := am) HL.out hk hxk)
  obtain ⟨hp0, hp1⟩ := HOK.out p (List.mem_of_getElem? hxk)
  clear hxk
  go_enter Tryz.func112, Tryz.ntmps112
  go_wp2_with (go_at_call 32; refine (c_within _ _ _ _).mono ?_; rintro e w' ⟨rfl, rfl⟩)
  clear h1
  refine (c_holdsIn p hr _).mono ?_
  cases h2 : inB hr p.start p.stop
  · rw [h2] at HR
    rintro e w1 ⟨rfl, hx1⟩
    go_wp2_with fail
    go_ret
    exact Ret.bool HR.out (((Ext.alloc _ _).and_alloc _).trans hx1)
  obtain ⟨h20, h21⟩ := inB_true.1 h2
  rw [h2] at HR
  rintro e w1 ⟨rfl, hx1⟩
  have hRn := ((Row.new w 70 [.int .i64 k, .int .i64 hr, .int .i64 st, .int .i64 am]).alloc (.cells #[.int .i64 p.shipper, .int .i64 p.entry, .int .i64 p.exit, .int .i64 p.amount, .int .i64 p.cls, .int .i64 p.start, .int .i64 p.stop, .int .i64 p.price] 68)).ext hx1
  have hRc := (Row.new (w.alloc (.cells #[.int .i64 k, .int .i64 hr, .int .i64 st, .int .i64 am] 70)) 68 [.int .i64 p.shipper, .int .i64 p.entry, .int .i64 p.exit, .int .i64 p.amount, .int .i64 p.cls, .int .i64 p.start, .int .i64 p.stop, .int .i64 p.price]).ext hx1
  rw [show (w.alloc (.cells #[.int .i64 k, .int .i64 hr, .int .i64 st, .int .i64 am] 70)).heap.size = w.heap.size + 1 by simp] at hRc
  have q1 := hRn.cell 1
  have q2 := hRn.cell 2
  have q3 := hRn.cell 3
  have r3 := hRc.cell 3
  simp at q1 q2 q3 r3
  have hln := hRn.lt
  have hlc := hRc.lt
  clear hRn hRc
  go_wp2_with (go_at_call 32; refine (c_within _ _ _ _).mono ?_; rintro e w' ⟨rfl, rfl⟩)
  all_goals
    go_ret
    refine Ret.bool ?_ (((Ext.alloc _ _).and_alloc _).trans hx1)
    rw [HR.out]
    clear HR
    simp_all

set_option maxHeartbeats 2000000 in
theorem c_l21Is (A : Option Addr) (n c : Nat) (xs : List Contract) (x : Nomination) (w : World) (hs : SliceOf w 8 Contract.cells A n c xs) (hok : HoursOk xs) :
    Calls Tryz.prog 116 #[.slice A n c, .agg #[.int .i64 x.contract, .int .i64 x.hour, .int .i64 x.sent, .int .i64 x.amount]] w (Ret (.bool (nomB xs x)) w) := by
  have hm := hs.max
  have hcap := hs.cap
  have HL := hide hs.len
  have HOK := hide hok
  clear hok
  cases h1 : inB x.contract 0 ((n : Int) - 1)
  · have HR := hide (nom_no HL.out h1)
    go_enter Tryz.func116, Tryz.ntmps116
    go_wp2_with fail
    refine wp_region_ph [([0, 1, 2, 3, 4], 5), ([6, 7, 8, 9], 10), ([11, 12, 13, 14, 15, 16, 17, 18, 19, 20], 21)] [22, 23] (by kernel_rfl) (by kernel_rfl) (by intro c a w d v h; cases d <;> exact h) ?_
    simp only [wpPh, pickL, nthO]
    repeat (go_big_quiet_step (fail))
    refine wpQuiet_nil ?_
    go_wp2_with fail
    refine (c_l01In _ _ _ _).mono ?_
    rw [h1]
    rintro e w' ⟨rfl, rfl⟩
    go_wp2_with fail
    refine ⟨Ext.refl _, ?_⟩
    repeat (go_big_quiet_step (fail))
    refine wpQuiet_nil ?_
    go_wp2_with fail
    refine ⟨Ext.refl _, ?_⟩
    repeat (go_big_quiet_step (fail))
    refine wpQuiet_nil ?_
    go_wp2_with fail
    refine ⟨Ext.refl _, ?_⟩
    repeat (go_big_quiet_step (fail))
    refine wpQuiet_nil ?_
    go_wp2_with fail
    go_ret
    exact Ret.bool HR.out (Ext.alloc _ _).drew
  obtain ⟨ct, hr, st, am⟩ := x
  obtain ⟨h10, h11⟩ := inB_true.1 h1
  simp only at h10 h11 h1
  obtain ⟨k, rfl⟩ := Int.eq_ofNat_of_zero_le h10
  have hk : k < n := by omega
  obtain ⟨bb, off, p, rfl, hbb, hxk, t⟩ := hs.get hk
  have t0 := (t 0 _ rfl)
  have t1 := (t 1 _ rfl)
  have t2 := (t 2 _ rfl)
  have t3 := (t 3 _ rfl)
  have t4 := (t 4 _ rfl)
  have t5 := (t 5 _ rfl)
  have t6 := (t 6 _ rfl)
  have t7 := (t 7 _ rfl)
  clear t
  simp only [Nat.add_zero] at t0
  have HR := hide (nom_at (hr := hr) (st := st) (am := am) HL.out hk hxk)
  obtain ⟨hp0, hp1⟩ := HOK.out p (List.mem_of_getElem? hxk)
  clear hxk
  have hRn := (Row.new w 70 [.int .i64 k, .int .i64 hr, .int .i64 st, .int .i64 am])
  have q0 := hRn.cell 0
  have q1 := hRn.cell 1
  have q2 := hRn.cell 2
  have q3 := hRn.cell 3
  simp at q0 q1 q2 q3
  have hln := hRn.lt
  go_enter Tryz.func116, Tryz.ntmps116
  go_wp2_with fail
  refine wp_region_ph [([0, 1, 2, 3, 4], 5), ([6, 7, 8, 9], 10), ([11, 12, 13, 14, 15, 16, 17, 18, 19, 20], 21)] [22, 23] (by kernel_rfl) (by kernel_rfl) (by intro c a w d v h; cases d <;> exact h) ?_
  simp only [wpPh, pickL, nthO]
  repeat (go_big_quiet_step (fail))
  refine wpQuiet_nil ?_
  go_wp2_with fail
  refine (c_l01In _ _ _ _).mono ?_
  rw [h1]
  rintro e w' ⟨rfl, rfl⟩
  clear h1
  go_wp2_with fail
  refine ⟨Ext.refl _, ?_⟩
  repeat (go_big_quiet_step (fail))
  refine wpQuiet_nil ?_
  go_wp2_with fail
  refine (c_l20Hour _ _).mono ?_
  cases h47 : inB hr 0 47
  · have h2 : inB hr p.start p.stop = false := by
      have := inB_false.1 h47
      exact inB_false.2 (by omega)
    rw [h2] at HR
    clear h2
    rintro e w' ⟨rfl, rfl⟩
    go_wp2_with fail
    refine ⟨Ext.refl _, ?_⟩
    repeat (go_big_quiet_step (fail))
    refine wpQuiet_nil ?_
    go_wp2_with fail
    refine ⟨Ext.refl _, ?_⟩
    repeat (go_big_quiet_step (fail))
    refine wpQuiet_nil ?_
    go_wp2_with fail
    go_ret
    exact Ret.bool HR.out (Ext.alloc _ _).drew
  obtain ⟨h470, h471⟩ := inB_true.1 h47
  rintro e w' ⟨rfl, rfl⟩
  clear h47
  go_wp2_with fail
  refine ⟨Ext.refl _, ?_⟩
  repeat (go_big_quiet_step (fail))
  refine wpQuiet_nil ?_
  go_wp2_with fail
  refine (c_l20Holds p hr _).mono ?_
  cases h2 : inB hr p.start p.stop
  · rw [h2] at HR
    rintro e w1 ⟨rfl, hx1⟩
    go_wp2_with fail
    refine ⟨hx1, ?_⟩
    repeat (go_big_quiet_step (fail))
    refine wpQuiet_nil ?_
    go_wp2_with fail
    go_ret
    exact Ret.bool HR.out ((Ext.alloc _ _).drew.trans hx1)
  rw [h2] at HR
  rintro e w1 ⟨rfl, hx1⟩
  clear h2
  go_wp2_with fail
  refine ⟨hx1, ?_⟩
  repeat (go_big_quiet_step (fail))
  refine wpQuiet_nil ?_
  have hx1' := (Ext.refl _).drew.trans hx1
  have hR1 := hRn.ext hx1'
  have s0 := hR1.cell 0
  have s1 := hR1.cell 1
  have s2 := hR1.cell 2
  have s3 := hR1.cell 3
  simp at s0 s1 s2 s3
  have hl1 := hR1.lt
  have hb1 : w1.cell? ⟨bb, off + k * 8 + 3, none⟩ = some (.int .i64 p.amount) := ((hx1'.box).cell _ _ hbb).trans t3
  have hbl : bb < w1.heap.size := Nat.lt_of_lt_of_le hbb hx1'.box.size
  clear q0 q1 q2 q3 t0 t1 t2 t3 t4 t5 t6 t7 hRn hR1 hln
  go_wp2_with fail
  refine wp_region_ph [([0, 1, 2, 3, 4], 5), ([6, 7, 8, 9, 10, 11, 12, 13, 14], 15)] [16, 17] (by kernel_rfl) (by kernel_rfl) (by intro c a w d v h; cases d <;> exact h) ?_
  simp only [wpPh, pickL, nthO]
  repeat (go_big_quiet_step (fail))
  refine wpQuiet_nil ?_
  go_wp2_with fail
  refine (c_l01In _ _ _ _).mono ?_
  cases h3 : inB st (-48) (hr - 2)
  · rw [h3] at HR
    rintro e w' ⟨rfl, rfl⟩
    go_wp2_with fail
    refine ⟨Ext.refl _, ?_⟩
    repeat (go_big_quiet_step (fail))
    refine wpQuiet_nil ?_
    go_wp2_with fail
    refine ⟨Ext.refl _, ?_⟩
    repeat (go_big_quiet_step (fail))
    refine wpQuiet_nil ?_
    go_wp2_with fail
    go_ret
    exact Ret.bool (by rw [HR.out]; rfl) hx1'.box.drew
  rw [h3] at HR
  rintro e w' ⟨rfl, rfl⟩
  go_wp2_with fail
  refine ⟨Ext.refl _, ?_⟩
  repeat (go_big_quiet_step (fail))
  refine wpQuiet_nil ?_
  go_wp2_with fail
  refine (c_l01In _ _ _ _).mono ?_
  rintro e w' ⟨rfl, rfl⟩
  go_wp2_with fail
  refine ⟨Ext.refl _, ?_⟩
  repeat (go_big_quiet_step (fail))
  refine wpQuiet_nil ?_
  go_wp2_with fail
  go_ret
  exact Ret.bool (by rw [HR.out]; rfl) hx1'.box.drew
end Go.Proofs.YtjpmiokbgpggbaaGreat
