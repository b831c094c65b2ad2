

/-
  The balances of all accounts, of the program and of the reference.
-/
import Derived.Test.YtclnfjpjmelfpaaPostH
namespace Go.Proofs.Ytclnfjpjmelfpaa
open Go.RowKit

/-- what one posting adds to an account -/
def dlt (sel : Posting → Int) (p : Posting) (a : Nat) : Int := (if p.debit = a then sel p else 0) - (if p.credit = a then sel p else 0)
def balF (sel : Posting → Int) : List Posting → Nat → Int
  | [], _ => 0
  | p :: ps, a => dlt sel p a + balF sel ps a
theorem balF_snoc (sel : Posting → Int) (ps : List Posting) (p : Posting) (a : Nat) : balF sel (ps ++ [p]) a = balF sel ps a + dlt sel p a := by
  induction ps with
  | nil => simp [balF]
  | cons q ps ih => simp only [List.cons_append, balF, ih]; omega
def balL (F : Nat → Int) : List Int := (List.range 24).map F
theorem balL_len (F : Nat → Int) : (balL F).length = 24 := by simp [balL]
theorem balL_at (F : Nat → Int) (a : Nat) (h : a < 24) : (balL F)[a]? = some (F a) := by
  unfold balL; rw [List.getElem?_map, List.getElem?_range h]; rfl
theorem balL_set (F : Nat → Int) (d : Nat) (v : Int) : (balL F).set d v = balL (fun a => if a = d then v else F a) := by
  apply List.ext_getElem?
  intro j
  rw [List.getElem?_set]
  by_cases hj : j < 24
  · rw [balL_at (fun a => if a = d then v else F a) j hj, balL_at F j hj, balL_len]
    by_cases e : d = j
    · subst e; rw [if_pos rfl, if_pos hj, if_pos rfl]
    · rw [if_neg e, if_neg (fun h => e h.symm)]
  · rw [List.getElem?_eq_none (l := balL fun a => if a = d then v else F a) (by rw [balL_len]; omega), List.getElem?_eq_none (l := balL F) (by rw [balL_len]; omega), balL_len]
    by_cases e : d = j
    · subst e; rw [if_pos rfl, if_neg hj]
    · rw [if_neg e]
theorem bal_step {sel : Posting → Int} {F : Nat → Int} {d c : Nat} {g m v : Int} (hne : d ≠ c) (hv : v = sel ⟨d, c, g, m⟩) :
    ((balL F).set d (F d + v)).set c (F c - v) = balL (fun a => F a + dlt sel ⟨d, c, g, m⟩ a) := by
  rw [balL_set, balL_set]
  congr 1
  funext a
  unfold dlt
  rw [← hv]
  have e1 : ((d : Int) = (a : Int)) ↔ a = d := by omega
  have e2 : ((c : Int) = (a : Int)) ↔ a = c := by omega
  simp only [e1, e2]
  by_cases h1 : a = c
  · have h2 : ¬ a = d := by omega
    rw [if_pos h1, if_neg h2, if_pos h1, h1]; omega
  · by_cases h2 : a = d
    · rw [if_neg h1, if_pos h2, if_pos h2, if_neg h1, h2]; omega
    · rw [if_neg h1, if_neg h2, if_neg h2, if_neg h1]; omega
theorem dlt_bd {sel : Posting → Int} {p : Posting} {a : Nat} {M : Int} (h0 : -M ≤ sel p) (h1 : sel p ≤ M) (_hne : p.debit ≠ p.credit) : -M ≤ dlt sel p a ∧ dlt sel p a ≤ M := by
  unfold dlt
  by_cases e1 : p.debit = a
  · by_cases e2 : p.credit = a
    · omega
    · rw [if_pos e1, if_neg e2]; omega
  · by_cases e2 : p.credit = a
    · rw [if_neg e1, if_pos e2]; omega
    · rw [if_neg e1, if_neg e2]; omega
theorem balF_bd {sel : Posting → Int} {M : Int} (ps : List Posting) (h : ∀ p ∈ ps, -M ≤ sel p ∧ sel p ≤ M ∧ p.debit ≠ p.credit) (a : Nat) : -(M * (ps.length : Int)) ≤ balF sel ps a ∧ balF sel ps a ≤ M * (ps.length : Int) := by
  induction ps with
  | nil => simp [balF]
  | cons p ps ih =>
    have h1 := h p (by simp)
    have h2 := ih (fun q hq => h q (by simp [hq]))
    have h3 := dlt_bd (a := a) h1.1 h1.2.1 h1.2.2
    have h4 : M * ((p :: ps).length : Int) = M * (ps.length : Int) + M := by rw [List.length_cons, show ((ps.length + 1 : Nat) : Int) = (ps.length : Int) + 1 by omega, Int.mul_add, Int.mul_one]
    rw [h4]
    simp only [balF]
    omega
theorem postB_true {p : Posting} (h : postB p = true) : 0 ≤ p.debit ∧ p.debit ≤ 23 ∧ 0 ≤ p.credit ∧ p.credit ≤ 23 ∧ p.debit ≠ p.credit ∧ -1000000000 ≤ p.gas ∧ p.gas ≤ 1000000000 ∧ -1000000000000000 ≤ p.money ∧ p.money ≤ 1000000000000000 := by
  simp only [postB, Bool.and_eq_true, inB_true, bne_iff_ne] at h
  omega
theorem ledB_true {ps : List Posting} (h : ledB ps = true) : ps.length ≤ 300 ∧ ∀ p ∈ ps, postB p = true := by
  simp only [ledB, Bool.and_eq_true, decide_eq_true_eq, List.all_eq_true] at h
  exact h
theorem bal_gas_bd {ps : List Posting} (h : ∀ p ∈ ps, postB p = true) (a : Nat) : -(1000000000 * (ps.length : Int)) ≤ balF Posting.gas ps a ∧ balF Posting.gas ps a ≤ 1000000000 * (ps.length : Int) :=
  balF_bd ps (fun p hp => by have := postB_true (h p hp); omega) a
theorem bal_money_bd {ps : List Posting} (h : ∀ p ∈ ps, postB p = true) (a : Nat) : -(1000000000000000 * (ps.length : Int)) ≤ balF Posting.money ps a ∧ balF Posting.money ps a ≤ 1000000000000000 * (ps.length : Int) :=
  balF_bd ps (fun p hp => by have := postB_true (h p hp); omega) a
theorem take_snoc {ps : List Posting} {k : Nat} {p : Posting} (h : ps[k]? = some p) : ps.take (k + 1) = ps.take k ++ [p] := by
  obtain ⟨hk, rfl⟩ := List.getElem?_eq_some_iff.1 h
  rw [List.take_succ_eq_append_getElem hk]
theorem bal_zero : balL (fun a => balF Posting.gas [] a) = List.replicate 24 0 := rfl


/-- two new slices, of gas and of money -/
def NewBals (ps : List Posting) (w : World) (e : Ending) (w' : World) : Prop :=
  ∃ g1 g2, e = .returned (.tuple #[.slice (some ⟨g1, 0, none⟩) 24 24, .slice (some ⟨g2, 0, none⟩) 24 24]) ∧ w.heap.size ≤ g1 ∧ w.heap.size ≤ g2 ∧ g1 ≠ g2 ∧
    RowOf w' g1 2 intC (balL (balF Posting.gas ps)) ∧ RowOf w' g2 2 intC (balL (balF Posting.money ps)) ∧ Ext w w'

def zeroCells : List Value := (List.replicate 24 (0 : Int)).flatMap intC
theorem run_make24 (W : World) : (Instr.makeSlice 39 (.int .i64 24) (.int .i64 24)).run Try.prog W = .ok (.slice (some ⟨W.heap.size, 0, none⟩) 24 24) (W.alloc (.cells zeroCells.toArray 2)) :=
  run_make_flat (P := Try.prog) 39 2 _ _ 1 8 Try.underlying39 int_info (f := intC) 0 rfl rfl rfl (by omega) 24 (by omega) (by omega) W
theorem zero_row (W : World) : RowOf (W.alloc (.cells zeroCells.toArray 2)) W.heap.size 2 intC (balL (balF Posting.gas [])) := Row.new W 2 zeroCells
theorem zero_row' (W : World) : RowOf (W.alloc (.cells zeroCells.toArray 2)) W.heap.size 2 intC (balL (balF Posting.money [])) := Row.new W 2 zeroCells
theorem zero_row2 (W : World) (o : Obj) : RowOf ((W.alloc o).alloc (.cells zeroCells.toArray 2)).drew (W.heap.size + 1) 2 intC (balL (balF Posting.gas [])) := by
  have := zero_row (W.alloc o)
  rw [show (W.alloc o).heap.size = W.heap.size + 1 by simp] at this
  exact this
theorem zero_row2' (W : World) (o : Obj) : RowOf ((W.alloc o).alloc (.cells zeroCells.toArray 2)).drew (W.heap.size + 1) 2 intC (balL (balF Posting.money [])) := by
  have := zero_row' (W.alloc o)
  rw [show (W.alloc o).heap.size = W.heap.size + 1 by simp] at this
  exact this

set_option maxHeartbeats 4000000 in
theorem c_balancesOf (A : Option Addr) (n c : Nat) (ps : List Posting) (w : World) (hs : SliceOf w 4 Posting.cells A n c ps) (hled : ledB ps = true) :
    Calls Try.prog 61 #[.slice A n c] w (NewBals ps w) := by
  obtain ⟨hlen, hall⟩ := ledB_true hled
  have hn : n ≤ 300 := by rw [hs.len]; exact hlen
  have HA := hide hall
  clear hall hlen hled
  have hmk := run_make24
  go_enter Try.func61, Try.ntmps61
  go_wp2_with fail
  go_region
  · clear hmk
    go_wp2_with fail
    go_loopw [12] (fun i wr => ∃ (k : Nat), k ≤ n ∧ i = .int .i64 k ∧ RowOf wr w.heap.size 2 intC (balL (balF Posting.gas (ps.take k))) ∧ RowOf wr (w.heap.size + 1) 2 intC (balL (balF Posting.money (ps.take k))) ∧ Ext w wr) (fun i _ => n - (intOf i).toNat)
    case atStart => exact ⟨0, Nat.zero_le _, rfl, (zero_row w).ext ((Ext.alloc _ _).drew), zero_row2' _ _, ((Ext.alloc _ _).and_alloc _).drew⟩
    case round =>
      obtain ⟨k, hk, rfl, hr1, hr2, hx⟩ := hrel
      have hl1 := hr1.lt
      have hl2 := hr2.lt
      have hne : w.heap.size ≠ (w.heap.size + 1) := by omega
      by_cases hlt : k < n
      · obtain ⟨b, off, p, rfl, hb, hxk, hc⟩ := (hs.ext hx).get hlt
        have hpB := HA.out p (List.mem_of_getElem? hxk)
        have HTK := hide (take_snoc hxk)
        have hPR : ∀ q ∈ ps.take k, postB q = true := fun q hq => HA.out q (List.mem_of_mem_take hq)
        have hLK : (ps.take k).length = k := by rw [List.length_take, ← hs.len]; omega
        obtain ⟨d, cr, ga, mo⟩ := p
        obtain ⟨p1, p2, p3, p4, p5, p6, p7, p8, p9⟩ := postB_true hpB
        simp only at p1 p2 p3 p4 p5 p6 p7 p8 p9
        clear hpB hxk
        obtain ⟨d, rfl⟩ := Int.eq_ofNat_of_zero_le p1
        obtain ⟨cr, rfl⟩ := Int.eq_ofNat_of_zero_le p3
        have hc0 := hc 0 _ rfl
        have hc1 := hc 1 _ rfl
        have hc2 := hc 2 _ rfl
        have hc3 := hc 3 _ rfl
        clear hc
        simp only [Nat.add_zero] at hc0
        have hdc : d ≠ cr := by omega
        have hd24 : d < 24 := by omega
        have hc24 : cr < 24 := by omega
        have HG := hide (bal_step (sel := Posting.gas) (F := balF Posting.gas (ps.take k)) (d := d) (c := cr) (g := ga) (m := mo) hdc rfl)
        have HM := hide (bal_step (sel := Posting.money) (F := balF Posting.money (ps.take k)) (d := d) (c := cr) (g := ga) (m := mo) hdc rfl)
        have b1 := bal_gas_bd hPR d
        have b2 := bal_gas_bd hPR cr
        have b3 := bal_money_bd hPR d
        have b4 := bal_money_bd hPR cr
        rw [hLK] at b1 b2 b3 b4
        have HTG := hide (show balL (balF Posting.gas (ps.take (k + 1))) = balL (fun a => balF Posting.gas (ps.take k) a + dlt Posting.gas ⟨d, cr, ga, mo⟩ a) by rw [HTK.out]; congr 1; funext a; rw [balF_snoc])
        have HTM := hide (show balL (balF Posting.money (ps.take (k + 1))) = balL (fun a => balF Posting.money (ps.take k) a + dlt Posting.money ⟨d, cr, ga, mo⟩ a) by rw [HTK.out]; congr 1; funext a; rw [balF_snoc])
        clear HTK hPR hLK
        generalize hF : balF Posting.gas (ps.take k) = F at *
        generalize hM : balF Posting.money (ps.take k) = M at *
        clear hF hM
        have v1 : wr.cell? ⟨w.heap.size, d, none⟩ = some (.int .i64 (F d)) := by simpa using hr1.get intC_len (balL_at F d hd24) (j := 0) rfl
        have v2 : wr.cell? ⟨w.heap.size, cr, none⟩ = some (.int .i64 (F cr)) := by simpa using hr1.get intC_len (balL_at F cr hc24) (j := 0) rfl
        have v3 : wr.cell? ⟨(w.heap.size + 1), d, none⟩ = some (.int .i64 (M d)) := by simpa using hr2.get intC_len (balL_at M d hd24) (j := 0) rfl
        have v4 : wr.cell? ⟨(w.heap.size + 1), cr, none⟩ = some (.int .i64 (M cr)) := by simpa using hr2.get intC_len (balL_at M cr hc24) (j := 0) rfl
        have f1 := hr1.frozen d
        have f2 := hr1.frozen cr
        have f3 := hr2.frozen d
        have f4 := hr2.frozen cr
        have hdc' : cr ≠ d := by omega
        go_wp2_with fail
        refine wp_region_tail 9 (by kernel_rfl) (by kernel_rfl) ?_
        simp only [List.take_succ_cons, List.take_zero, List.drop_succ_cons, List.drop_zero]
        repeat (go_big_quiet_step (fail))
        refine wpQuiet_nil ?_
        go_wp2_with fail
        refine wp_region_tail 9 (by kernel_rfl) (by kernel_rfl) ?_
        simp only [List.take_succ_cons, List.take_zero, List.drop_succ_cons, List.drop_zero]
        repeat (go_big_quiet_step (fail))
        refine wpQuiet_nil ?_
        go_wp2_with fail
        refine wp_region_tail 9 (by kernel_rfl) (by kernel_rfl) ?_
        simp only [List.take_succ_cons, List.take_zero, List.drop_succ_cons, List.drop_zero]
        repeat (go_big_quiet_step (fail))
        refine wpQuiet_nil ?_
        go_wp2_with fail
        refine wp_region_tail 9 (by kernel_rfl) (by kernel_rfl) ?_
        simp only [List.take_succ_cons, List.take_zero, List.drop_succ_cons, List.drop_zero]
        repeat (go_big_quiet_step (fail))
        refine wpQuiet_nil ?_
        go_wp2_with fail
        go_roundw
        case rel =>
          refine ⟨k + 1, by omega, by go_num, ?_, ?_, ?_⟩
          · rw [HTG.out, ← HG.out]
            exact ((((hr1.set1 (by rw [balL_len]; exact hd24) _).set1 (by rw [List.length_set, balL_len]; exact hc24) _).far (p := ⟨(w.heap.size + 1), d, none⟩) hne _).far (p := ⟨(w.heap.size + 1), cr, none⟩) hne _).ext ((((Ext.alloc _ _).drew).drew).drew).drew
          · rw [HTM.out, ← HM.out]
            exact ((((hr2.far (p := ⟨w.heap.size, d, none⟩) hne.symm _).far (p := ⟨w.heap.size, cr, none⟩) hne.symm _).set1 (by rw [balL_len]; exact hd24) _).set1 (by rw [List.length_set, balL_len]; exact hc24) _).ext ((((Ext.alloc _ _).drew).drew).drew).drew
          · refine ((((Ext.and_alloc ?_ _).drew).drew).drew).drew
            repeat (refine Ext.setCell ?_ (by first | (simp; done) | (simp; omega) | omega) _)
            exact hx
        case measure => simp [intOf]; omega
      · go_wp2_with fail
        go_ret2
        have hkn : ps.take k = ps := List.take_of_length_le (by have := hs.len; omega)
        rw [hkn] at hr1 hr2
        exact ⟨_, _, rfl, by omega, by omega, by omega, hr1, hr2, hx⟩
  · clear hmk
    go_wp2_with fail
    go_loopw [12] (fun i wr => ∃ (k : Nat), k ≤ n ∧ i = .int .i64 k ∧ RowOf wr (w.heap.size + 1) 2 intC (balL (balF Posting.gas (ps.take k))) ∧ RowOf wr w.heap.size 2 intC (balL (balF Posting.money (ps.take k))) ∧ Ext w wr) (fun i _ => n - (intOf i).toNat)
    case atStart => exact ⟨0, Nat.zero_le _, rfl, zero_row2 _ _, (zero_row' w).ext ((Ext.alloc _ _).drew), ((Ext.alloc _ _).and_alloc _).drew⟩
    case round =>
      obtain ⟨k, hk, rfl, hr1, hr2, hx⟩ := hrel
      have hl1 := hr1.lt
      have hl2 := hr2.lt
      have hne : (w.heap.size + 1) ≠ w.heap.size := by omega
      by_cases hlt : k < n
      · obtain ⟨b, off, p, rfl, hb, hxk, hc⟩ := (hs.ext hx).get hlt
        have hpB := HA.out p (List.mem_of_getElem? hxk)
        have HTK := hide (take_snoc hxk)
        have hPR : ∀ q ∈ ps.take k, postB q = true := fun q hq => HA.out q (List.mem_of_mem_take hq)
        have hLK : (ps.take k).length = k := by rw [List.length_take, ← hs.len]; omega
        obtain ⟨d, cr, ga, mo⟩ := p
        obtain ⟨p1, p2, p3, p4, p5, p6, p7, p8, p9⟩ := postB_true hpB
        simp only at p1 p2 p3 p4 p5 p6 p7 p8 p9
        clear hpB hxk
        obtain ⟨d, rfl⟩ := Int.eq_ofNat_of_zero_le p1
        obtain ⟨cr, rfl⟩ := Int.eq_ofNat_of_zero_le p3
        have hc0 := hc 0 _ rfl
        have hc1 := hc 1 _ rfl
        have hc2 := hc 2 _ rfl
        have hc3 := hc 3 _ rfl
        clear hc
        simp only [Nat.add_zero] at hc0
        have hdc : d ≠ cr := by omega
        have hd24 : d < 24 := by omega
        have hc24 : cr < 24 := by omega
        have HG := hide (bal_step (sel := Posting.gas) (F := balF Posting.gas (ps.take k)) (d := d) (c := cr) (g := ga) (m := mo) hdc rfl)
        have HM := hide (bal_step (sel := Posting.money) (F := balF Posting.money (ps.take k)) (d := d) (c := cr) (g := ga) (m := mo) hdc rfl)
        have b1 := bal_gas_bd hPR d
        have b2 := bal_gas_bd hPR cr
        have b3 := bal_money_bd hPR d
        have b4 := bal_money_bd hPR cr
        rw [hLK] at b1 b2 b3 b4
        have HTG := hide (show balL (balF Posting.gas (ps.take (k + 1))) = balL (fun a => balF Posting.gas (ps.take k) a + dlt Posting.gas ⟨d, cr, ga, mo⟩ a) by rw [HTK.out]; congr 1; funext a; rw [balF_snoc])
        have HTM := hide (show balL (balF Posting.money (ps.take (k + 1))) = balL (fun a => balF Posting.money (ps.take k) a + dlt Posting.money ⟨d, cr, ga, mo⟩ a) by rw [HTK.out]; congr 1; funext a; rw [balF_snoc])
        clear HTK hPR hLK
        generalize hF : balF Posting.gas (ps.take k) = F at *
        generalize hM : balF Posting.money (ps.take k) = M at *
        clear hF hM
        have v1 : wr.cell? ⟨(w.heap.size + 1), d, none⟩ = some (.int .i64 (F d)) := by simpa using hr1.get intC_len (balL_at F d hd24) (j := 0) rfl
        have v2 : wr.cell? ⟨(w.heap.size + 1), cr, none⟩ = some (.int .i64 (F cr)) := by simpa using hr1.get intC_len (balL_at F cr hc24) (j := 0) rfl
        have v3 : wr.cell? ⟨w.heap.size, d, none⟩ = some (.int .i64 (M d)) := by simpa using hr2.get intC_len (balL_at M d hd24) (j := 0) rfl
        have v4 : wr.cell? ⟨w.heap.size, cr, none⟩ = some (.int .i64 (M cr)) := by simpa using hr2.get intC_len (balL_at M cr hc24) (j := 0) rfl
        have f1 := hr1.frozen d
        have f2 := hr1.frozen cr
        have f3 := hr2.frozen d
        have f4 := hr2.frozen cr
        have hdc' : cr ≠ d := by omega
        go_wp2_with fail
        refine wp_region_tail 9 (by kernel_rfl) (by kernel_rfl) ?_
        simp only [List.take_succ_cons, List.take_zero, List.drop_succ_cons, List.drop_zero]
        repeat (go_big_quiet_step (fail))
        refine wpQuiet_nil ?_
        go_wp2_with fail
        refine wp_region_tail 9 (by kernel_rfl) (by kernel_rfl) ?_
        simp only [List.take_succ_cons, List.take_zero, List.drop_succ_cons, List.drop_zero]
        repeat (go_big_quiet_step (fail))
        refine wpQuiet_nil ?_
        go_wp2_with fail
        refine wp_region_tail 9 (by kernel_rfl) (by kernel_rfl) ?_
        simp only [List.take_succ_cons, List.take_zero, List.drop_succ_cons, List.drop_zero]
        repeat (go_big_quiet_step (fail))
        refine wpQuiet_nil ?_
        go_wp2_with fail
        refine wp_region_tail 9 (by kernel_rfl) (by kernel_rfl) ?_
        simp only [List.take_succ_cons, List.take_zero, List.drop_succ_cons, List.drop_zero]
        repeat (go_big_quiet_step (fail))
        refine wpQuiet_nil ?_
        go_wp2_with fail
        go_roundw
        case rel =>
          refine ⟨k + 1, by omega, by go_num, ?_, ?_, ?_⟩
          · rw [HTG.out, ← HG.out]
            exact ((((hr1.set1 (by rw [balL_len]; exact hd24) _).set1 (by rw [List.length_set, balL_len]; exact hc24) _).far (p := ⟨w.heap.size, d, none⟩) hne _).far (p := ⟨w.heap.size, cr, none⟩) hne _).ext ((((Ext.alloc _ _).drew).drew).drew).drew
          · rw [HTM.out, ← HM.out]
            exact ((((hr2.far (p := ⟨(w.heap.size + 1), d, none⟩) hne.symm _).far (p := ⟨(w.heap.size + 1), cr, none⟩) hne.symm _).set1 (by rw [balL_len]; exact hd24) _).set1 (by rw [List.length_set, balL_len]; exact hc24) _).ext ((((Ext.alloc _ _).drew).drew).drew).drew
          · refine ((((Ext.and_alloc ?_ _).drew).drew).drew).drew
            repeat (refine Ext.setCell ?_ (by first | (simp; done) | (simp; omega) | omega) _)
            exact hx
        case measure => simp [intOf]; omega
      · go_wp2_with fail
        go_ret2
        have hkn : ps.take k = ps := List.take_of_length_le (by have := hs.len; omega)
        rw [hkn] at hr1 hr2
        exact ⟨_, _, rfl, by omega, by omega, by omega, hr1, hr2, hx⟩

end Go.Proofs.Ytclnfjpjmelfpaa
