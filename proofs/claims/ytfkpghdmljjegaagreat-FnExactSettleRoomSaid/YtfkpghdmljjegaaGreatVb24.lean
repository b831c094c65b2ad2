/-
  Allocating, of the reference: all readings. Orders: validity, of the program and of the reference. Orders and readings together: validity, of the program. The readings that fit orders, of the reference. What is settled in an hour, in plain Lean: its code, its transports, its orders. Contracts of the small functions on numbers and on terms (no loops). IsTerms of the program and of the reference: both return isTermsB.
-/
import Derived.Test.YtfkpghdmljjegaaGreatVb23
import Derived.Test.YtfkpghdmljjegaaGreatVb20
import Derived.Test.YtfkpghdmljjegaaGreatVb12
import Derived.Test.YtfkpghdmljjegaaGreatVb07
import Derived.Test.YtfkpghdmljjegaaGreatVb13
import Derived.Test.YtfkpghdmljjegaaGreatVb19
import Derived.Test.YtfkpghdmljjegaaGreatVb21
import Derived.Test.YtfkpghdmljjegaaGreatVb11
import Derived.Test.YtfkpghdmljjegaaGreatVb00
namespace Go.Proofs.YtfkpghdmljjegaaGreat
open Go.RowKit
theorem drop_atA {α : Type} {l : List α} {k : Nat} {x : α} (h : l[k]? = some x) : l.drop k = x :: l.drop (k + 1) := by
  obtain ⟨hk, rfl⟩ := List.getElem?_eq_some_iff.1 h
  exact List.drop_eq_getElem_cons hk
theorem ShSt.new6 {w wr wr' : World} {v6 v7 v' : Value} {o o' r : List Int} (h : ShSt w wr v6 v7 o r) (hx : Ext wr wr') (ho : OwnL wr' wr.heap.size 2 1 intC v' o') : ShSt w wr' v' v7 o' r :=
  ⟨ho.lowG h.ext.size, h.o7.ext hx, fun k hk h2 => by have h3 := ho.block_le hk; have h4 := (h.o7.ltG h2).2; omega, h.ext.trans hx⟩
/-- readings that are allocated: small and not 0 -/
def Rdg (rs : List Reading) : Prop := ∀ x ∈ rs, (-30000 ≤ x.amount ∧ x.amount ≤ 30000) ∧ x.amount ≠ 0
/-- what the orders get, and the places of the unallocated readings -/
def RetAl (os : List Order) (rs : List Reading) (w : World) (e : Ending) (w' : World) : Prop :=
  ∃ v1 v2 g, e = .returned (.tuple #[v1, v2]) ∧ ShSt w w' v1 v2 g (unalL os 0 rs) ∧ Hid (Alloc os (List.replicate os.length 0) rs g ∧ Bd 10000000 g ∧ g.length = os.length)
set_option maxHeartbeats 1000000 in
theorem c_l28Allocate (A : Option Addr) (n c : Nat) (os : List Order) (B : Option Addr) (m d : Nat) (rs : List Reading) (w : World) (hs : SliceOf w 4 Order.cells A n c os) (hr : SliceOf w 2 Reading.cells B m d rs) (hn : n ≤ 40) (hm : m ≤ 48) (ha : Amt os) (hrd : Rdg rs) :
    Calls Tryz.prog 207 #[.slice A n c, .slice B m d] w (RetAl os rs w) := by
  have HL := hide hs.len
  have HM := hide hr.len
  have HA := hide ha
  have HR := hide hrd
  clear ha hrd
  have hmk := fun W => run_make_flat (P := Tryz.prog) 24 2 _ _ 1 8 Tryz.underlying24 int_info (f := intC) 0 rfl rfl rfl (by omega) n (by omega) (by omega) W
  have hS0 : ShSt w ((w.alloc (.cells ((List.replicate n (0 : Int)).flatMap intC).toArray 2)).alloc (.cells #[] 2)) (.slice (some ⟨w.heap.size, 0, none⟩) n n) (.slice (some ⟨w.heap.size + 1, 0, none⟩) 0 0) (List.replicate n 0) (unalL os 0 (rs.take 0)) :=
    ⟨(own_rep w w.heap.size _ n rfl (Nat.le_refl _) (by omega)).ext (Ext.alloc _ _), own_new _ w.heap.size _ _ _ _ (by simp) (by omega), fun k hk h2 => by simp [Value.ownBlock] at hk h2; omega, (Ext.alloc _ _).and_alloc _⟩
  have hb0 : Bd 0 (List.replicate n 0) := fun y hy => by have := List.eq_of_mem_replicate hy; omega
  go_enter Tryz.func207, Tryz.ntmps207
  go_wp2_with fail
  clear hmk
  go_loopw [6, 7, 8] (fun u v i wr => ∃ (k : Nat) (g : List Int), k ≤ m ∧ i = .int .i64 k ∧ g.length = n ∧ ShSt w wr u v g (unalL os 0 (rs.take k)) ∧ Hid (∀ g', Alloc os g (rs.drop k) g' → Alloc os (List.replicate os.length 0) rs g') ∧ Hid (Bd (60000 * (k : Int)) g)) (fun _ _ i _ => m - (intOf i).toNat)
  case atStart => exact ⟨0, List.replicate n 0, Nat.zero_le _, rfl, by simp, hS0, hide (fun g' h => by rw [← HL.out]; exact h), hide (by simpa using hb0)⟩
  case round =>
    clear hS0 hb0
    obtain ⟨k, g, hk, rfl, hgl, hD, HAl, HBd⟩ := hrel
    have hx := hD.ext
    have hwz := hx.size
    by_cases hlt : k < m
    · obtain ⟨b, off, x, rfl, hbb, hxk, hc⟩ := hr.get hlt
      have j0w := hc 0 _ rfl
      have j1w := hc 1 _ rfl
      simp only [Nat.add_zero] at j0w
      have HX := hide hxk
      have hxb := HR.out x (List.mem_of_getElem? hxk)
      clear hc hxk
      have j0 := (hx.cell _ _ hbb).trans j0w
      have j1 := (hx.cell _ _ hbb).trans j1w
      have hbw : b < wr.heap.size := by omega
      go_wp2_with fail
      refine (c_l28Weights A n c os x _ (hs.ext hx) (by omega) HA.out).mono ?_
      rintro e w2 ⟨v9, ws, rfl, ho9, hwse, hx2⟩
      obtain rfl := hwse.out
      obtain ⟨A9, c9, rfl, hs9⟩ := ho9.sl intC_len (by omega)
      have hw9l : (wts os x).length = n := by rw [wts, List.length_map, ← HL.out]
      have hwb : ∀ z ∈ wts os x, 0 ≤ z ∧ z ≤ 30000 := fun z hz => by
        obtain ⟨o, ho, rfl⟩ := List.mem_map.1 hz
        exact wt_bd (HA.out o ho)
      have hallB : allB (wts os x) (-1000000000) 1000000000 = true := List.all_eq_true.2 (fun z hz => inB_true.2 (by have := hwb z hz; omega))
      have HS0 := hide (sumZ_nonneg (fun z hz => (hwb z hz).1))
      have HU := hide (unal_take (os := os) HX.out)
      have HDr := hide (drop_atA HX.out)
      have HSk := hide (fun (g' : List Int) (hz : sumZ (wts os x) = 0) (h : Alloc os g (rs.drop (k + 1)) g') => Alloc.skip hz h)
      have HAd := hide (fun (g' sh : List Int) (hz : 0 < sumZ (wts os x)) (hd : Shares (absZ x.amount) (wts os x) sh) (h : Alloc os (addS (sgn x) g sh) (rs.drop (k + 1)) g') => Alloc.add hz hd h)
      generalize wts os x = ws at *
      rw [hw9l] at hs9
      have HWB := hide hwb
      have hD2 := hD.more hx2
      have j2 := (hx2.cell _ _ hbw).trans j1
      clear hwb ho9 hD j0 j1
      go_wp2_with fail
      refine (c_l01Sum A9 n c9 ws _ hs9 hallB (by omega)).mono ?_
      rw [sumI_eq]
      obtain ⟨sm, hsm⟩ : ∃ sm, sumZ ws = sm := ⟨_, rfl⟩
      have HSM := hide hsm
      rw [hsm]
      rw [hsm] at HS0 HU
      rintro e w' ⟨rfl, rfl⟩
      clear hsm hallB
      by_cases h0 : sm = 0
      · have hb0 : (sm == 0) = true := by rw [beq_iff_eq]; exact h0
        rw [h0] at HU HSM
        have hul := unal_len os 0 (rs.take k)
        rw [List.length_take] at hul
        have HUL := hide (show (unalL os 0 (rs.take k)).length ≤ k by omega)
        rw [if_pos rfl] at HU
        clear hul h0
        go_wp2_with (at_builtin; go_must (refine wpList_append_where rfl _ _ 24 rfl w.heap.size 2 _ 1 8 Tryz.underlying24 int_info rfl (by decide) intC intC_len int_one' _ (unalL os 0 (rs.take k)) rfl (hD2.o7.ext (Ext.alloc _ _)) w2.heap.size 0 1 1 [(k : Int)] rfl (new_int w2 _ _ rfl) (by have := HUL.out; omega) (by omega) (by have := hD2.ext.size; simp; omega) ?_))
        intro v' w4 ho4 hg4 hb4
        have hD4 := hD2.app7 (Ext.alloc _ _) ho4 hg4 (by simpa using hb4)
        rw [← HU.out] at hD4
        clear hD2 ho4 hg4 hb4
        go_wp2_with fail
        go_roundw
        case rel => exact ⟨k + 1, g, by omega, by go_num, hgl, hD4, hide (fun g' h => HAl.out g' (by rw [HDr.out]; exact HSk.out g' HSM.out h)), hide (HBd.out.mono (by omega))⟩
        case measure => simp [intOf]; omega
      · have hb0 : (sm == 0) = false := by rw [beq_eq_false_iff_ne]; exact h0
        have h0p : 0 < sm := by have := HS0.out; omega
        rw [if_neg h0, List.append_nil] at HU
        by_cases hneg : x.amount < 0
        · have e1 : IntKind.i64.wrap ((-1) * x.amount) = -x.amount := by rw [show (-1) * x.amount = -x.amount by omega]; exact IntWalk.i64_in _ (by omega)
          have hsg : sgn x = -1 := by unfold sgn; rw [if_pos hneg]
          have hab : absZ x.amount = -x.amount := by unfold absZ; rw [if_pos hneg]
          have HSG := hide hsg
          have HAB := hide hab
          clear hsg hab
          obtain ⟨A6, c6, rfl, hs6⟩ := hD2.o6.sl intC_len (by omega)
          rw [hgl] at hs6
          go_wp2_with fail
          refine (c_l01Shares A9 n c9 ws (-x.amount) w2 hs9 ⟨by omega, HWB.out, by omega, by rw [HSM.out]; exact h0p⟩).mono ?_
          rintro e w3 ⟨v3, sh, rfl, ho3, HSH, hx3⟩
          obtain ⟨A3, c3, rfl, hs3⟩ := ho3.sl intC_len (by omega)
          have hshl : sh.length = n := by rw [HSH.out.1.len, hw9l]
          rw [hshl] at hs3
          go_wp2_with fail
          refine (c_l05Add _ n _ g A3 n c3 sh (-1) w3 (hs6.ext hx3) hs3 rfl (by omega) (by decide) (HBd.out.mono (by omega)) (fun y hy => by have := HSH.out.2 y hy; omega)).mono ?_
          rintro e w4 ⟨v4, g4, rfl, ho4, HG4, hx4⟩
          have hD4 := (hD2.more hx3).new6 hx4 ho4
          have h4l : g4.length = n := by rw [HG4.out]; rw [addS_len (by omega)]; exact hgl
          have HB4 := hide (show Bd (60000 * ((k + 1 : Nat) : Int)) g4 by rw [HG4.out]; exact (addS_bd (by decide) HBd.out (K := 60000) (fun y hy => by have := HSH.out.2 y hy; omega)).mono (by omega))
          have HA4 := hide (fun (g' : List Int) (h : Alloc os g4 (rs.drop (k + 1)) g') => HAl.out g' (by rw [HDr.out]; exact HAd.out g' sh (by rw [HSM.out]; exact h0p) (by rw [HAB.out]; exact HSH.out.1) (by rw [HSG.out, ← HG4.out]; exact h)))
          rw [← HU.out] at hD4
          clear hD2 ho4 ho3 hs3 hs6
          go_wp2_with fail
          go_roundw
          case rel => exact ⟨k + 1, g4, by omega, by go_num, h4l, hD4, HA4, HB4⟩
          case measure => simp [intOf]; omega
        · have e1 : IntKind.i64.wrap ((1) * x.amount) = x.amount := by rw [show (1) * x.amount = x.amount by omega]; exact IntWalk.i64_in _ (by omega)
          have hsg : sgn x = 1 := by unfold sgn; rw [if_neg hneg]
          have hab : absZ x.amount = x.amount := by unfold absZ; rw [if_neg hneg]
          have HSG := hide hsg
          have HAB := hide hab
          clear hsg hab
          obtain ⟨A6, c6, rfl, hs6⟩ := hD2.o6.sl intC_len (by omega)
          rw [hgl] at hs6
          go_wp2_with fail
          refine (c_l01Shares A9 n c9 ws (x.amount) w2 hs9 ⟨by omega, HWB.out, by omega, by rw [HSM.out]; exact h0p⟩).mono ?_
          rintro e w3 ⟨v3, sh, rfl, ho3, HSH, hx3⟩
          obtain ⟨A3, c3, rfl, hs3⟩ := ho3.sl intC_len (by omega)
          have hshl : sh.length = n := by rw [HSH.out.1.len, hw9l]
          rw [hshl] at hs3
          go_wp2_with fail
          refine (c_l05Add _ n _ g A3 n c3 sh (1) w3 (hs6.ext hx3) hs3 rfl (by omega) (by decide) (HBd.out.mono (by omega)) (fun y hy => by have := HSH.out.2 y hy; omega)).mono ?_
          rintro e w4 ⟨v4, g4, rfl, ho4, HG4, hx4⟩
          have hD4 := (hD2.more hx3).new6 hx4 ho4
          have h4l : g4.length = n := by rw [HG4.out]; rw [addS_len (by omega)]; exact hgl
          have HB4 := hide (show Bd (60000 * ((k + 1 : Nat) : Int)) g4 by rw [HG4.out]; exact (addS_bd (by decide) HBd.out (K := 60000) (fun y hy => by have := HSH.out.2 y hy; omega)).mono (by omega))
          have HA4 := hide (fun (g' : List Int) (h : Alloc os g4 (rs.drop (k + 1)) g') => HAl.out g' (by rw [HDr.out]; exact HAd.out g' sh (by rw [HSM.out]; exact h0p) (by rw [HAB.out]; exact HSH.out.1) (by rw [HSG.out, ← HG4.out]; exact h)))
          rw [← HU.out] at hD4
          clear hD2 ho4 ho3 hs3 hs6
          go_wp2_with fail
          go_roundw
          case rel => exact ⟨k + 1, g4, by omega, by go_num, h4l, hD4, HA4, HB4⟩
          case measure => simp [intOf]; omega
    · obtain rfl : m = k := by omega
      have HT := hide (show rs.take m = rs by rw [HM.out, List.take_length])
      have HDr := hide (show rs.drop m = [] by rw [HM.out, List.drop_length])
      rw [HT.out] at hD
      have HF := hide (⟨HAl.out g (by rw [HDr.out]; exact Alloc.nil g), HBd.out.mono (by omega), by rw [← HL.out]; exact hgl⟩ : Alloc os (List.replicate os.length 0) rs g ∧ Bd 10000000 g ∧ g.length = os.length)
      go_wp2_with fail
      go_ret2
      exact ⟨_, _, g, rfl, hD, HF⟩
end Go.Proofs.YtfkpghdmljjegaaGreat

namespace Go.Proofs.YtfkpghdmljjegaaGreat
open Go.RowKit
end Go.Proofs.YtfkpghdmljjegaaGreat

namespace Go.Proofs.YtfkpghdmljjegaaGreat
open Go.RowKit
end Go.Proofs.YtfkpghdmljjegaaGreat

namespace Go.Proofs.YtfkpghdmljjegaaGreat
open Go.RowKit
end Go.Proofs.YtfkpghdmljjegaaGreat

namespace Go.Proofs.YtfkpghdmljjegaaGreat
open Go.RowKit
/-- the code of an hour -/
def setC (n1 : Int) (ns : List Node) (ps : List Pipe) (xs : List Contract) (L : List Nomination) (h : Int) : Int :=
  if nomC n1 ns ps xs L = 0 then (if inB h 0 47 = false then 2 else if 20 < xs.length then 7 else 0) else nomC n1 ns ps xs L
/-- an hour that may be settled -/
structure HrOk (n1 : Nat) (ns : List Node) (ps : List Pipe) (xs : List Contract) (L : List Nomination) (h : Int) : Prop where
  net : netB ns ps = true
  bk : bookB n1 xs = true
  nm : nomsB xs L = true
  hr : inB h 0 47 = true
  le : xs.length ≤ 20
theorem nomC_ok3 {n1 : Int} {ns : List Node} {ps : List Pipe} {xs : List Contract} {L : List Nomination} (h : nomC n1 ns ps xs L = 0) : netB ns ps = true ∧ bookB n1 xs = true ∧ nomsB xs L = true := by
  unfold nomC at h
  split at h
  · rename_i h0
    obtain ⟨h1, h2⟩ := book_zero h0
    split at h
    · cases h
    · exact ⟨h1, h2, by simp_all⟩
  · exact absurd h (by assumption)
theorem setC_ok {n1 : Nat} {ns : List Node} {ps : List Pipe} {xs : List Contract} {L : List Nomination} {h : Int} (hz : setC n1 ns ps xs L h = 0) : HrOk n1 ns ps xs L h := by
  unfold setC at hz
  split at hz
  · rename_i h0
    obtain ⟨a, b, c⟩ := nomC_ok3 h0
    split at hz
    · cases hz
    · split at hz
      · cases hz
      · exact ⟨a, b, c, by simp_all, by omega⟩
  · exact absurd hz (by assumption)
theorem con_facts {nn : Int} {xs : List Contract} (h : bookB nn xs = true) : ∀ x ∈ xs, (0 ≤ x.shipper ∧ x.shipper ≤ 15) ∧ (0 ≤ x.entry ∧ x.entry < nn) ∧ (0 ≤ x.exit ∧ x.exit < nn) ∧ x.entry ≠ x.exit ∧ (1 ≤ x.amount ∧ x.amount ≤ 30000) ∧ (0 ≤ x.cls ∧ x.cls ≤ 3) := by
  intro x hx
  simp only [bookB, Bool.and_eq_true, List.all_eq_true] at h
  have := h.2 x hx
  simp only [conB, Bool.and_eq_true, inB_true, bne_iff_ne, ne_eq, decide_eq_true_eq] at this
  omega
theorem nom_facts {nn : Int} {xs : List Contract} {L : List Nomination} (hb : bookB nn xs = true) (h : nomsB xs L = true) : L.length ≤ 200 ∧ ∀ x ∈ L, (0 ≤ x.contract ∧ x.contract < xs.length) ∧ (0 ≤ x.amount ∧ x.amount ≤ 30000) := by
  simp only [nomsB, Bool.and_eq_true, decide_eq_true_eq, List.all_eq_true] at h
  refine ⟨h.1, fun x hx => ?_⟩
  obtain ⟨k, hk, rfl⟩ := List.mem_iff_getElem.1 hx
  have h1 := h.2 k (by simpa using hk)
  rw [nomOk_at (List.getElem?_eq_getElem hk), Bool.and_eq_true] at h1
  have h2 := h1.1
  unfold nomB at h2
  split at h2
  · rename_i p hp
    have hpc := (con_facts hb p (List.mem_of_getElem? hp)).2.2.2.2.1
    simp only [Bool.and_eq_true, inB_true] at h2
    omega
  · cases h2
section
variable {n1 : Nat} {xs : List Contract} {L : List Nomination}
theorem trn_ok (hb : bookB n1 xs = true) (hn : nomsB xs L = true) (h : Int) : ∀ x ∈ trnL xs L h, TrnB n1 30000 x := by
  intro x hx
  have ha := amtL_in (nb := xs.length) (h := h) (fun y hy => ((nom_facts hb hn).2 y hy).2)
  obtain ⟨k, hk, rfl⟩ := List.mem_iff_getElem.1 hx
  unfold trnL at hk ⊢
  rw [List.length_zipWith] at hk
  rw [List.getElem_zipWith]
  have h1 := con_facts hb (xs[k]'(by omega)) (List.getElem_mem _)
  have h2 := ha ((amtL xs.length L h)[k]'(by omega)) (List.getElem_mem _)
  unfold trnOf
  exact ⟨h1.2.1, h1.2.2.1, h2, ⟨h1.2.2.2.2.2.1, by have := h1.2.2.2.2.2.2; show (xs[k]'(by omega)).cls < 4; omega⟩⟩
end
/-- the curtailed transports of an hour -/
noncomputable def lessT (ps : List Pipe) (N : Nat) (xs : List Contract) (L : List Nomination) (h : Int) : List Trn := (trnL xs L h).map (scaleT (scalesF (fitS ps N (trnL xs L h))))
/-- the scales of an hour -/
noncomputable def hrSc (ps : List Pipe) (N : Nat) (xs : List Contract) (L : List Nomination) (h : Int) : List Int := scalesF (fitS ps N (trnL xs L h))
theorem hrSc_in (ps : List Pipe) (N : Nat) (xs : List Contract) (L : List Nomination) (h : Int) : ScaleIn (hrSc ps N xs L h) := scK_in _ 4
theorem hrSc_len (ps : List Pipe) (N : Nat) (xs : List Contract) (L : List Nomination) (h : Int) : (hrSc ps N xs L h).length = 4 := (hrSc_in ps N xs L h).1
theorem lessT_len (ps : List Pipe) (N : Nat) (xs : List Contract) (L : List Nomination) (h : Int) : (lessT ps N xs L h).length = xs.length := by
  unfold lessT; rw [List.length_map, trnL_len]
theorem less_ok {n1 : Nat} {ps : List Pipe} {xs : List Contract} {L : List Nomination} (hb : bookB n1 xs = true) (hn : nomsB xs L = true) (h : Int) : ∀ x ∈ lessT ps n1 xs L h, TrnB n1 30000 x := by
  intro x hx
  obtain ⟨y, hy, rfl⟩ := List.mem_map.1 hx
  exact scaleT_ok (trn_ok hb hn h y hy) (hrSc_in ps n1 xs L h)
/-- the orders of an hour -/
noncomputable def hrOrd (ps : List Pipe) (N : Nat) (xs : List Contract) (L : List Nomination) (h : Int) : List Order := ordL xs ((lessT ps N xs L h).map Trn.amount)
theorem hrOrd_len (ps : List Pipe) (N : Nat) (xs : List Contract) (L : List Nomination) (h : Int) : (hrOrd ps N xs L h).length = 2 * xs.length := ordL_len _ _ (by rw [List.length_map, lessT_len])
end Go.Proofs.YtfkpghdmljjegaaGreat

namespace Go.Proofs.YtfkpghdmljjegaaGreat
open Go.RowKit

def tolF (band percent thr : Int) : Int := max band (thr * percent / 100)
theorem mul_bd {a b : Int} (x y : Int) (ha : 0 ≤ a) (ha' : a ≤ x) (hb : 0 ≤ b) (hb' : b ≤ y) : 0 ≤ a * b ∧ a * b ≤ x * y :=
  ⟨Int.mul_nonneg ha hb, Int.mul_le_mul ha' hb' hb (by omega)⟩
theorem tolF_bd {band percent thr : Int} (h1 : 0 ≤ band) (h1' : band ≤ 1000000000) (h2 : 0 ≤ percent) (h2' : percent ≤ 100) (h3 : 0 ≤ thr) (h3' : thr ≤ 1000000000) : 0 ≤ tolF band percent thr ∧ tolF band percent thr ≤ 1000000000 := by
  have := mul_bd 1000000000 100 h3 h3' h2 h2'
  unfold tolF; omega

theorem c_toleranceFor (band percent price thr : Int) (A : Option Addr) (n c : Nat) (w : World) (h2 : 0 ≤ percent) (h2' : percent ≤ 100) (h3 : 0 ≤ thr) (h3' : thr ≤ 1000000000) :
    Calls Tryz.prog 254 #[.agg #[.int .i64 band, .int .i64 percent, .int .i64 price, .slice A n c], .int .i64 thr] w (Ret (.int .i64 (tolF band percent thr)) w) := by
  obtain ⟨hm, hm'⟩ := mul_bd 1000000000 100 h3 h3' h2 h2'
  go_enter Tryz.func254, Tryz.ntmps254
  go_wp2
  all_goals
    go_ret
    refine Ret.int ?_ (Ext.alloc _ _)
    unfold tolF; omega

theorem c_l29Tolerance (band percent price thr : Int) (A : Option Addr) (n c : Nat) (w : World) (h2 : 0 ≤ percent) (h2' : percent ≤ 100) (h3 : 0 ≤ thr) (h3' : thr ≤ 1000000000) :
    Calls Tryz.prog 258 #[.agg #[.int .i64 band, .int .i64 percent, .int .i64 price, .slice A n c], .int .i64 thr] w (Ret (.int .i64 (tolF band percent thr)) w) := by
  obtain ⟨hm, hm'⟩ := mul_bd 1000000000 100 h3 h3' h2 h2'
  go_enter Tryz.func258, Tryz.ntmps258
  go_wp2
  all_goals
    go_ret
    refine Ret.int ?_ (Ext.alloc _ _)
    unfold tolF; omega

def excF (band percent bal thr : Int) : Int :=
  if tolF band percent thr < bal then bal - tolF band percent thr else if bal < -tolF band percent thr then bal + tolF band percent thr else 0

theorem c_excessOf (band percent price bal thr : Int) (A : Option Addr) (n c : Nat) (w : World) (h1 : 0 ≤ band) (h1' : band ≤ 1000000000) (h2 : 0 ≤ percent) (h2' : percent ≤ 100) (h3 : 0 ≤ thr) (h3' : thr ≤ 1000000000)
    (h4 : -2000000000 ≤ bal) (h4' : bal ≤ 2000000000) :
    Calls Tryz.prog 201 #[.agg #[.int .i64 band, .int .i64 percent, .int .i64 price, .slice A n c], .int .i64 bal, .int .i64 thr] w (Ret (.int .i64 (excF band percent bal thr)) w) := by
  have ht := tolF_bd h1 h1' h2 h2' h3 h3'
  have HE := hide (show excF band percent bal thr = if tolF band percent thr < bal then bal - tolF band percent thr else if bal < -tolF band percent thr then bal + tolF band percent thr else 0 from rfl)
  generalize excF band percent bal thr = R at HE ⊢
  go_enter Tryz.func201, Tryz.ntmps201
  go_wp2_with fail
  refine (c_toleranceFor _ _ _ _ _ _ _ _ h2 h2' h3 h3').mono ?_
  generalize tolF band percent thr = T at ht HE ⊢
  obtain ⟨ht0, ht1⟩ := ht
  rintro e w1 ⟨rfl, hx⟩
  go_wp2
  all_goals
    go_ret
    refine Ret.int ?_ hx.box
    rw [HE.out]
    (repeat' split) <;> omega

theorem excF_spec {band percent bal thr : Int} (h : 0 ≤ tolF band percent thr) :
    excF band percent bal thr = if bal < 0 then -(max 0 (absI bal - tolF band percent thr)) else max 0 (absI bal - tolF band percent thr) := by
  unfold excF absI; (repeat' split) <;> omega

set_option maxHeartbeats 400000 in
theorem c_l29Excess (band percent price bal thr : Int) (A : Option Addr) (n c : Nat) (w : World) (h1 : 0 ≤ band) (h1' : band ≤ 1000000000) (h2 : 0 ≤ percent) (h2' : percent ≤ 100) (h3 : 0 ≤ thr) (h3' : thr ≤ 1000000000)
    (h4 : -2000000000 ≤ bal) (h4' : bal ≤ 2000000000) :
    Calls Tryz.prog 210 #[.agg #[.int .i64 band, .int .i64 percent, .int .i64 price, .slice A n c], .int .i64 bal, .int .i64 thr] w (Ret (.int .i64 (excF band percent bal thr)) w) := by
  have ht := tolF_bd h1 h1' h2 h2' h3 h3'
  have ha := absI_le (n := bal) (m := 2000000000) h4 h4'
  have HE := hide (excF_spec (bal := bal) ht.1)
  generalize excF band percent bal thr = R at HE ⊢
  go_enter Tryz.func210, Tryz.ntmps210
  go_wp2_with fail
  refine wp_region_later (by kernel_rfl) (by kernel_rfl) ?_
  have e1 : IntKind.i64.wrap (absI bal - tolF band percent thr) = absI bal - tolF band percent thr := IntWalk.i64_in _ (by omega)
  repeat (go_big_quiet_step ((first | (go_at_call 209; exact quiet_later_same (c_l01Abs _ _ (by omega) (by omega))) | (go_at_call 258; exact quiet_later (c_l29Tolerance _ _ _ _ _ _ _ _ h2 h2' h3 h3')))))
  refine wpQuiet_nil ?_
  intro w1 hx
  go_wp2
  all_goals
    go_ret
    refine Ret.int ?_ hx.box
    rw [HE.out]
    (repeat' split) <;> omega

end Go.Proofs.YtfkpghdmljjegaaGreat

namespace Go.Proofs.YtfkpghdmljjegaaGreat
open Go.RowKit

structure Tier where
  upto : Int
  factor : Int
def Tier.cells (t : Tier) : List Value := [.int .i64 t.upto, .int .i64 t.factor]

def stepOk : Option Tier → Tier → Bool
  | none, _ => true
  | some y, x => decide (y.upto < x.upto) && decide (y.factor ≤ x.factor)
def tierOk (ts : List Tier) (i : Nat) : Bool :=
  match ts[i]? with
  | none => true
  | some x => inB x.upto 1 1000000000 && inB x.factor 0 1000 && (match i with | 0 => true | j + 1 => stepOk ts[j]? x)
def isTermsB (band percent price : Int) (ts : List Tier) : Bool :=
  inB band 0 1000000000 && inB percent 0 100 && inB price 0 1000000 && inB ts.length 1 6 && (List.range ts.length).all (tierOk ts)

theorem tierOk_zero {ts : List Tier} {k : Nat} {x : Tier} (hk : ¬ 0 < k) (h : ts[k]? = some x) : tierOk ts k = (inB x.upto 1 1000000000 && inB x.factor 0 1000) := by
  obtain rfl : k = 0 := by omega
  simp [tierOk, h]
theorem tierOk_pos {ts : List Tier} {k : Nat} {x y : Tier} (hk : 0 < k) (h : ts[k]? = some x) (h' : ts[k - 1]? = some y) :
    tierOk ts k = (inB x.upto 1 1000000000 && inB x.factor 0 1000 && (decide (y.upto < x.upto) && decide (y.factor ≤ x.factor))) := by
  obtain ⟨m, rfl⟩ : ∃ m, k = m + 1 := ⟨k - 1, by omega⟩
  simp at h'
  simp [tierOk, h, h', stepOk]
/-- the ways through a round -/
theorem tier_ways {ts : List Tier} {k n : Nat} {x y : Tier} (hlt : k < n) (HT : tierOk ts k = (inB x.upto 1 1000000000 && inB x.factor 0 1000 && (decide (y.upto < x.upto) && decide (y.factor ≤ x.factor)))) :
    (inB x.upto 1 1000000000 = true ∧ inB x.factor 0 1000 = true ∧ decide (x.upto ≤ y.upto) = false ∧ decide (x.factor < y.factor) = false ∧ Hid (tierOk ts k = true)) ∨
    (inB x.upto 1 1000000000 = false ∧ Hid ((List.range n).all (tierOk ts) = false)) ∨
    (inB x.upto 1 1000000000 = true ∧ inB x.factor 0 1000 = false ∧ Hid ((List.range n).all (tierOk ts) = false)) ∨
    (inB x.upto 1 1000000000 = true ∧ inB x.factor 0 1000 = true ∧ decide (x.upto ≤ y.upto) = true ∧ Hid ((List.range n).all (tierOk ts) = false)) ∨
    (inB x.upto 1 1000000000 = true ∧ inB x.factor 0 1000 = true ∧ decide (x.upto ≤ y.upto) = false ∧ decide (x.factor < y.factor) = true ∧ Hid ((List.range n).all (tierOk ts) = false)) := by
  have e1 : decide (y.upto < x.upto) = !decide (x.upto ≤ y.upto) := by rw [Bool.eq_iff_iff]; simp
  have e2 : decide (y.factor ≤ x.factor) = !decide (x.factor < y.factor) := by rw [Bool.eq_iff_iff]; simp
  rw [e1, e2] at HT
  have hf : tierOk ts k = false → Hid ((List.range n).all (tierOk ts) = false) := fun h => hide (all_range_false hlt h)
  revert HT hf
  cases inB x.upto 1 1000000000 <;> cases inB x.factor 0 1000 <;> cases decide (x.upto ≤ y.upto) <;> cases decide (x.factor < y.factor) <;> simp <;> intro h <;> simp [h, Hid]
theorem tier_ways0 {ts : List Tier} {k n : Nat} {x : Tier} (hlt : k < n) (HT : tierOk ts k = (inB x.upto 1 1000000000 && inB x.factor 0 1000)) :
    (inB x.upto 1 1000000000 = true ∧ inB x.factor 0 1000 = true ∧ Hid (tierOk ts k = true)) ∨
    (inB x.upto 1 1000000000 = false ∧ Hid ((List.range n).all (tierOk ts) = false)) ∨
    (inB x.upto 1 1000000000 = true ∧ inB x.factor 0 1000 = false ∧ Hid ((List.range n).all (tierOk ts) = false)) := by
  have hf : tierOk ts k = false → Hid ((List.range n).all (tierOk ts) = false) := fun h => hide (all_range_false hlt h)
  revert HT hf
  cases inB x.upto 1 1000000000 <;> cases inB x.factor 0 1000 <;> simp <;> intro h <;> simp [h, Hid]

set_option maxHeartbeats 2000000 in
theorem c_isTerms (band percent price : Int) (A : Option Addr) (n c : Nat) (ts : List Tier) (w : World) (hs : SliceOf w 2 Tier.cells A n c ts) :
    Calls Tryz.prog 127 #[.agg #[.int .i64 band, .int .i64 percent, .int .i64 price, .slice A n c]] w (Ret (.bool (isTermsB band percent price ts)) w) := by
  have HF := hide (show isTermsB band percent price ts = (inB band 0 1000000000 && inB percent 0 100 && inB price 0 1000000 && inB n 1 6 && (List.range n).all (tierOk ts)) by rw [isTermsB, hs.1])
  generalize isTermsB band percent price ts = R at HF ⊢
  by_cases hg : inB band 0 1000000000 = true ∧ inB percent 0 100 = true ∧ inB price 0 1000000 = true ∧ inB n 1 6 = true
  · obtain ⟨h1, h2, h3, h4⟩ := hg
    have hn : n ≤ 6 := by simp [inB] at h4; omega
    have HR := hide (show R = (List.range n).all (tierOk ts) by rw [HF.out]; simp [h1, h2, h3, h4])
    clear HF
    go_enter Tryz.func127, Tryz.ntmps127
    go_wp2_with (go_at_call 164; refine (c_within _ _ _ _).mono ?_; rintro e w' ⟨rfl, rfl⟩)
    go_loopw [2, 31] (fun r i wr => ∃ k : Nat, k ≤ n ∧ r = .bool false ∧ i = .int .i64 k ∧ Hid (∀ j, j < k → tierOk ts j = true) ∧ Ext (w.alloc (.cells #[.int .i64 band, .int .i64 percent, .int .i64 price, .slice A n c] 73)) wr) (fun _ i _ => n - (intOf i).toNat)
    case atStart => exact ⟨0, Nat.zero_le _, rfl, rfl, hide (fun j hj => absurd hj (by omega)), Ext.refl _⟩
    case round =>
      obtain ⟨k, hk, rfl, rfl, HK, hx⟩ := hrel
      have hxs := hx.size
      have hz : w.heap.size < wr.heap.size := by simp at hxs; omega
      clear hxs
      have hbx3 : wr.cell? ⟨w.heap.size, 3, none⟩ = some (.slice A n c) := by rw [hx.cell _ _ (by simp)]; simp
      have hx0 : Ext w wr := hx.box
      by_cases hlt : k < n
      · have hs' := hs.ext hx0
        obtain ⟨b, off, x, rfl, hb, hxk, hc⟩ := hs'.get hlt
        have hc0 := hc 0 _ rfl
        have hc1 := hc 1 _ rfl
        clear hc
        simp only [Nat.add_zero] at hc0
        by_cases h0 : 0 < k
        · obtain ⟨y, hyk, hc⟩ := hs'.at_ (k := k - 1) (by omega)
          have hd0 := hc 0 _ rfl
          have hd1 := hc 1 _ rfl
          clear hc
          simp only [Nat.add_zero] at hd0
          have ways := tier_ways hlt (tierOk_pos h0 hxk hyk)
          clear hxk hyk
          have e1 : IntKind.i64.wrap (↑k - 1) = (↑k - 1) := IntWalk.i64_in _ (by omega)
          have e2 : (0:Int) ≤ ↑k - 1 := by omega
          have e3 : ((k:Int) - 1).toNat = k - 1 := by omega
          rcases ways with ⟨g1, g2, g3, g4, HT⟩ | ⟨g1, HT⟩ | ⟨g1, g2, HT⟩ | ⟨g1, g2, g3, HT⟩ | ⟨g1, g2, g3, g4, HT⟩
          · go_wp2_with (go_at_call 164; refine (c_within _ _ _ _).mono ?_; rintro e w' ⟨rfl, rfl⟩)
            go_quiet ((go_at_call 164; exact quiet_left (c_within _ _ _ _)))
            go_wp2
            go_roundw
            case rel => exact ⟨k + 1, by omega, rfl, by go_num, hide (all_upto HK.out HT.out), (hx.and_alloc _).drewN _⟩
            case measure => simp [intOf]; omega
          all_goals
            go_wp2_with (go_at_call 164; refine (c_within _ _ _ _).mono ?_; rintro e w' ⟨rfl, rfl⟩)
            go_quiet ((go_at_call 164; exact quiet_left (c_within _ _ _ _)))
            go_wp2
            go_ret
            exact Ret.bool (HR.out.trans HT.out) ((hx0.and_alloc _).drewN _)
        · have ways := tier_ways0 hlt (tierOk_zero h0 hxk)
          clear hxk
          have h0' : decide (0 < k) = false := by simpa using h0
          rcases ways with ⟨g1, g2, HT⟩ | ⟨g1, HT⟩ | ⟨g1, g2, HT⟩
          · go_wp2_with (go_at_call 164; refine (c_within _ _ _ _).mono ?_; rintro e w' ⟨rfl, rfl⟩)
            go_quiet ((go_at_call 164; exact quiet_left (c_within _ _ _ _)))
            go_wp2
            go_roundw
            case rel => exact ⟨k + 1, by omega, rfl, by go_num, hide (all_upto HK.out HT.out), (hx.and_alloc _).drewN _⟩
            case measure => simp [intOf]; omega
          all_goals
            go_wp2_with (go_at_call 164; refine (c_within _ _ _ _).mono ?_; rintro e w' ⟨rfl, rfl⟩)
            go_quiet ((go_at_call 164; exact quiet_left (c_within _ _ _ _)))
            go_wp2
            go_ret
            exact Ret.bool (HR.out.trans HT.out) ((hx0.and_alloc _).drewN _)
      · go_wp2
        go_ret
        exact Ret.bool (HR.out.trans (all_range_true (fun j hj => HK.out j (by omega)))) hx0
  · have hw : inB band 0 1000000000 = false ∨ (inB band 0 1000000000 = true ∧ inB percent 0 100 = false) ∨ (inB band 0 1000000000 = true ∧ inB percent 0 100 = true ∧ inB price 0 1000000 = false) ∨ (inB band 0 1000000000 = true ∧ inB percent 0 100 = true ∧ inB price 0 1000000 = true ∧ inB n 1 6 = false) := by
      revert hg; cases inB band 0 1000000000 <;> cases inB percent 0 100 <;> cases inB price 0 1000000 <;> cases inB n 1 6 <;> simp
    have HR := hide (show R = false by rw [HF.out]; rcases hw with h | h | h | h <;> simp [h])
    clear HF hg
    rcases hw with g1 | ⟨g1, g2⟩ | ⟨g1, g2, g3⟩ | ⟨g1, g2, g3, g4⟩
    all_goals
      go_enter Tryz.func127, Tryz.ntmps127
      go_wp2_with (go_at_call 164; refine (c_within _ _ _ _).mono ?_; rintro e w' ⟨rfl, rfl⟩)
      go_ret
      exact Ret.bool HR.out (Ext.alloc _ _)

end Go.Proofs.YtfkpghdmljjegaaGreat
