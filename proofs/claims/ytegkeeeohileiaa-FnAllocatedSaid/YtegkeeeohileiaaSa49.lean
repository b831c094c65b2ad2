/-
  ShipperBalance of the program. The laws' comparisons of two lists that are equal. The program's own knobs are none, and its types are laid out: two facts that every lift of a law names.
-/
import Derived.Test.YtegkeeeohileiaaSa47
import Derived.Test.YtegkeeeohileiaaSa13
import Derived.Test.YtegkeeeohileiaaSa00
import Derived.OpenShut
import Derived.ProofKit
import Derived.ShutString
import Derived.ChangeOld
import Derived.Lib.SmallJoins
namespace Go.Proofs.Ytegkeeeohileiaa
open Go.RowKit
/-- a balance for each shipper -/
def BalQ (os : List Order) (rs : List Reading) (l : List Int) (z : Int) : Prop := z = 0 ∧ l.length = 16 ∧ Bd 10000000 l ∧ ∀ g, Alloc os (List.replicate os.length 0) rs g → sumZ l = sumZ g
theorem sumZ_rep (n : Nat) : sumZ (List.replicate n 0) = 0 := by
  induction n with
  | zero => rfl
  | succ n ih => rw [List.replicate_succ]; simp only [sumZ]; omega
theorem Bd.set {M : Int} {l : List Int} (h : Bd M l) (k : Nat) {v : Int} (hv : -M ≤ v ∧ v ≤ M) : Bd M (l.set k v) := by
  intro y hy
  rcases List.mem_or_eq_of_mem_set hy with h1 | rfl
  · exact h y h1
  · exact hv
set_option maxHeartbeats 1000000 in
theorem c_ShipperBalance (A1 A2 : Option Addr) (n1 c1 n2 c2 : Nat) (ns : List Node) (ps : List Pipe) (O : Option Addr) (no co : Nat) (os : List Order) (A : Option Addr) (n c : Nat) (rs : List Reading) (w : World) (hs1 : SliceOf w 3 Node.cells A1 n1 c1 ns) (hs2 : SliceOf w 5 Pipe.cells A2 n2 c2 ps) (hso : SliceOf w 4 Order.cells O no co os) (hs : SliceOf w 2 Reading.cells A n c rs) (hC : allC n1 ns ps os rs = 0) : Calls Try.prog 14 #[.agg #[.slice A1 n1 c1, .slice A2 n2 c2], .slice O no co, .slice A n c] w (RetGZ (BalQ os rs) w) := by
  have hx0 : Ext w (w.alloc (.cells #[.slice A1 n1 c1, .slice A2 n2 c2] 27)) := Ext.alloc _ _
  have HC := hide hC
  obtain ⟨_, hob, hrb⟩ := allC_ok hC
  obtain ⟨ho40, hom⟩ := orders_mem hob
  have hr48 := reads_len hrb
  have hrm := reads_mem hrb
  have HAM := hide (show Amt os from fun o ho => (hom o ho).2)
  have HSH := hide (show ∀ o ∈ os, 0 ≤ o.shipper ∧ o.shipper ≤ 15 from fun o ho => (hom o ho).1)
  have HRM := hide (show Rdg rs from hrm)
  have HSEP := hide (sep_of hrb)
  have hno := hso.len
  have hnr := hs.len
  have hn40 : no ≤ 40 := by omega
  have hn48 : n ≤ 48 := by omega
  have HNO := hide hno
  have HNR := hide hnr
  clear hob hrb hom hrm hno hnr ho40 hr48
  clear hC
  have hrw : ∀ W : World, OwnL (W.alloc (.cells ((List.replicate 16 (0 : Int)).flatMap intC).toArray 2)) W.heap.size 2 1 intC (.slice (some ⟨W.heap.size, 0, none⟩) 16 16) (List.replicate 16 0) := fun W => own_rep W W.heap.size _ 16 rfl (Nat.le_refl _) (by omega)
  have hmk : ∀ W : World, (Instr.makeSlice 32 (.int .i64 16) (.int .i64 16)).run Try.prog W = .ok (.slice (some ⟨W.heap.size, 0, none⟩) 16 16) (W.alloc (.cells ((List.replicate 16 (0 : Int)).flatMap intC).toArray 2)) := fun W => run_make_flat (P := Try.prog) 32 2 _ _ 1 8 Try.underlying32 int_info (f := intC) 0 rfl rfl rfl (by omega) 16 (by omega) (by omega) W
  have hz0 : sumZ (List.replicate 16 (0 : Int)) = 0 := sumZ_rep 16
  have hzb : Bd 0 (List.replicate 16 (0 : Int)) := fun y hy => by have := List.eq_of_mem_replicate hy; omega
  have hzl : (List.replicate 16 (0 : Int)).length = 16 := List.length_replicate
  generalize List.replicate 16 (0 : Int) = ZL at *
  generalize (ZL.flatMap intC).toArray = ZC at *
  have HZ0 := hide hz0
  have HZB := hide hzb
  have HZL := hide hzl
  have HRW := hide hrw
  clear hz0 hzb hzl hrw
  go_enter Try.func14, Try.ntmps14
  go_wp2_with fail
  refine (c_checkReadings A1 A2 n1 c1 n2 c2 ns ps O no co os A n c rs _ (hs1.ext hx0) (hs2.ext hx0) (hso.ext hx0) (hs.ext hx0)).mono ?_
  rw [HC.out]
  rintro e w1 ⟨rfl, hx1⟩
  have hx01 := hx0.trans hx1
  have hwz1 := hx01.size
  go_wp2_with fail
  clear hmk
  have hG0 := HRW.out w1
  have hxz : Ext w (w1.alloc (.cells ZC 2)) := hx01.and_alloc _
  refine (c_allocated O no co os A n c rs _ (hso.ext hxz) (hs.ext hxz) hn40 hn48 HAM.out HRM.out HSEP.out).mono ?_
  rintro e w3 ⟨v, g, rfl, ho, HG, hx3⟩
  obtain ⟨A9, c9, rfl, hs9⟩ := ho.sl intC_len (by omega)
  have hgl : g.length = no := by rw [HG.out.2.2, ← HNO.out]
  have HBK := hide (show ∀ b, blkOf A9 no = some b → w1.heap.size < b from fun b hb => by rw [← hgl] at hb; have := ho.blkG b hb; simp at this; omega)
  rw [hgl] at hs9
  have hG3 := hG0.ext hx3
  have hxx := hxz.trans hx3
  clear hG0 ho
  go_wp2_with fail
  go_loopw [24] (fun i wr => ∃ (k : Nat) (l : List Int), k ≤ no ∧ i = .int .i64 k ∧ l.length = 16 ∧ OwnL wr w1.heap.size 2 1 intC (.slice (some ⟨w1.heap.size, 0, none⟩) 16 16) l ∧ SliceOf wr 1 intC A9 no c9 g ∧ Ext w wr ∧ Hid (Bd (60000 * (k : Int)) l) ∧ Hid (sumZ l = sumZ (g.take k))) (fun i _ => no - (intOf i).toNat)
  case atStart => exact ⟨0, ZL, Nat.zero_le _, rfl, HZL.out, hG3, hs9, hxx, hide (HZB.out.mono (by omega)), hide HZ0.out⟩
  case round =>
    clear hG3 hs9 hxx
    obtain ⟨k, l, hk, rfl, hl16, hG, hsg, hx, HB, HS⟩ := hrel
    by_cases hlt : k < no
    · obtain ⟨b, off, o, rfl, hbb, hok, hc⟩ := hso.get hlt
      have o0w := hc 0 _ rfl
      simp only [Nat.add_zero] at o0w
      have o0 := (hx.cell _ _ hbb).trans o0w
      have hob := HSH.out o (List.mem_of_getElem? hok)
      obtain ⟨gb, gf, y, rfl, hgb, hyk, hyc⟩ := hsg.get hlt
      have y0 := hyc 0 _ rfl
      simp only [Nat.add_zero, Nat.mul_one] at y0
      have hyb := HG.out.2.1 y (List.mem_of_getElem? hyk)
      have HT := hide (sumZ_take hyk)
      obtain ⟨s, hse⟩ : ∃ s : Nat, o.shipper = s := ⟨o.shipper.toNat, by omega⟩
      have hs16 : s < 16 := by omega
      obtain ⟨z, hz⟩ : ∃ z, l[s]? = some z := ⟨_, List.getElem?_eq_getElem (by omega)⟩
      have hzb := HB.out z (List.mem_of_getElem? hz)
      obtain ⟨G, hGA, hnn, hGb, hGl, hGf, hGc, hG8⟩ := hG.setOne intC_len (k := s) (j := 0) (y := z + y) (u := .int .i64 (z + y)) hz (by omega) rfl
      injection hGA with hGA
      injection hGA with hGA _ _
      subst hGA
      have hgc0 := hGc 0 _ rfl
      simp only [Nat.add_zero, Nat.mul_one] at hgc0 hG8
      rw [hse] at o0
      have HG8 := hide hG8
      have HS8 := hide (hsg.farG (p := ⟨w1.heap.size, s, none⟩) HBK.out (.int .i64 (z + y)))
      have HX8 := hide (hx.setCell (p := ⟨w1.heap.size, s, none⟩) hx01.size (.int .i64 (z + y)))
      have HB8 := hide (Bd.set (M := 60000 * ((k + 1 : Nat) : Int)) (HB.out.mono (by omega)) s (v := z + y) (by omega))
      have HSS := hide (show sumZ (l.set s (z + y)) = sumZ (g.take (k + 1)) by rw [sumZ_set l s z _ hz, HT.out, HS.out]; omega)
      clear hc hok o0w hyc hyk hse hz hnn hGb hGc hG8 hG hob
      go_wp2_with fail
      case roundEnd =>
        refine ⟨⟨k + 1, _, by omega, by go_num, by rw [List.length_set]; exact hl16, HG8.out, HS8.out, HX8.out, HB8, HSS⟩, ?_⟩
        simp [intOf]; omega
    · obtain rfl : no = k := by omega
      have HF := hide (show sumZ l = sumZ g by rw [HS.out, ← hgl, List.take_length])
      have HGL := hide hG
      have hwz := hx01.size
      go_wp2_with fail
      go_ret2
      refine ⟨_, l, 0, rfl, HGL.out.lowG hwz, hx, hide ⟨rfl, hl16, HB.out.mono (by omega), fun g' h => ?_⟩⟩
      rw [HF.out, HG.out.1.uniq h]
end Go.Proofs.Ytegkeeeohileiaa

namespace Go.Proofs.Ytegkeeeohileiaa
open Go.RowKit

set_option maxHeartbeats 1000000 in
theorem c_likeInts (A A' : Option Addr) (n c n' c' : Nat) (ts : List Int) (w : World) (hs : SliceOf w 1 intC A n c ts) (hs' : SliceOf w 1 intC A' n' c' ts) :
    Calls Try.prog 10 #[.slice A n c, .slice A' n' c'] w (Ret (.bool true) w) := by
  have hl := hs.len
  obtain rfl : n = n' := by rw [hs.len, hs'.len]
  have hm := hs.max
  have hcp := hs.cap
  clear hl
  go_enter Try.func10, Try.ntmps10
  go_wp2_with fail
  go_loopw [5] (fun i wr => ∃ (k : Nat), k ≤ n ∧ i = .int .i64 k ∧ Ext w wr) (fun i _ => n - (intOf i).toNat)
  case atStart => exact ⟨0, Nat.zero_le _, rfl, Ext.refl _⟩
  case round =>
    obtain ⟨k, hk, rfl, hx⟩ := hrel
    by_cases hlt : k < n
    · obtain ⟨b, off, x, rfl, hb, hxk, hc0⟩ := (hs.ext hx).get1 hlt
      obtain ⟨b', off', x', rfl, hb', hxk', hd0⟩ := (hs'.ext hx).get1 hlt
      obtain rfl : x = x' := by rw [hxk] at hxk'; injection hxk'
      clear hxk hxk'
      go_wp2_with fail
      refine wp_region_later (by kernel_rfl) (by kernel_rfl) ?_
      repeat (go_big_quiet_step (fail))
      refine wpQuiet_nil ?_
      intro w1 hx1
      go_wp2_with fail
      go_roundw
      case rel => exact ⟨k + 1, by omega, by go_num, hx.trans hx1⟩
      case measure => simp [intOf]; omega
    · go_wp2_with fail
      go_ret
      exact Ret.bool rfl hx

end Go.Proofs.Ytegkeeeohileiaa

namespace Go.Proofs.Ytegkeeeohileiaa
open Go.RowKit Go.ChangeShapes Go.WideShapes Go.ChangeAt Go.Deep Go.Joins
theorem own : ownKnob Try.prog.godebug = none := by kernel_rfl
theorem laidOut : laidOutB Try.prog = true := by kernel_rfl
end Go.Proofs.Ytegkeeeohileiaa
