

/-
  Cutting a text, of the reference.
-/
import Derived.Test.YtglbiddddflmeaaDoorJouD
namespace Go.Proofs.YtglbiddddflmeaaDoor
open Go.RowKit
open Go.Lib hiding intOf
theorem strC_one (y : List UInt8) : ∀ u ∈ strC y, u.oneCell' = true := by intro u hu; simp [strC] at hu; subst hu; rfl
theorem mkB_extract (l : List UInt8) (a b : Nat) : (mkB l).extract a b = mkB ((l.drop a).take (b - a)) := by
  have h := extract_data (mkB l) a b
  rw [mkB_list] at h
  rw [← mkB_of ((mkB l).extract a b), h]
/-- how far the cutting has come -/
def SpInv (c : UInt8) (l : List UInt8) (i f : Nat) (out : List (List UInt8)) : Prop :=
  (i ≤ l.length ∧ f ≤ i ∧ splitL c l = out ++ splitL c (l.drop f) ∧ c ∉ (l.drop f).take (i - f)) ∨ (i = l.length + 1 ∧ splitL c l = out)
theorem SpInv.start (c : UInt8) (l : List UInt8) : SpInv c l 0 0 [] := .inl ⟨Nat.zero_le _, Nat.le_refl _, by simp, by simp⟩
theorem SpInv.same {c : UInt8} {l : List UInt8} {i f : Nat} {out : List (List UInt8)} (h : SpInv c l i f out) {b : UInt8} (hb : l[i]? = some b) (hne : b ≠ c) : SpInv c l (i + 1) f out := by
  obtain ⟨hi, hbi⟩ := List.getElem?_eq_some_iff.1 hb
  rcases h with ⟨h1, h2, h3, h4⟩ | ⟨h1, _⟩
  · refine .inl ⟨hi, by omega, h3, ?_⟩
    have hd : (l.drop f)[i - f]? = some b := by rw [List.getElem?_drop, show f + (i - f) = i by omega, hb]
    rw [show i + 1 - f = (i - f) + 1 by omega, List.take_add_one, hd]
    simp only [Option.toList_some, List.mem_append, List.mem_singleton, not_or]
    exact ⟨h4, fun e => hne e.symm⟩
  · omega
theorem SpInv.hit {c : UInt8} {l : List UInt8} {i f : Nat} {out : List (List UInt8)} (h : SpInv c l i f out) (hb : l[i]? = some c) : SpInv c l (i + 1) (i + 1) (out ++ [(l.drop f).take (i - f)]) := by
  obtain ⟨hi, hbi⟩ := List.getElem?_eq_some_iff.1 hb
  rcases h with ⟨h1, h2, h3, h4⟩ | ⟨h1, _⟩
  · refine .inl ⟨hi, Nat.le_refl _, ?_, by simp⟩
    have hd : l.drop f = (l.drop f).take (i - f) ++ c :: l.drop (i + 1) := by
      conv => lhs; rw [← List.take_append_drop (i - f) (l.drop f)]
      rw [List.drop_drop, show f + (i - f) = i by omega, List.drop_eq_getElem_cons hi, hbi]
    rw [h3, List.append_assoc]
    congr 1
    conv => lhs; rw [hd]
    rw [splitL_app c _ _ h4]
    rfl
  · omega
theorem SpInv.stop {c : UInt8} {l : List UInt8} {f : Nat} {out : List (List UInt8)} (h : SpInv c l l.length f out) : SpInv c l (l.length + 1) (l.length + 1) (out ++ [(l.drop f).take (l.length - f)]) := by
  rcases h with ⟨h1, h2, h3, h4⟩ | ⟨h1, _⟩
  · refine .inr ⟨rfl, ?_⟩
    have ht : (l.drop f).take (l.length - f) = l.drop f := List.take_of_length_le (by rw [List.length_drop]; exact Nat.le_refl _)
    rw [ht] at h4 ⊢
    rw [h3, splitL_no c _ h4]
  · omega
theorem SpInv.done {c : UInt8} {l : List UInt8} {f : Nat} {out : List (List UInt8)} (h : SpInv c l (l.length + 1) f out) : splitL c l = out := by
  rcases h with ⟨h1, _⟩ | ⟨_, h⟩
  · omega
  · exact h
set_option maxHeartbeats 4000000 in
set_option maxRecDepth 8000 in
theorem c_l01Split (l : List UInt8) (c : UInt8) (cn : Int) (hcn : (c.toNat : Int) = cn) (hl : l.length ≤ 1048576) (w : World) :
    Calls Tryd.prog 64 #[.string (mkB l), .int .u8 cn] w (fun e w' => ∃ v, e = .returned v ∧ OwnL w' w.heap.size 9 1 strC v (splitL c l) ∧ Ext w w') := by
  have hsz : (mkB l).size = l.length := rfl
  have HCN := hide hcn
  clear hcn
  obtain ⟨W0, HW⟩ : ∃ W0, Hid (w.alloc (.cells #[] 9) = W0) := ⟨_, hide rfl⟩
  have ho0 : OwnL W0 w.heap.size 9 1 strC (.slice (some ⟨w.heap.size, 0, none⟩) 0 0) [] := by rw [← HW.out]; exact OwnL.empty w _ _ _ _ (Nat.le_refl _)
  have hx0 : Ext w W0 := by rw [← HW.out]; exact Ext.alloc _ _
  go_enter Tryd.func64, Tryd.ntmps64
  go_wp2_with fail
  rw [HW.out]
  go_loopw [5, 6, 7] (fun v f i wr => ∃ (k g : Nat) (out : List (List UInt8)), k ≤ l.length + 1 ∧ g ≤ k ∧ out.length ≤ k ∧ i = .int .i64 k ∧ f = .int .i64 g ∧ Hid (SpInv c l k g out) ∧ OwnL wr w.heap.size 9 1 strC v out ∧ Ext w wr) (fun _ _ i _ => l.length + 1 - (intOf i).toNat)
  case atStart => exact ⟨0, 0, [], Nat.zero_le _, Nat.le_refl _, Nat.le_refl _, rfl, rfl, hide (SpInv.start c l), ho0, hx0⟩
  case round =>
    obtain ⟨k, g, out, hk, hgk, hol, rfl, rfl, HS, ho, hx⟩ := hrel
    clear ho0 hx0
    have hzx := hx.size
    by_cases hlt : k < l.length
    · obtain ⟨b, hb⟩ : ∃ b, l[k]? = some b := ⟨_, List.getElem?_eq_getElem hlt⟩
      have hat := str_at l k b hb wr
      have HB := hide hb
      clear hb
      by_cases hbc : b = c
      · subst hbc
        rw [HCN.out] at hat
        have hke : ((k : Int) == (l.length : Int)) = false := by rw [beq_eq_false_iff_ne]; omega
        go_wp2_with (at_builtin; go_must (refine wpList_append_one rfl _ _ 90 rfl (w.heap.size) 9 _ 1 16 Tryd.underlying90 string_info rfl (by decide) strC strC_len strC_one _ _ rfl (ho.ext (Ext.alloc _ _)) _ (((mkB l).extract g k).data.toList) rfl _ rfl (by first | rfl | simp) (by omega) (by omega) (by first | omega | (simp; omega)) ?_))
        intro v1 w4 ho4 hext4
        rw [mkB_list] at ho4
        have hx4 := hext4 w (Nat.le_refl _) (hx.and_alloc _)
        go_wp2_with fail
        go_roundw
        case rel => exact ⟨k + 1, k + 1, _, by omega, by omega, by simp; omega, by go_num, by go_num, hide (HS.out.hit HB.out), ho4, hx4⟩
        case measure => simp [intOf]; omega
      · have hne : ¬ ((b.toNat : Int) = cn) := by
          rw [← HCN.out]
          intro h
          exact hbc (UInt8.toNat_inj.1 (by omega))
        generalize (b.toNat : Int) = bn at *
        have hbe : (bn == cn) = false := by rw [beq_eq_false_iff_ne]; exact hne
        have hke : ((k : Int) == (l.length : Int)) = false := by rw [beq_eq_false_iff_ne]; omega
        go_wp2_with fail
        go_roundw
        case rel => exact ⟨k + 1, g, out, by omega, by omega, by omega, by go_num, rfl, hide (HS.out.same HB.out hbc), ho, hx⟩
        case measure => simp [intOf]; omega
    · by_cases hke : k = l.length
      · subst hke
        go_wp2_with (at_builtin; go_must (refine wpList_append_one rfl _ _ 90 rfl (w.heap.size) 9 _ 1 16 Tryd.underlying90 string_info rfl (by decide) strC strC_len strC_one _ _ rfl (ho.ext (Ext.alloc _ _)) _ (((mkB l).extract g l.length).data.toList) rfl _ rfl (by first | rfl | simp) (by omega) (by omega) (by first | omega | (simp; omega)) ?_))
        intro v1 w4 ho4 hext4
        rw [mkB_list] at ho4
        have hx4 := hext4 w (Nat.le_refl _) (hx.and_alloc _)
        go_wp2_with fail
        go_roundw
        case rel => exact ⟨l.length + 1, l.length + 1, _, by omega, by omega, by simp; omega, by go_num, by go_num, hide HS.out.stop, ho4, hx4⟩
        case measure => simp [intOf]
      · obtain rfl : k = l.length + 1 := by omega
        have hd := HS.out.done
        go_wp2_with fail
        go_ret
        exact ⟨_, rfl, by rw [hd]; exact ho, hx⟩
end Go.Proofs.YtglbiddddflmeaaDoor
