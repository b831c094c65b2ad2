/-
  Components, forest and chords of a network, of the reference.
-/
import Derived.Test.YtegkeeeohileiaaSa19
import Derived.Test.YtegkeeeohileiaaSa23
namespace Go.Proofs.Ytegkeeeohileiaa
open Go.RowKit
set_option maxHeartbeats 4000000 in
theorem c_l04Components (A1 A2 : Option Addr) (n1 c1 n2 c2 : Nat) (ps : List Pipe) (w : World) (hs2 : SliceOf w 5 Pipe.cells A2 n2 c2 ps) (m1 : n1 ≤ 100000) (m2 : n2 ≤ 100000) (he : EndsIn n1 ps) :
    Calls Try.prog 74 #[.agg #[.slice A1 n1 c1, .slice A2 n2 c2]] w (RetI (fun E => E.length = n1) w) := by
  have hB := Row.new w 27 [.slice A1 n1 c1, .slice A2 n2 c2]
  have hx0 : Ext w (w.alloc (.cells #[.slice A1 n1 c1, .slice A2 n2 c2] 27)) := Ext.alloc _ _
  have hmkI := fun W => run_make_flat (P := Try.prog) 32 2 _ _ 1 8 Try.underlying32 int_info (f := intC) 0 rfl rfl rfl (by omega) n1 (by omega) (by omega) W
  have HE := hide he
  clear he
  go_enter Try.func74, Try.ntmps74
  go_wp2_with fail
  go_loopw [4] (fun i wr => ∃ (k : Nat) (E : List Int), k ≤ n1 ∧ i = .int .i64 k ∧ RowOf wr (w.heap.size + 1) 2 intC E ∧ E.length = n1 ∧ Ext (w.alloc (.cells #[.slice A1 n1 c1, .slice A2 n2 c2] 27)) wr) (fun i _ => n1 - (intOf i).toNat)
  case atStart => exact ⟨0, List.replicate n1 0, Nat.zero_le _, rfl, Row.newG _ _ (by simp), by simp, Ext.alloc _ _⟩
  case round =>
    obtain ⟨k, E, hk, rfl, hEn, hel, hx⟩ := hrel
    have hle := hEn.lt
    by_cases hlt : k < n1
    · obtain ⟨u, hu⟩ := hEn.there intC_len (i := k) (by omega) (j := 0) (by omega)
      simp only [Nat.mul_one, Nat.add_zero] at hu
      have hf := hEn.frozen k
      have hN := RowOf.set0 hEn (fun x => ⟨_, rfl⟩) (d := k) (by omega) (-1) (.int .i64 (-1)) rfl
      have hx2 := hx.setCell (p := ⟨w.heap.size + 1, k, none⟩) (by simp) (.int .i64 (-1))
      clear hx hEn
      go_wp2_with fail
      go_roundw
      case rel => exact ⟨k + 1, _, by omega, by go_num, hN, by rw [List.length_set]; exact hel, hx2⟩
      case measure => simp [intOf]; omega
    · obtain rfl : n1 = k := by omega
      clear hmkI
      go_wp2_with fail
      go_loopw [5] (fun i wr => ∃ (k : Nat) (E : List Int), k ≤ n1 ∧ i = .int .i64 k ∧ RowOf wr (w.heap.size + 1) 2 intC E ∧ E.length = n1 ∧ Ext (w.alloc (.cells #[.slice A1 n1 c1, .slice A2 n2 c2] 27)) wr) (fun i _ => n1 - (intOf i).toNat)
      case atStart => exact ⟨0, E, Nat.zero_le _, rfl, hEn, hel, hx⟩
      case round =>
        clear hx hEn hel hle hlt hk
        obtain ⟨k, E, hk, rfl, hEn, hel, hx⟩ := hrel
        have hle := hEn.lt
        by_cases hlt : k < n1
        · obtain ⟨z, hz⟩ : ∃ z, E[k]? = some z := ⟨_, List.getElem?_eq_getElem (by omega)⟩
          have hu := hEn.get intC_len hz (j := 0) rfl
          simp only [Nat.mul_one, Nat.add_zero] at hu
          have hf := hEn.frozen k
          by_cases h0 : 0 ≤ z
          · clear hz
            go_wp2_with fail
            go_roundw
            case rel => exact ⟨k + 1, _, by omega, by go_num, hEn, hel, hx⟩
            case measure => simp [intOf]; omega
          · clear hz
            have hb0 := (hB.ext hx).cell 0
            have hb1 := (hB.ext hx).cell 1
            simp at hb0 hb1
            have hbl := (hB.ext hx).lt
            go_wp2_with fail
            refine (c_l04Search A1 A2 n1 c1 n2 c2 ps _ (hs2.ext (hx0.trans hx)) m1 m2 HE.out k hlt).mono ?_
            rintro e w2 ⟨v1, v2, en, Eo, rfl, ho1, ho2, HF, hx2⟩
            obtain ⟨Ao, co, rfl, _⟩ := ho2.sl intC_len (by omega)
            obtain ⟨_, ho3, _, hin⟩ := HF.out
            have HIN := hide hin
            have hE2 := hEn.ext hx2
            have hX2 := hx.trans hx2
            clear hu hf hb0 hb1 hbl hEn hx hin ho1
            go_wp2_with fail
            go_loopw [8] (fun i wr' => ∃ (j : Nat) (E : List Int), j ≤ Eo.length ∧ i = .int .i64 j ∧ RowOf wr' (w.heap.size + 1) 2 intC E ∧ E.length = n1 ∧ OwnL wr' wr.heap.size 2 1 intC (.slice Ao Eo.length co) Eo ∧ Ext (w.alloc (.cells #[.slice A1 n1 c1, .slice A2 n2 c2] 27)) wr') (fun i _ => Eo.length - (intOf i).toNat)
            case atStart => exact ⟨0, E, Nat.zero_le _, rfl, hE2, hel, ho2, hX2⟩
            case round =>
              clear ho2 hE2 hX2 hel hx2
              obtain ⟨j, E, hj, rfl, hE2, hel, ho2, hX2⟩ := hrel
              have hl2 := hE2.lt
              by_cases hjl : j < Eo.length
              · obtain ⟨bo, oo, zo, rfl, hbo, hok, hco⟩ := (ho2.slE intC_len (by omega)).get hjl
                have hc0 := hco 0 _ rfl
                simp only [Nat.add_zero, Nat.mul_one] at hc0
                obtain ⟨y, rfl, hy⟩ := HIN.out.at hok
                obtain ⟨u, hu⟩ := hE2.there intC_len (i := y) (by omega) (j := 0) (by omega)
                simp only [Nat.mul_one, Nat.add_zero] at hu
                have hf := hE2.frozen y
                have hN := RowOf.set0 hE2 (fun x => ⟨_, rfl⟩) (d := y) (by omega) (k : Int) (.int .i64 k) rfl
                have hx3 := hX2.setCell (p := ⟨w.heap.size + 1, y, none⟩) (by simp) (.int .i64 k)
                have ho3 := ho2.farK (p := ⟨w.heap.size + 1, y, none⟩) hle (.int .i64 k)
                clear hok hco hE2 hX2 ho2
                go_wp2_with fail
                go_roundw
                case rel => exact ⟨j + 1, _, by omega, by go_num, hN, by rw [List.length_set]; exact hel, ho3, hx3⟩
                case measure => simp [intOf]; omega
              · go_wp2_with fail
                go_roundw
                case rel => exact ⟨k + 1, E, by omega, by go_num, hE2, hel, hX2⟩
                case measure => simp [intOf]; omega
        · go_wp2_with fail
          go_ret
          have hO := OwnL.of_row hEn intC_len (base := w.heap.size) (by omega) (by omega)
          rw [hel] at hO
          exact ⟨_, E, rfl, hO, hide hel, hx0.trans hx⟩
end Go.Proofs.Ytegkeeeohileiaa
