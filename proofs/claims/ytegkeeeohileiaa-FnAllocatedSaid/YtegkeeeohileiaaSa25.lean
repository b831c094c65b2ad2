/-
  Forest and chords of a network, of the reference.
-/
import Derived.Test.YtegkeeeohileiaaSa24
namespace Go.Proofs.Ytegkeeeohileiaa
open Go.RowKit
set_option maxHeartbeats 4000000 in
theorem c_l04Forest (A1 A2 : Option Addr) (n1 c1 n2 c2 : Nat) (ps : List Pipe) (w : World) (hs2 : SliceOf w 5 Pipe.cells A2 n2 c2 ps) (m1 : n1 ≤ 100000) (m2 : n2 ≤ 100000) (he : EndsIn n1 ps) :
    Calls Try.prog 71 #[.agg #[.slice A1 n1 c1, .slice A2 n2 c2]] w (RetI (fun E => E.length ≤ n2) w) := by
  have hB := Row.new w 27 [.slice A1 n1 c1, .slice A2 n2 c2]
  have hx0 : Ext w (w.alloc (.cells #[.slice A1 n1 c1, .slice A2 n2 c2] 27)) := Ext.alloc _ _
  have hmkB := fun W => run_make_flat (P := Try.prog) 97 4 _ _ 1 1 Try.underlying97 bool_info (f := boolC) false rfl rfl rfl (by omega) n2 (by omega) (by omega) W
  have HE := hide he
  clear he
  go_enter Try.func71, Try.ntmps71
  go_wp2_with fail
  have hI0 : RowOf ((w.alloc (.cells #[.slice A1 n1 c1, .slice A2 n2 c2] 27)).alloc (.cells ((List.replicate n2 false).flatMap boolC).toArray 4)) (w.heap.size + 1) 4 boolC (List.replicate n2 false) := Row.newG _ _ (by simp)
  refine (c_l04Components A1 A2 n1 c1 n2 c2 ps _ (hs2.ext (hx0.and_alloc _)) m1 m2 HE.out).mono ?_
  rintro e w1 ⟨v1, R, rfl, hor, HR, hx1⟩
  have hI1 := hI0.ext hx1
  have hX1 : Ext (w.alloc (.cells #[.slice A1 n1 c1, .slice A2 n2 c2] 27)) w1 := (Ext.alloc _ _).trans hx1
  have hlR : R.length = n1 := HR.out
  obtain ⟨wb, hwb⟩ : ∃ wb, w.heap.size + 1 + 1 = wb := ⟨_, rfl⟩
  have hor1 : OwnL w1 wb 2 1 intC v1 R := hor.lowG (by rw [← hwb]; simp)
  obtain ⟨Ar, cr, rfl, _⟩ := hor1.sl intC_len (by omega)
  clear hmkB hI0 hor hx1
  go_wp2_with fail
  go_loopw [5] (fun i wr => ∃ (k : Nat) (l : List Bool), k ≤ n1 ∧ i = .int .i64 k ∧ RowOf wr (w.heap.size + 1) 4 boolC l ∧ l.length = n2 ∧ OwnL wr wb 2 1 intC (.slice Ar R.length cr) R ∧ Ext (w.alloc (.cells #[.slice A1 n1 c1, .slice A2 n2 c2] 27)) wr) (fun i _ => n1 - (intOf i).toNat)
  case atStart => exact ⟨0, _, Nat.zero_le _, rfl, hI1, by simp, hor1, hX1⟩
  case round =>
    clear hI1 hor1 hX1
    obtain ⟨k, l, hk, rfl, hI, hll, hor, hx⟩ := hrel
    have hle := hI.lt
    by_cases hlt : k < n1
    · obtain ⟨br, rr, z, rfl, hbr, hrk, hcr⟩ := (hor.slE intC_len (by omega)).get (k := k) (by omega)
      have hc0 := hcr 0 _ rfl
      simp only [Nat.add_zero, Nat.mul_one] at hc0
      clear hcr hrk
      cases h0 : (z == (k : Int))
      · go_wp2_with fail
        go_roundw
        case rel => exact ⟨k + 1, _, by omega, by go_num, hI, hll, hor, hx⟩
        case measure => simp [intOf]; omega
      · have hb0 := (hB.ext hx).cell 0
        have hb1 := (hB.ext hx).cell 1
        simp at hb0 hb1
        have hbl := (hB.ext hx).lt
        go_wp2_with fail
        refine (c_l04Search A1 A2 n1 c1 n2 c2 ps _ (hs2.ext (hx0.trans hx)) m1 m2 HE.out k hlt).mono ?_
        rintro e w2 ⟨v1, v2, en, Eo, rfl, ho1, ho2, HF, hx2⟩
        obtain ⟨Ao, co, rfl, _⟩ := ho1.sl intC_len (by omega)
        obtain ⟨hen, _, henb, _⟩ := HF.out
        have HIN := hide henb
        have hI2 := hI.ext hx2
        have hX2 := hx.trans hx2
        have hor2 := hor.ext hx2
        clear hb0 hb1 hbl hI hx henb ho2 hor hc0
        go_wp2_with fail
        go_loopw [8] (fun i wr' => ∃ (j : Nat) (l : List Bool), j ≤ en.length ∧ i = .int .i64 j ∧ RowOf wr' (w.heap.size + 1) 4 boolC l ∧ l.length = n2 ∧ OwnL wr' wr.heap.size 2 1 intC (.slice Ao en.length co) en ∧ OwnL wr' wb 2 1 intC (.slice (some ⟨br, rr, none⟩) R.length cr) R ∧ Ext (w.alloc (.cells #[.slice A1 n1 c1, .slice A2 n2 c2] 27)) wr') (fun i _ => en.length - (intOf i).toNat)
        case atStart => exact ⟨0, l, Nat.zero_le _, rfl, hI2, hll, ho1, hor2, hX2⟩
        case round =>
          clear ho1 hI2 hX2 hll hx2 hor2
          obtain ⟨j, l, hj, rfl, hI2, hll, ho2, hor2, hX2⟩ := hrel
          have hl2 := hI2.lt
          by_cases hjl : j < en.length
          · obtain ⟨bo, oo, y, rfl, hbo, hok, hco⟩ := (ho2.slE intC_len (by omega)).get hjl
            have hc0 := hco 0 _ rfl
            simp only [Nat.add_zero, Nat.mul_one] at hc0
            have hyb := HIN.out y (List.mem_of_getElem? hok)
            clear hok hco
            by_cases hy0 : 0 ≤ y
            · obtain ⟨d, rfl⟩ := Int.eq_ofNat_of_zero_le hy0
              have hd : d < n2 := by omega
              obtain ⟨u, hu⟩ := hI2.there boolC_len (i := d) (by omega) (j := 0) (by omega)
              simp only [Nat.mul_one, Nat.add_zero] at hu
              have hf := hI2.frozen d
              have hN := RowOf.set0 hI2 (fun x => ⟨_, rfl⟩) (d := d) (by omega) true (.bool true) rfl
              have hx3 := hX2.setCell (p := ⟨w.heap.size + 1, d, none⟩) (by simp) (.bool true)
              have ho3 := ho2.farK (p := ⟨w.heap.size + 1, d, none⟩) hle (.bool true)
              have hor3 := hor2.farK (p := ⟨w.heap.size + 1, d, none⟩) (by show w.heap.size + 1 < wb; omega) (.bool true)
              clear hI2 hX2 ho2 hor2
              go_wp2_with fail
              go_roundw
              case rel => exact ⟨j + 1, _, by omega, by go_num, hN, by rw [List.length_set]; exact hll, ho3, hor3, hx3⟩
              case measure => simp [intOf]; omega
            · go_wp2_with fail
              go_roundw
              case rel => exact ⟨j + 1, _, by omega, by go_num, hI2, hll, ho2, hor2, hX2⟩
              case measure => simp [intOf]; omega
          · go_wp2_with fail
            go_roundw
            case rel => exact ⟨k + 1, l, by omega, by go_num, hI2, hll, hor2, hX2⟩
            case measure => simp [intOf]; omega
    · subst hwb
      have hO := own_new wr (w.heap.size + 1 + 1) 2 1 intC _ rfl hle
      have hI3 := hI.ext (Ext.alloc wr (.cells #[] 2))
      have hX3 := hx.and_alloc (.cells #[] 2)
      clear hI hor hx
      go_wp2_with fail
      go_loopw [9, 10] (fun v i wr => ∃ (j : Nat) (E : List Int), j ≤ n2 ∧ i = .int .i64 j ∧ E.length ≤ j ∧ RowOf wr (w.heap.size + 1) 4 boolC l ∧ OwnL wr (w.heap.size + 1 + 1) 2 1 intC v E ∧ Ext (w.alloc (.cells #[.slice A1 n1 c1, .slice A2 n2 c2] 27)) wr) (fun _ i _ => n2 - (intOf i).toNat)
      case atStart => exact ⟨0, [], Nat.zero_le _, rfl, Nat.le_refl _, hI3, hO, hX3⟩
      case round =>
        clear hI3 hO hX3 hlt hle
        obtain ⟨j, E, hj, rfl, hE, hI, hown, hx⟩ := hrel
        have hle := hI.lt
        by_cases hlt : j < n2
        · obtain ⟨bb, hbb⟩ : ∃ bb, l[j]? = some bb := ⟨_, List.getElem?_eq_getElem (by omega)⟩
          have hsc := hI.get boolC_len hbb (j := 0) rfl
          simp only [Nat.mul_one, Nat.add_zero] at hsc
          clear hbb
          cases bb
          · go_wp2_with fail
            go_roundw
            case rel => exact ⟨j + 1, E, by omega, by go_num, by omega, hI, hown, hx⟩
            case measure => simp [intOf]; omega
          · go_wp2_with (at_builtin; go_must (refine wpList_append_where rfl _ _ 32 rfl (w.heap.size + 1 + 1) 2 _ 1 8 Try.underlying32 int_info rfl (by decide) intC intC_len int_one' (_) E rfl (hown.ext (Ext.alloc _ _)) (wr.heap.size) 0 1 1 [(j : Int)] rfl (new_int wr _ _ (by simp)) (by omega) (by omega) (by first | omega | (simp; omega)) ?_))
            intro v1 w4 hown4 hg4 _
            have hI0 := hI.ext (Ext.alloc wr (.cells #[.int .i64 j] 2))
            have hI4 : RowOf w4 (w.heap.size + 1) 4 boolC l := (hg4.block _ hI0.lt (fun e => by have := hown.block_le e.symm; omega)).trans hI0
            have hx4 := (hx.and_alloc _).grown hg4 (fun k hk => by have := hown.block_le hk; rw [World.size_alloc]; omega)
            clear hI hown hx hI0 hg4
            go_wp2_with fail
            go_roundw
            case rel => exact ⟨j + 1, _, by omega, by go_num, by rw [List.length_append]; simp; omega, hI4, hown4, hx4⟩
            case measure => simp [intOf]; omega
        · go_wp2_with fail
          go_ret
          exact ⟨_, E, rfl, hown.lowG (by omega), hide (by omega), hx0.trans hx⟩
set_option maxHeartbeats 2000000 in
theorem c_l05Chords (A1 A2 : Option Addr) (n1 c1 n2 c2 : Nat) (ps : List Pipe) (w : World) (hs2 : SliceOf w 5 Pipe.cells A2 n2 c2 ps) (m1 : n1 ≤ 100000) (m2 : n2 ≤ 100000) (he : EndsIn n1 ps) :
    Calls Try.prog 66 #[.agg #[.slice A1 n1 c1, .slice A2 n2 c2]] w (RetI (fun E => E.length ≤ n2) w) := by
  have hB := Row.new w 27 [.slice A1 n1 c1, .slice A2 n2 c2]
  have hx0 : Ext w (w.alloc (.cells #[.slice A1 n1 c1, .slice A2 n2 c2] 27)) := Ext.alloc _ _
  have HE := hide he
  clear he
  go_enter Try.func66, Try.ntmps66
  go_wp2_with fail
  refine (c_l04Forest A1 A2 n1 c1 n2 c2 ps _ (hs2.ext hx0) m1 m2 HE.out).mono ?_
  rintro e w1 ⟨v1, R, rfl, hor, HR, hx1⟩
  obtain ⟨Ar, cr, rfl, _⟩ := hor.sl intC_len (by omega)
  have hlR : R.length ≤ n2 := HR.out
  have hsR := hor.slE intC_len (by omega)
  have hO := own_new w1 w1.heap.size 2 1 intC _ rfl (Nat.le_refl _)
  clear hor
  go_wp2_with fail
  go_loopw [4, 5] (fun v i wr => ∃ (j : Nat) (E : List Int), j ≤ n2 ∧ i = .int .i64 j ∧ E.length ≤ j ∧ OwnL wr w1.heap.size 2 1 intC v E ∧ Ext w1 wr) (fun _ i _ => n2 - (intOf i).toNat)
  case atStart => exact ⟨0, [], Nat.zero_le _, rfl, Nat.le_refl _, hO, Ext.alloc _ _⟩
  case round =>
    clear hO
    obtain ⟨j, E, hj, rfl, hE, hown, hx⟩ := hrel
    have hX := hx1.trans hx
    have hb0 := (hB.ext hX).cell 0
    have hb1 := (hB.ext hX).cell 1
    simp at hb0 hb1
    have hbl := (hB.ext hX).lt
    by_cases hlt : j < n2
    · go_wp2_with fail
      refine (c_l02Has Ar R.length cr R j _ (hsR.ext hx) (by omega)).mono ?_
      rintro e w2 ⟨bb, rfl, hx2⟩
      have hx12 := hx.trans hx2
      have hown2 := hown.ext hx2
      have hz2 := hx12.size
      clear hown hx hX hb0 hb1 hbl
      cases bb
      · go_wp2_with (at_builtin; go_must (refine wpList_append_one rfl _ _ 32 rfl w1.heap.size 2 _ 1 8 Try.underlying32 int_info rfl (by decide) intC intC_len int_one' _ _ rfl (hown2.ext (Ext.alloc _ _)) _ (j : Int) rfl _ rfl (by first | rfl | simp) (by omega) (by omega) (by omega) ?_))
        intro v4 w4 hown4 hext4
        have hx4 := hext4 _ (Nat.le_refl _) (hx12.and_alloc _)
        go_wp2_with fail
        go_roundw
        case rel => exact ⟨j + 1, _, by omega, by go_num, by simp; omega, hown4, hx4⟩
        case measure => simp [intOf]; omega
      · go_wp2_with fail
        go_roundw
        case rel => exact ⟨j + 1, _, by omega, by go_num, by omega, hown2, hx12⟩
        case measure => simp [intOf]; omega
    · go_wp2_with fail
      go_ret
      exact ⟨_, E, rfl, hown.lowG (by have := (hx0.trans hx1).size; omega), hide (by omega), hx0.trans hX⟩
/-- a list of numbers and a code -/
def RetIC (P : Nat) (w : World) (e : Ending) (w' : World) : Prop :=
  ∃ v E z, e = .returned (.tuple #[v, .int .i64 z]) ∧ OwnL w' w.heap.size 2 1 intC v E ∧ E.length ≤ P ∧ Ext w w'
theorem c_ChordsOf (A1 A2 : Option Addr) (n1 c1 n2 c2 : Nat) (ns : List Node) (ps : List Pipe) (w : World) (hs1 : SliceOf w 3 Node.cells A1 n1 c1 ns) (hs2 : SliceOf w 5 Pipe.cells A2 n2 c2 ps) (hnm : ∀ x ∈ ns, x.name.size ≤ 1048576) :
    Calls Try.prog 59 #[.agg #[.slice A1 n1 c1, .slice A2 n2 c2]] w (RetIC n2 w) := by
  have hB := Row.new w 27 [.slice A1 n1 c1, .slice A2 n2 c2]
  have hx0 : Ext w (w.alloc (.cells #[.slice A1 n1 c1, .slice A2 n2 c2] 27)) := Ext.alloc _ _
  have HNM := hide hnm
  have HL1 := hide hs1.len
  have HL2 := hide hs2.len
  clear hnm
  cases hb : netB ns ps
  · go_enter Try.func59, Try.ntmps59
    go_wp2_with fail
    refine (c_specIsNetwork A1 A2 n1 c1 n2 c2 ns ps _ (hs1.ext hx0) (hs2.ext hx0) HNM.out).mono ?_
    rw [hb]
    rintro e w1 ⟨rfl, hx1⟩
    go_wp2_with fail
    go_ret2
    exact ⟨_, [], 1, rfl, OwnL.nil_ _ _ _ _ _, Nat.zero_le _, hx0.trans hx1⟩
  · obtain ⟨he, h1, h2, h3⟩ := netB_facts hb
    rw [← HL1.out] at he h2
    rw [← HL2.out] at h3
    have HE := hide he
    clear he
    go_enter Try.func59, Try.ntmps59
    go_wp2_with fail
    refine (c_specIsNetwork A1 A2 n1 c1 n2 c2 ns ps _ (hs1.ext hx0) (hs2.ext hx0) HNM.out).mono ?_
    rw [hb]
    rintro e w1 ⟨rfl, hx1⟩
    have hb0 := (hB.ext hx1).cell 0
    have hb1 := (hB.ext hx1).cell 1
    simp at hb0 hb1
    have hbl := (hB.ext hx1).lt
    go_wp2_with fail
    refine (c_l05Chords A1 A2 n1 c1 n2 c2 ps _ (hs2.ext (hx0.trans hx1)) (by omega) (by omega) HE.out).mono ?_
    rintro e w2 ⟨v, E, rfl, ho, HL, hx2⟩
    go_wp2_with fail
    go_ret2
    exact ⟨_, E, 0, rfl, ho.lowG (hx0.trans hx1).size, HL.out, hx0.trans (hx1.trans hx2)⟩
end Go.Proofs.Ytegkeeeohileiaa
