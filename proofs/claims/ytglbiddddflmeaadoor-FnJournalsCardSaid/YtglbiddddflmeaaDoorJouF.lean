

/-
  The text of a journal, of the reference; bytes that are appended.
-/
import Derived.Test.YtglbiddddflmeaaDoorJouE
import Derived.Lib.AppendStr
namespace Go.Proofs.YtglbiddddflmeaaDoor
open Go.RowKit
open Go.Lib hiding intOf
section
variable {P : Program}
def bytC (b : UInt8) : List Value := [.int .u8 (b.toNat : Int)]
theorem bytC_len (b : UInt8) : (bytC b).length = 1 := rfl
theorem bytC_one (y : UInt8) : ∀ u ∈ bytC y, u.oneCell' = true := by intro u hu; simp [bytC] at hu; subst hu; rfl
theorem strCells_mkB (l : List UInt8) : strCells (mkB l) = l.flatMap bytC := by
  unfold strCells
  rw [mkB_list]
  induction l with
  | nil => rfl
  | cons b l ih => rw [List.map_cons, List.flatMap_cons, ih]; rfl
theorem wpList_append_str {ops : Array Oper} {rest : List Oper} {o : Oper} {a : Act} {Q : Exit → Act → World → Prop} {w : World} (hgd : o.guard = none) (s x : Operand) (t u : TypeId)
    (ho : o.op = .call { callee := .builtin .append, args := #[s, x], argTypes := #[t, u] }) (base : Nat) (e : TypeId) (ht : P.underlying t = some (.slice e)) (hu : P.underlying u = some .string)
    (hi : (P.info? e).map (fun i => (i.zero, i.size, i.bytes)) = some (some (.int .u8 0), 1, 1))
    (v : Value) (L : List UInt8) (hs : a.eval s = v) (hown : OwnL w base e 1 bytC v L) (l : List UInt8) (hx : a.eval x = .string (mkB l)) (hlen : L.length + l.length ≤ 1000000000) (hbase : base ≤ w.heap.size)
    (h : ∀ v' w', OwnL w' base e 1 bytC v' (L ++ l) → (∀ w0 : World, w0.heap.size ≤ base → Ext w0 w → Ext w0 w') → wpList P ops Q rest (a.put o.dst v') w') : wpList P ops Q (o :: rest) a w := by
  obtain ⟨i, hi1, hi2, hi3, hi4⟩ := info_parts hi
  refine wpList_append_own_string w hgd s x t u ho base e i ht hu hi1 hi2 hi3 hi4 v L.length (L.flatMap bytC) hs hown (mkB l) hx (by rw [mkB_size]; simp only [maxLen]; omega) (by rw [mkB_size]; omega) hbase ?_
  intro v' w' h2 h3 _
  refine h v' w' ?_ ?_
  · unfold OwnL
    rw [List.length_append, List.flatMap_append, ← strCells_mkB l]
    exact h2
  · intro w0 hw0 hx0
    exact hx0.grown h3 (fun k hk => Nat.le_trans hw0 (hown.block_le hk))
end
theorem byte_info : (Tryd.prog.info? 5).map (fun i => (i.zero, i.size, i.bytes)) = some (some (.int .u8 0), 1, 1) := by kernel_rfl
theorem flat_byte (L : List UInt8) (j : Nat) (hj : j < L.length) : (L.flatMap bytC)[j]? = some (.int .u8 (L[j].toNat : Int)) := by
  rw [← strCells_mkB, strCells, mkB_list, List.getElem?_map, List.getElem?_eq_getElem hj]
  rfl
theorem str_conv {w : World} {base : Nat} {v : Value} {L : List UInt8} (h : OwnL w base 5 1 bytC v L) : (convert 44 9 v).run Tryd.prog w = .ok (.string (mkB L)) w := by
  have hc := fun (g : Nat) (he : v.ownBlock = some g) => World.ownsRow.cells (g := g) h he
  rcases h.2 with ⟨rfl, hn⟩ | ⟨g, cap, cur, rfl, _⟩
  · have : L = [] := List.length_eq_zero_iff.1 hn
    subst this
    rw [run_convert_bytes_string w 44 9 5 none 0 0 Tryd.underlying44 Tryd.underlying5 Tryd.underlying9]
    simp [Conv.bytesToString]
    rfl
  · exact run_convert_bytes_back (P := Tryd.prog) w 44 9 5 ⟨g, 0, none⟩ cap L Tryd.underlying44 Tryd.underlying5 Tryd.underlying9 (fun j hj => hc g rfl j _ (flat_byte L j hj))
theorem decDigits_small : ∀ (k u : Nat), 1 ≤ k → u < 10 ^ k → (decDigits u).length ≤ k := by
  intro k
  induction k with
  | zero => intro u h; omega
  | succ k ih =>
    intro u _ hu
    rw [decDigits]
    split
    · simp
    · by_cases hk : k = 0
      · subst hk; omega
      · have := ih (u / 10) (by omega) (by rw [Nat.pow_succ] at hu; omega)
        rw [List.length_append]
        simp
        omega
theorem itoa_small (n : Int) (h0 : -1000000 < n) (h1 : n < 1000000) : (itoa n).length ≤ 7 := by
  unfold itoa
  split
  · have := decDigits_small 6 n.natAbs (by omega) (by omega)
    simp
    omega
  · have := decDigits_small 6 n.toNat (by omega) (by omega)
    omega
theorem headL_small (e : Event) (he : evB e = true) : (headL e).length ≤ 40 := by
  obtain ⟨_, ha, hb, hc, hd⟩ := evB_bounds he
  have h0 := evWord_len e.kind
  have h1 := itoa_small e.a (by omega) (by omega)
  have h2 := itoa_small e.b (by omega) (by omega)
  have h3 := itoa_small e.c (by omega) (by omega)
  have h4 := itoa_small e.d (by omega) (by omega)
  rw [headL, join_four]
  simp
  omega
theorem lineL_small (e : Event) (x : Int) (he : evB e = true) (h0 : 0 ≤ x) (h1 : x < 99991) : (lineL e x).length ≤ 48 := by
  have h2 := headL_small e he
  have h3 := sumE_bound e x h0 h1
  have h4 := itoa_small (sumE e x) (by omega) (by omega)
  rw [lineL]
  simp
  omega
theorem textL_take {es : List Event} {k : Nat} {e : Event} (h : es[k]? = some e) : textL (es.take (k + 1)) 1 = textL (es.take k) 1 ++ lineL e (sumEs (es.take k) 1) ++ [10] ∧ sumEs (es.take (k + 1)) 1 = sumE e (sumEs (es.take k) 1) := by
  rw [List.take_add_one, h]
  simp only [Option.toList_some]
  rw [textL_append, sumEs_append]
  simp [textL, sumEs]
set_option maxHeartbeats 4000000 in
set_option maxRecDepth 8000 in
theorem c_l32Text (A : Option Addr) (n c : Nat) (es : List Event) (w : World) (hs : SliceOf w 5 Event.cells A n c es) (he : ∀ e ∈ es, evB e = true) (hn : n ≤ 1048576) :
    Calls Tryd.prog 39 #[.slice A n c] w (Ret (.tuple #[.string (mkB (textL es 1)), .int .i64 (sumEs es 1)]) w) := by
  have HE := hide he
  clear he
  obtain ⟨W0, HW⟩ : ∃ W0, Hid (w.alloc (.cells #[] 5) = W0) := ⟨_, hide rfl⟩
  have ho0 : OwnL W0 w.heap.size 5 1 bytC (.slice (some ⟨w.heap.size, 0, none⟩) 0 0) [] := by rw [← HW.out]; exact OwnL.empty w _ _ _ _ (Nat.le_refl _)
  have hx0 : Ext w W0 := by rw [← HW.out]; exact Ext.alloc _ _
  go_enter Tryd.func39, Tryd.ntmps39
  go_wp2_with fail
  rw [HW.out]
  go_loopw [4, 5, 6, 7, 8] (fun v x i _ _ wr => ∃ (k : Nat) (z : Int) (L : List UInt8), k ≤ n ∧ L.length ≤ 49 * k ∧ i = .int .i64 k ∧ x = .int .i64 z ∧ 0 ≤ z ∧ z < 99991 ∧ Hid (z = sumEs (es.take k) 1) ∧ Hid (L = textL (es.take k) 1) ∧ OwnL wr w.heap.size 5 1 bytC v L ∧ Ext w wr) (fun _ _ i _ _ _ => n - (intOf i).toNat)
  case atStart => exact ⟨0, 1, [], Nat.zero_le _, Nat.le_refl _, rfl, rfl, by omega, by omega, hide rfl, hide rfl, ho0, hx0⟩
  case round =>
    obtain ⟨k, z, L, hk, hL, rfl, rfl, z0, z1, HZ, HL, ho, hx⟩ := hrel
    clear ho0 hx0
    have hzx := hx.size
    by_cases hlt : k < n
    · obtain ⟨b, off, e, rfl, hb, hxk, hc⟩ := (hs.ext hx).get hlt
      have hc0 := hc 0 _ rfl
      have hc1 := hc 1 _ rfl
      have hc2 := hc 2 _ rfl
      have hc3 := hc 3 _ rfl
      have hc4 := hc 4 _ rfl
      clear hc
      simp only [Nat.add_zero] at hc0
      have HX := hide hxk
      have hev := HE.out e (List.mem_of_getElem? hxk)
      clear hxk
      have hls := lineL_small e z hev z0 z1
      have hsb := sumE_bound e z z0 z1
      have HT := hide (textL_take HX.out)
      go_wp2_with fail
      refine (c_l32Line e z _ hev z0 z1).mono ?_
      rintro e' w1 ⟨rfl, hx1⟩
      have hx1' := hx.trans hx1
      have hz1' := hx1'.size
      go_wp2_with (at_builtin; go_must (refine wpList_append_str rfl _ _ 44 9 rfl w.heap.size 5 Tryd.underlying44 Tryd.underlying9 byte_info _ _ rfl (ho.ext hx1) _ rfl (by omega) (by omega) ?_))
      intro v2 w2 ho2 hext2
      have hx2 := hext2 w (Nat.le_refl _) hx1'
      have hz2 := hx2.size
      have hl2 : (L ++ lineL e z).length ≤ 49 * k + 48 := by rw [List.length_append]; omega
      go_wp2_with (at_builtin; go_must (refine wpList_append_one rfl _ _ 44 rfl w.heap.size 5 _ 1 1 Tryd.underlying44 byte_info rfl (by decide) bytC bytC_len bytC_one _ _ rfl (ho2.ext (Ext.alloc _ _)) _ (10 : UInt8) rfl _ rfl (by first | rfl | simp) (by omega) (by omega) (by first | omega | (simp; omega)) ?_))
      intro v3 w3 ho3 hext3
      have hx3 := hext3 w (Nat.le_refl _) (hx2.and_alloc _)
      go_wp2_with fail
      go_roundw
      case rel => exact ⟨k + 1, sumE e z, _, by omega, by simp; omega, by go_num, rfl, hsb.1, hsb.2, hide (by rw [HT.out.2, ← HZ.out]), hide (by rw [HT.out.1, ← HZ.out, HL.out, List.append_assoc]), ho3, hx3⟩
      case measure => simp [intOf]; omega
    · obtain rfl : n = k := by omega
      have ht : es.take n = es := by rw [hs.len]; exact List.take_length
      have hcv := str_conv ho
      have HL2 := hide (show L = textL es 1 by rw [HL.out, ht])
      have HZ2 := hide (show z = sumEs es 1 by rw [HZ.out, ht])
      clear ht
      go_wp2_with fail
      exact bodyPost_ret (v := .tuple #[.string (mkB L), .int .i64 z]) (by simp [results, Tryd.results39, go_sem]) rfl (Ret.of (by rw [HL2.out, HZ2.out]) hx)
end Go.Proofs.YtglbiddddflmeaaDoor
