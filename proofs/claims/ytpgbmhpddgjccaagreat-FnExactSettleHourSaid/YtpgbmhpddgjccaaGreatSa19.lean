/-
  Transports of the reference: supplies, scaling; exactly. The pipes at a node, the other end of a pipe and the room of a pipe, of the reference, exactly.
-/
import Derived.Test.YtpgbmhpddgjccaaGreatSa13
import Derived.Test.YtpgbmhpddgjccaaGreatSa15
import Derived.Test.YtpgbmhpddgjccaaGreatSa14
import Derived.Test.YtpgbmhpddgjccaaGreatSa16
import Derived.Test.YtpgbmhpddgjccaaGreatSa10
import Derived.Test.YtpgbmhpddgjccaaGreatSa18
import Derived.Test.YtpgbmhpddgjccaaGreatSa12
namespace Go.Proofs.YtpgbmhpddgjccaaGreat
open Go.RowKit
theorem trn_one (y : Trn) : ∀ u ∈ y.cells, u.oneCell' = true := by intro u hu; simp [Trn.cells] at hu; rcases hu with rfl | rfl | rfl | rfl <;> rfl
theorem trn_info : (Tryz.prog.info? 195).map (fun i => (i.zero, i.size, i.bytes)) = some (some (.agg #[.int .i64 0, .int .i64 0, .int .i64 0, .int .i64 0]), 4, 32) := by kernel_rfl
theorem new_trn (W : World) (x : Trn) {g : Nat} (hg : g = W.heap.size) : SliceOf (W.alloc (.cells #[.int .i64 x.entry, .int .i64 x.exit_, .int .i64 x.amount, .int .i64 x.cls] 195)) 4 Trn.cells (some ⟨g, 0, none⟩) 1 1 [x] := by
  subst hg; exact new_one trn_len W 195 x
/-- a list of transports of the call's own -/
def RetT (Q : List Trn → Prop) (w : World) (e : Ending) (w' : World) : Prop :=
  ∃ v E, e = .returned v ∧ OwnL w' w.heap.size 195 4 Trn.cells v E ∧ Hid (Q E) ∧ Ext w w'
theorem supA_bd {l : List Int} {b : Int} (h : ∀ z ∈ l, -b ≤ z ∧ z ≤ b) (i : Nat) {a : Int} (ha : l[i]? = some a) : -b ≤ a ∧ a ≤ b := h a (List.mem_of_getElem? ha)
set_option maxHeartbeats 1000000 in
theorem c_l24Supplies (A1 A2 : Option Addr) (n1 c1 n2 c2 : Nat) (A : Option Addr) (n c : Nat) (ts : List Trn) (w : World) (hs : SliceOf w 4 Trn.cells A n c ts) (hn1 : n1 ≤ 100000) (hn : n ≤ 100000) (hb : ∀ x ∈ ts, TrnB n1 30000 x) :
    Calls Tryz.prog 96 #[.agg #[.slice A1 n1 c1, .slice A2 n2 c2], .slice A n c] w (RetI (fun E => E = supT n1 ts) w) := by
  have hx0 : Ext w (w.alloc (.cells #[.slice A1 n1 c1, .slice A2 n2 c2] 45)) := Ext.alloc _ _
  have hmk := fun W => run_make_flat (P := Tryz.prog) 24 2 _ _ 1 8 Tryz.underlying24 int_info (f := intC) 0 rfl rfl rfl (by omega) n1 (by omega) (by omega) W
  have HB := hide hb
  clear hb
  go_enter Tryz.func96, Tryz.ntmps96
  go_wp2_with fail
  go_loopw [6] (fun i wr => ∃ k : Nat, k ≤ n ∧ i = .int .i64 k ∧ RowOf wr (w.heap.size + 1) 2 intC (supT n1 (ts.take k)) ∧ Ext (w.alloc (.cells #[.slice A1 n1 c1, .slice A2 n2 c2] 45)) wr) (fun i _ => n - (intOf i).toNat)
  case atStart => exact ⟨0, Nat.zero_le _, rfl, Row.newG _ _ (by simp), Ext.alloc _ _⟩
  case round =>
    obtain ⟨k, hk, rfl, hR, hx⟩ := hrel
    obtain ⟨l, HL⟩ : ∃ l, Hid (supT n1 (ts.take k) = l) := ⟨_, hide rfl⟩
    have hll : l.length = n1 := by rw [← HL.out]; exact supT_len _ _
    rw [HL.out] at hR
    by_cases hlt : k < n
    · obtain ⟨b, off, x, rfl, hb, hxk, hc⟩ := (hs.ext (hx0.trans hx)).get hlt
      have hc0 := hc 0 _ rfl
      have hc1 := hc 1 _ rfl
      have hc2 := hc 2 _ rfl
      clear hc
      simp only [Nat.add_zero] at hc0
      have hxb := HB.out x (List.mem_of_getElem? hxk)
      obtain ⟨⟨he0, he1⟩, ⟨hx0', hx1⟩, ⟨ha0, ha1⟩, -⟩ := hxb
      obtain ⟨y1, hy1⟩ : ∃ y : Nat, x.entry = y := ⟨x.entry.toNat, by omega⟩
      obtain ⟨y2, hy2⟩ : ∃ y : Nat, x.exit_ = y := ⟨x.exit_.toNat, by omega⟩
      have hyn1 : y1 < n1 := by omega
      have hyn2 : y2 < n1 := by omega
      have hbd := supT_bd (N := n1) ts (fun x hx => (HB.out x hx).2.2.1) k
      rw [HL.out] at hbd
      obtain ⟨a1, hl1⟩ : ∃ a, l[y1]? = some a := ⟨_, List.getElem?_eq_getElem (by omega)⟩
      obtain ⟨s1, hs1⟩ : ∃ s1, a1 + x.amount = s1 := ⟨_, rfl⟩
      obtain ⟨a2, hl2⟩ : ∃ a, (l.set y1 s1)[y2]? = some a := ⟨_, List.getElem?_eq_getElem (by rw [List.length_set]; omega)⟩
      obtain ⟨s2, hs2⟩ : ∃ s2, a2 - x.amount = s2 := ⟨_, rfl⟩
      have hb1 := hbd a1 (List.mem_of_getElem? hl1)
      have hb2 : -(60000 * (k : Int) + 30000) ≤ a2 ∧ a2 ≤ 60000 * k + 30000 := by
        rcases List.mem_or_eq_of_mem_set (List.mem_of_getElem? hl2) with h | h
        · have := hbd a2 h; omega
        · omega
      have e1 : IntKind.i64.wrap (a1 + x.amount) = s1 := by rw [← hs1]; exact IntWalk.i64_in _ (by omega)
      have e2 : IntKind.i64.wrap (a2 - x.amount) = s2 := by rw [← hs2]; exact IntWalk.i64_in _ (by omega)
      have HST : Hid (supT n1 (ts.take (k + 1)) = (l.set y1 s1).set y2 s2) := hide (by
        rw [supT_take hxk, HL.out]
        unfold supStep
        rw [hy1, hy2, Int.toNat_natCast, Int.toNat_natCast, zAt_some hl1, hs1, zAt_some hl2, hs2])
      have hcl1 := hR.get intC_len hl1 (j := 0) rfl
      simp only [Nat.mul_one, Nat.add_zero] at hcl1
      have hf := hR.frozen y1
      have hR1 := (RowOf.set0 hR (fun x => ⟨_, rfl⟩) (d := y1) (by omega) s1 (.int .i64 s1) rfl).drew
      have hle := hR.lt
      have hX1 := (hx.setCell (p := ⟨w.heap.size + 1, y1, none⟩) (by simp) (.int .i64 s1)).drew
      have hbw : b < w.heap.size := hs.blk (b := b) (by unfold blkOf; rw [if_neg (by omega)]; rfl)
      rw [hy1] at hc0
      rw [hy2] at hc1
      have hd1 := (hX1.cell b (off + k * 4 + 1) (by simp; omega)).trans ((hx.cell b (off + k * 4 + 1) (by simp; omega)).symm.trans hc1)
      have hd2 := (hX1.cell b (off + k * 4 + 2) (by simp; omega)).trans ((hx.cell b (off + k * 4 + 2) (by simp; omega)).symm.trans hc2)
      have HL2 := hide hl2
      clear hbd hl1 hl2 hs1 hs2 hb1 hb2 hxk HL hx hR
      go_wp2_with fail
      refine wp_region_phZ [(b, off + k * 4), (w.heap.size + 1, y1), (b, off + k * 4 + 2)] [] [0, 1, 2, 3, 4, 5, 6, 7, 8, 9, 10, 11, 12, 13, 14, 15, 16, 17, 18, 19, 20] 21 (by kernel_rfl) (by kernel_rfl) (by intro c a w d v h; cases d <;> exact h) ?_
      simp only [wpPhZ, pickL, nthO]
      repeat (go_big_quiet_step (fail))
      refine wpQuiet_nil ?_
      set_option maxRecDepth 20000 in
      go_wp2_with fail
      generalize (wr.setCell ⟨w.heap.size + 1, y1, none⟩ (.int .i64 s1)).drew = W at *
      have hf2 := hR1.frozen y2
      have hcl2 := hR1.get intC_len HL2.out (j := 0) rfl
      simp only [Nat.mul_one, Nat.add_zero] at hcl2
      have hle2 := hR1.lt
      have hR2 := RowOf.set0 (hR1.ext (Ext.refl _).drew) (fun x => ⟨_, rfl⟩) (d := y2) (by rw [List.length_set]; omega) s2 (.int .i64 s2) rfl
      have hX2 := hX1.drew.setCell (p := ⟨w.heap.size + 1, y2, none⟩) (by simp) (.int .i64 s2)
      clear hR1 hX1
      refine wp_region_phZ [(b, off + k * 4 + 1), (w.heap.size + 1, y2), (b, off + k * 4 + 2)] [] [0, 1, 2, 3, 4, 5, 6, 7, 8, 9, 10, 11, 12, 13, 14, 15, 16, 17, 18, 19, 20] 21 (by kernel_rfl) (by kernel_rfl) (by intro c a w d v h; cases d <;> exact h) ?_
      simp only [wpPhZ, pickL, nthO]
      repeat (go_big_quiet_step (fail))
      refine wpQuiet_nil ?_
      set_option maxRecDepth 20000 in
      go_wp2_with fail
      go_roundw
      case rel => exact ⟨k + 1, by omega, by go_num, by rw [HST.out]; exact hR2, hX2⟩
      case measure => simp [intOf]; omega
    · have HE : Hid (l = supT n1 ts) := hide (by rw [← HL.out, List.take_of_length_le (by rw [← hs.len]; omega)])
      have hle := hR.lt
      go_wp2_with fail
      go_ret
      have hO := OwnL.of_row hR intC_len (base := w.heap.size) (by omega) (by omega)
      rw [hll] at hO
      exact ⟨_, l, rfl, hO, HE, hx0.trans hx⟩
set_option maxHeartbeats 1000000 in
theorem c_l24Scale (A : Option Addr) (n c : Nat) (ts : List Trn) (B : Option Addr) (d : Nat) (sc : List Int) (w : World) (hs : SliceOf w 4 Trn.cells A n c ts) (hsc : SliceOf w 1 intC B 4 d sc) (hn : n ≤ 100000) (N : Nat) (hb : ∀ x ∈ ts, TrnB N 30000 x) (hi : ScaleIn sc) :
    Calls Tryz.prog 97 #[.slice A n c, .slice B 4 d] w (RetT (fun E => E = ts.map (scaleT sc)) w) := by
  have HB := hide hb
  have HI := hide hi
  clear hb hi
  have hO0 : OwnL (w.alloc (.cells #[] 195)) w.heap.size 195 4 Trn.cells (.slice (some ⟨w.heap.size, 0, none⟩) 0 0) [] := own_new w w.heap.size _ _ _ _ rfl (Nat.le_refl _)
  go_enter Tryz.func97, Tryz.ntmps97
  go_wp2_with fail
  go_loopw [5, 6] (fun v i wr => ∃ (k : Nat) (L : List Trn), k ≤ n ∧ i = .int .i64 k ∧ L.length = k ∧ Hid (L = (ts.take k).map (scaleT sc)) ∧ OwnL wr w.heap.size 195 4 Trn.cells v L ∧ Ext w wr) (fun _ i _ => n - (intOf i).toNat)
  case atStart => exact ⟨0, [], Nat.zero_le _, rfl, rfl, hide rfl, hO0, Ext.alloc _ _⟩
  case round =>
    clear hO0
    obtain ⟨k, L, hk, rfl, hLk, HL, ho, hx⟩ := hrel
    by_cases hlt : k < n
    · obtain ⟨b, off, x, hA, hb, hxk, hc⟩ := (hs.ext hx).get hlt
      have hc0 := hc 0 _ rfl
      have hc1 := hc 1 _ rfl
      have hc2 := hc 2 _ rfl
      have hc3 := hc 3 _ rfl
      clear hc
      subst hA
      simp only [Nat.add_zero] at hc0
      have HOB : Hid (∀ j, u5.ownBlock = some j → w.heap.size ≤ j ∧ j < wr.heap.size) := hide (fun j hj => ⟨ho.block_le hj, (ho.ltG hj).2⟩)
      have hxb := HB.out x (List.mem_of_getElem? hxk)
      obtain ⟨-, -, ⟨ha0, ha1⟩, ⟨hk0, hk1⟩⟩ := hxb
      obtain ⟨y, hy⟩ : ∃ y : Nat, x.cls = y := ⟨x.cls.toNat, by omega⟩
      have hyn : y < 4 := by omega
      obtain ⟨bs, os, s, hB, hbs, hsk, hcs⟩ := (hsc.ext hx).get hyn
      have hcs0 := hcs 0 _ rfl
      clear hcs
      subst hB
      have hbsw : bs < w.heap.size := hsc.blk (b := bs) rfl
      simp only [Nat.add_zero, Nat.mul_one] at hcs0
      have hsb := HI.out.2 s (List.mem_of_getElem? hsk)
      obtain ⟨p1, p2, p3, p4⟩ := scale_le ⟨ha0, ha1⟩ hsb
      have e1 : IntKind.i64.wrap (x.amount * s) = x.amount * s := IntWalk.i64_in _ (by omega)
      have HST : Hid ((ts.take (k + 1)).map (scaleT sc) = L ++ [⟨x.entry, x.exit_, (x.amount * s).tdiv 100, y⟩]) := hide (by
        rw [List.take_add_one, hxk, List.map_append, ← HL.out, Option.toList_some, List.map_singleton]
        unfold scaleT
        rw [hy, Int.toNat_natCast, zAt_some hsk])
      rw [hy] at hc3
      clear hxk hsk
      obtain ⟨q, hq⟩ : ∃ q, (x.amount * s).tdiv 100 = q := ⟨_, rfl⟩
      rw [hq] at p3 p4 HST
      have e2 : IntKind.i64.wrap q = q := IntWalk.i64_in _ (by omega)
      go_wp2_with fail
      have hbx := Row.new wr 195 [.int .i64 x.entry, .int .i64 x.exit_, .int .i64 x.amount, .int .i64 y]
      have hx1 : Ext wr (wr.alloc (.cells #[.int .i64 x.entry, .int .i64 x.exit_, .int .i64 x.amount, .int .i64 y] 195)) := Ext.alloc _ _
      generalize (wr.alloc (.cells #[.int .i64 x.entry, .int .i64 x.exit_, .int .i64 x.amount, .int .i64 y] 195)) = W1 at *
      have hcs1 := (hx1.cell _ _ hbs).trans hcs0
      have hbs1 := Nat.lt_of_lt_of_le hbs hx1.size
      have q0 := hbx.cell 0
      have q1 := hbx.cell 1
      have q2 := hbx.cell 2
      have q3 := hbx.cell 3
      simp at q0 q1 q2 q3
      have hbl := hbx.lt
      have hbf := hbx.frozen
      have ho1 := ho.ext hx1
      have hX1 := hx.trans hx1
      clear hx ho hcs0 hbs hx1 hb hc0 hc1 hc2 hc3
      refine wp_region_phC [(wr.heap.size, 0), (wr.heap.size, 1), (wr.heap.size, 2), (wr.heap.size, 3), (bs, os + y)] [([0, 1, 2, 3, 4, 5, 6, 7, 8, 9, 10, 11, 12, 13, 14, 15, 16], 17), ([], 18)] [19] (by kernel_rfl) (by kernel_rfl) (by intro c a w d v h; cases d <;> exact h) ?_
      simp only [wpPhC, pickL, nthO]
      repeat (go_big_quiet_step (fail))
      refine wpQuiet_nil ?_
      go_wp2_with fail
      obtain ⟨W, HW⟩ : ∃ W, Hid ((W1.alloc (.cells #[.int .i64 x.entry, .int .i64 x.exit_, .int .i64 q, .int .i64 y] 195)).drew = W) := ⟨_, hide rfl⟩
      rw [HW.out]
      have hxa : Ext W1 W := by rw [← HW.out]; exact ((Ext.refl W1).and_alloc _).drew
      have hWz : w.heap.size ≤ W.heap.size := by have := hxa.size; have := hX1.size; omega
      have hWn : SliceOf W 4 Trn.cells (some ⟨W1.heap.size, 0, none⟩) 1 1 [⟨x.entry, x.exit_, q, y⟩] := by rw [← HW.out]; exact (new_trn W1 ⟨x.entry, x.exit_, q, y⟩ rfl).ext (Ext.refl _).drew
      refine ⟨SameC.of_ext hxa (by simp; omega), wpQuiet_nil ?_⟩
      go_wp2_with (at_builtin; go_must (refine wpList_append_where rfl _ _ 118 rfl w.heap.size 195 _ 4 32 Tryz.underlying118 trn_info rfl (by decide) Trn.cells trn_len trn_one _ L rfl (ho1.ext hxa) W1.heap.size 0 1 1 [⟨x.entry, x.exit_, q, y⟩] rfl hWn (by omega) (by omega) hWz ?_))
      intro v2 w2 ho2 hg2 _
      have hx2 := (hX1.trans hxa).grown hg2 (fun k hk => ho1.block_le hk)
      have hxz := hxa.size
      have hsm : SameC [(wr.heap.size, 0), (wr.heap.size, 1), (wr.heap.size, 2), (wr.heap.size, 3), (bs, os + y)] W1 w2 := by
        intro p hp
        simp only [List.mem_cons, List.not_mem_nil, or_false] at hp
        have hne : p.1 < W1.heap.size ∧ ∀ j, u5.ownBlock = some j → p.1 ≠ j := by
          rcases hp with rfl | rfl | rfl | rfl | rfl <;> exact ⟨by first | exact hbl | exact hbs1, fun j hj => by have := HOB.out j hj; show _ ≠ j; omega⟩
        exact (World.cell?_of_block (w := W) (hg2.block p.1 (by omega) (fun e => hne.2 p.1 e.symm rfl))).trans (hxa.cell _ _ hne.1)
      rw [← HST.out] at ho2
      clear ho1 hg2 hxa hX1 hbx hbf hcs1 q0 q1 q2 q3
      go_wp2_with fail
      refine ⟨hsm, ?_⟩
      repeat (go_big_quiet_step (fail))
      refine wpQuiet_nil ?_
      go_wp2_with fail
      go_roundw
      case rel => exact ⟨k + 1, _, by omega, by go_num, by rw [List.length_map, List.length_take]; have := hs.len; omega, hide rfl, ho2, hx2⟩
      case measure => simp [intOf]; omega
    · go_wp2_with fail
      go_ret
      exact ⟨_, L, rfl, ho, hide (by rw [HL.out, List.take_of_length_le (by rw [← hs.len]; omega)]), hx⟩
end Go.Proofs.YtpgbmhpddgjccaaGreat

namespace Go.Proofs.YtpgbmhpddgjccaaGreat
open Go.RowKit
set_option maxHeartbeats 1000000 in
theorem c_l02AtX (A1 A2 : Option Addr) (n1 c1 n2 c2 : Nat) (ps : List Pipe) (w : World) (hs2 : SliceOf w 5 Pipe.cells A2 n2 c2 ps) (x : Int) (m2 : n2 ≤ 1048576) :
    Calls Tryz.prog 282 #[.agg #[.slice A1 n1 c1, .slice A2 n2 c2], .int .i64 x] w (RetI (fun E => E = atL ps x ∧ E.length ≤ n2) w) := by
  have hB := Row.new w 45 [.slice A1 n1 c1, .slice A2 n2 c2]
  have hx0 : Ext w (w.alloc (.cells #[.slice A1 n1 c1, .slice A2 n2 c2] 45)) := Ext.alloc _ _
  go_enter Tryz.func282, Tryz.ntmps282
  go_wp2_with fail
  go_loopw [5, 6] (fun v i wr => ∃ (k : Nat) (E : List Int), k ≤ n2 ∧ i = .int .i64 k ∧ E.length ≤ k ∧ Hid (E = atI ps x k) ∧ OwnL wr (w.heap.size + 1) 2 1 intC v E ∧ Ext (w.alloc (.cells #[.slice A1 n1 c1, .slice A2 n2 c2] 45)) wr) (fun _ i _ => n2 - (intOf i).toNat)
  case atStart => exact ⟨0, [], Nat.zero_le _, rfl, by simp, hide rfl, own_new (w.alloc (.cells #[.slice A1 n1 c1, .slice A2 n2 c2] 45)) (w.heap.size + 1) _ _ _ _ (by simp) (by omega), Ext.alloc _ _⟩
  case round =>
    obtain ⟨k, E, hk, rfl, hE, HE, hown, hx⟩ := hrel
    have hxz := hx.size
    have hbl := (hB.ext hx).lt
    have hb1 := (hB.ext hx).cell 1
    simp at hb1 hxz
    by_cases hlt : k < n2
    · obtain ⟨b, off, p, rfl, hb, hxk, hc⟩ := (hs2.ext (hx0.trans hx)).get hlt
      have HK := hide hxk
      clear hxk
      have hc0 := hc 0 _ rfl
      have hc1 := hc 1 _ rfl
      clear hc
      simp only [Nat.add_zero] at hc0
      cases e0 : (p.src == x)
      · cases e1 : (p.dst == x)
        · go_wp2_with fail
          go_roundw
          case rel => exact ⟨k + 1, E, by omega, by go_num, by omega, hide (by rw [HE.out, atI_no (by unfold endB; rw [HK.out]; simp only [e0, e1]; rfl)]), hown, hx⟩
          case measure => simp [intOf]; omega
        · have HN : Hid (E ++ [(k : Int)] = atI ps x (k + 1)) := hide (by rw [HE.out, atI_yes (by unfold endB; rw [HK.out]; simp only [e0, e1]; rfl)])
          go_wp2_with (at_builtin; go_must (refine wpList_append_one rfl _ _ 24 rfl (w.heap.size + 1) 2 _ 1 8 Tryz.underlying24 int_info rfl (by decide) intC intC_len int_one' _ _ rfl (hown.ext (Ext.alloc _ _)) _ (k : Int) rfl _ rfl (by first | rfl | simp) (by omega) (by omega) (by omega) ?_))
          intro v1 w4 hown4 hext4
          have hx4 := hext4 _ (by simp) (hx.and_alloc _)
          go_wp2_with fail
          go_roundw
          case rel => exact ⟨k + 1, _, by omega, by go_num, by simp; omega, HN, hown4, hx4⟩
          case measure => simp [intOf]; omega
      · have HN : Hid (E ++ [(k : Int)] = atI ps x (k + 1)) := hide (by rw [HE.out, atI_yes (by unfold endB; rw [HK.out]; simp only [e0]; rfl)])
        go_wp2_with (at_builtin; go_must (refine wpList_append_one rfl _ _ 24 rfl (w.heap.size + 1) 2 _ 1 8 Tryz.underlying24 int_info rfl (by decide) intC intC_len int_one' _ _ rfl (hown.ext (Ext.alloc _ _)) _ (k : Int) rfl _ rfl (by first | rfl | simp) (by omega) (by omega) (by omega) ?_))
        intro v1 w4 hown4 hext4
        have hx4 := hext4 _ (by simp) (hx.and_alloc _)
        go_wp2_with fail
        go_roundw
        case rel => exact ⟨k + 1, _, by omega, by go_num, by simp; omega, HN, hown4, hx4⟩
        case measure => simp [intOf]; omega
    · obtain rfl : n2 = k := by omega
      go_wp2_with fail
      go_ret
      exact ⟨_, E, rfl, hown.lowG (by omega), hide ⟨by rw [HE.out, atL, hs2.len], hE⟩, hx0.trans hx⟩
set_option maxHeartbeats 1000000 in
theorem c_l02OtherX (A1 A2 : Option Addr) (n1 c1 n2 c2 : Nat) (ps : List Pipe) (w : World) (hs2 : SliceOf w 5 Pipe.cells A2 n2 c2 ps) (N : Nat) (hN : N ≤ 1048576) (he : EndsN N ps) (k : Nat) (p : Pipe) (hk : ps[k]? = some p) (x : Int) (hx : p.src = x ∨ p.dst = x) :
    Calls Tryz.prog 259 #[.agg #[.slice A1 n1 c1, .slice A2 n2 c2], .int .i64 k, .int .i64 x] w (Ret (.int .i64 (othE p x)) w) := by
  obtain ⟨W, HW⟩ : ∃ W, Hid ((w.alloc (.cells #[.slice A1 n1 c1, .slice A2 n2 c2] 45)) = W) := ⟨_, hide rfl⟩
  have hB : Row W w.heap.size 45 [.slice A1 n1 c1, .slice A2 n2 c2] := by rw [← HW.out]; exact Row.new w 45 [.slice A1 n1 c1, .slice A2 n2 c2]
  have hx0 : Ext w W := by rw [← HW.out]; exact Ext.alloc _ _
  have hkl : k < n2 := by rw [hs2.len]; exact (List.getElem?_eq_some_iff.1 hk).1
  obtain ⟨b, off, p', rfl, hb, hk', hc⟩ := (hs2.ext hx0).get hkl
  have hb1 := hB.cell 1
  simp at hb1
  have hbl := hB.lt
  obtain rfl : p' = p := by rw [hk] at hk'; exact (Option.some.inj hk').symm
  have hc0 := hc 0 _ rfl
  have hc1 := hc 1 _ rfl
  clear hc hk'
  simp only [Nat.add_zero] at hc0
  obtain ⟨⟨h1, h2⟩, ⟨h3, h4⟩, _⟩ := he _ (List.mem_of_getElem? hk)
  clear hk
  have e1 : IntKind.i64.wrap (p'.src + p'.dst) = p'.src + p'.dst := IntWalk.i64_in _ (by omega)
  have e2 : IntKind.i64.wrap (p'.src + p'.dst - x) = p'.src + p'.dst - x := IntWalk.i64_in _ (by rcases hx with h | h <;> omega)
  have HX := hide hx
  clear hx
  go_enter Tryz.func259, Tryz.ntmps259
  go_wp2_with fail
  rw [HW.out]
  refine wp_region_later (by kernel_rfl) (by kernel_rfl) ?_
  repeat (go_big_quiet_step (fail))
  refine wpQuiet_nil ?_
  intro w1 hx1
  go_wp2_with fail
  go_ret
  refine Ret.of ?_ (hx0.trans hx1)
  rw [oth_sum HX.out]
  rfl
theorem EndsN.ends {N : Nat} {ps : List Pipe} (h : EndsN N ps) : EndsIn N ps := fun p hp => by
  obtain ⟨⟨h1, h2⟩, ⟨h3, h4⟩, _⟩ := h p hp
  exact ⟨h1, h2, h3, h4⟩
/-- flows within the limits -/
def FlowIn (ps : List Pipe) (fl : List Int) : Prop := ∀ (k : Nat) (p : Pipe) (f : Int), ps[k]? = some p → fl[k]? = some f → -p.limit ≤ f ∧ f ≤ p.limit ∧ p.limit ≤ 30000
theorem FlowIn.rooms {ps : List Pipe} {fl : List Int} (h : FlowIn ps fl) {k : Nat} {p : Pipe} {f : Int} (hk : ps[k]? = some p) (hf : fl[k]? = some f) : IntKind.i64.wrap (p.limit - f) = p.limit - f ∧ IntKind.i64.wrap (p.limit + f) = p.limit + f := by
  have := h k p f hk hf
  exact ⟨IntWalk.i64_in _ (by omega), IntWalk.i64_in _ (by omega)⟩
set_option maxHeartbeats 1000000 in
theorem c_l23Room (A1 A2 : Option Addr) (n1 c1 n2 c2 : Nat) (ps : List Pipe) (w : World) (hs2 : SliceOf w 5 Pipe.cells A2 n2 c2 ps) (A3 : Option Addr) (n3 c3 : Nat) (fl : List Int) (hs3 : SliceOf w 1 intC A3 n3 c3 fl) (hb : FlowIn ps fl) (k : Nat) (p : Pipe) (f : Int) (hk : ps[k]? = some p) (hf : fl[k]? = some f) (x : Int) :
    Calls Tryz.prog 260 #[.agg #[.slice A1 n1 c1, .slice A2 n2 c2], .slice A3 n3 c3, .int .i64 k, .int .i64 x] w (Ret (.int .i64 (roomZ ps fl k x)) w) := by
  obtain ⟨W, HW⟩ : ∃ W, Hid ((w.alloc (.cells #[.slice A1 n1 c1, .slice A2 n2 c2] 45)) = W) := ⟨_, hide rfl⟩
  have hB : Row W w.heap.size 45 [.slice A1 n1 c1, .slice A2 n2 c2] := by rw [← HW.out]; exact Row.new w 45 [.slice A1 n1 c1, .slice A2 n2 c2]
  have hx0 : Ext w W := by rw [← HW.out]; exact Ext.alloc _ _
  have hkl : k < n2 := by rw [hs2.len]; exact (List.getElem?_eq_some_iff.1 hk).1
  have hkf : k < n3 := by rw [hs3.len]; exact (List.getElem?_eq_some_iff.1 hf).1
  obtain ⟨b, off, p', rfl, hbb, hk', hc⟩ := (hs2.ext hx0).get hkl
  obtain ⟨b3, off3, f', rfl, hb3, hf', hc3⟩ := (hs3.ext hx0).get hkf
  have hb1 := hB.cell 1
  simp at hb1
  have hbl := hB.lt
  obtain rfl : p' = p := by rw [hk] at hk'; exact (Option.some.inj hk').symm
  obtain rfl : f' = f := by rw [hf] at hf'; exact (Option.some.inj hf').symm
  have hc0 := hc 0 _ rfl
  have hc4 := hc 4 _ rfl
  have hd0 := hc3 0 _ rfl
  clear hc hc3 hk' hf'
  simp only [Nat.add_zero, Nat.mul_one] at hc0 hd0
  have gb1 := hb1
  have gc0 := hc0
  have gbl := hbl
  have gbb := hbb
  rw [← HW.out] at gb1 gc0 gbl gbb
  obtain ⟨e1, e2⟩ := hb.rooms hk hf
  have HR := hide (roomZ_at hk hf x)
  clear hk hf hb
  go_enter Tryz.func260, Tryz.ntmps260
  cases e0 : (p'.src == x)
  · have e3 : ¬ p'.src = x := by simpa using e0
    have HR2 : Hid (roomZ ps fl k x = p'.limit + f') := hide (by rw [HR.out, if_neg e3])
    go_wp2_with fail
    rw [HW.out]
    clear gb1 gc0 gbl gbb
    refine wp_region_later (by kernel_rfl) (by kernel_rfl) ?_
    repeat (go_big_quiet_step (fail))
    refine wpQuiet_nil ?_
    intro w1 hx1
    go_wp2_with fail
    go_ret
    exact Ret.of (by rw [HR2.out]; rfl) (hx0.trans hx1)
  · have e3 : p'.src = x := by simpa using e0
    have HR2 : Hid (roomZ ps fl k x = p'.limit - f') := hide (by rw [HR.out, if_pos e3])
    go_wp2_with fail
    rw [HW.out]
    clear gb1 gc0 gbl gbb
    refine wp_region_later (by kernel_rfl) (by kernel_rfl) ?_
    repeat (go_big_quiet_step (fail))
    refine wpQuiet_nil ?_
    intro w1 hx1
    go_wp2_with fail
    go_ret
    exact Ret.of (by rw [HR2.out]; rfl) (hx0.trans hx1)
end Go.Proofs.YtpgbmhpddgjccaaGreat
