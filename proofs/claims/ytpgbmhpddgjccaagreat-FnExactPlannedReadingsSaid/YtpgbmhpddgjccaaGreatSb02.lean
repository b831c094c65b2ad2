/-
  FnExactPlannedReadings: for every input the law returns true and its arguments read as before. No condition.
-/
import Derived.Test.YtpgbmhpddgjccaaGreatSa10
import Derived.Test.YtpgbmhpddgjccaaGreatSa11
import Derived.Test.YtpgbmhpddgjccaaGreatSa36
import Derived.Test.YtpgbmhpddgjccaaGreatSb01
import Derived.Test.YtpgbmhpddgjccaaGreatSa38
namespace Go.Proofs.YtpgbmhpddgjccaaGreat
open Go.RowKit Go.ChangeShapes Go.WideShapes Go.ChangeAt Go.Deep Go.Joins
set_option maxHeartbeats 8000000 in
theorem law_PlannedReadings (A1 A2 : Option Addr) (n1 c1 n2 c2 : Nat) (ns : List Node) (ps : List Pipe) (A : Option Addr) (n c : Nat) (xs : List Contract) (B : Option Addr) (m d : Nat) (L : List Nomination) (h : Int) (w : World) (h1 : SliceOf w 3 Node.cells A1 n1 c1 ns) (h2 : SliceOf w 5 Pipe.cells A2 n2 c2 ps) (hs : SliceOf w 8 Contract.cells A n c xs) (hL : SliceOf w 4 Nomination.cells B m d L) (hnm : Named0 ns) :
    Calls Tryz.prog 5 #[.agg #[.slice A1 n1 c1, .slice A2 n2 c2], .slice A n c, .slice B m d, .int .i64 h] w (Ret (.bool true) w) := by
  have hin := NBoxL.new w A1 A2 n1 c1 n2 c2 34
  have HNM := hide hnm
  have hcap := hs.cap
  have hmax := hs.max
  have hcapL := hL.cap
  have hmaxL := hL.max
  clear hnm
  go_enter Tryz.func5, Tryz.ntmps5
  go_wp2_with fail
  refine (c_szNetwork A1 A2 n1 c1 n2 c2 ns 1048576 _ (h1.ext (Ext.alloc _ _)) h2.cap h2.max HNM.out (by omega) (by omega)).mono ?_
  rintro e w1 ⟨z, rfl, hx1, rfl | ⟨hz0, hz1, ⟨m1, hnm⟩, m2⟩⟩
  · go_wp2_with fail
    go_ret
    exact Ret.bool rfl hx1.box
  have hz' : ¬ z < 0 := by omega
  obtain ⟨hlt, x0, x1⟩ := hin.ext hx1
  go_wp2_with fail
  refine (c_szContractS A n c z _ hcap hmax (by omega) (by omega)).mono ?_
  by_cases hzn : z < (n : Int)
  · rw [if_pos hzn]
    rintro e w' ⟨rfl, rfl⟩
    go_wp2_with fail
    go_ret
    exact Ret.bool rfl hx1.box
  rw [if_neg hzn]
  rintro e w' ⟨rfl, rfl⟩
  have m3 : n ≤ 1048576 := by omega
  have hz'' : ¬ z - (n : Int) < 0 := by omega
  go_wp2_with fail
  refine (c_szNominationS B m d (z - n) _ hcapL hmaxL (by omega) (by omega)).mono ?_
  by_cases hzm : z - (n : Int) < (m : Int)
  · rw [if_pos hzm]
    rintro e w' ⟨rfl, rfl⟩
    go_wp2_with fail
    go_ret
    exact Ret.bool rfl hx1.box
  rw [if_neg hzm]
  rintro e w' ⟨rfl, rfl⟩
  have m4 : m ≤ 1048576 := by omega
  have hz3 : ¬ z - (n : Int) - (m : Int) < 0 := by omega
  have HN := hide (show ∀ x ∈ ns, x.name.size ≤ 1048576 from fun x hx => named_sz hnm x hx)
  have HL1 := hide h1.len
  have HL2 := hide h2.len
  have HL3 := hide hs.len
  have HL4 := hide hL.len
  have l1 : ns.length ≤ 1048576 := by rw [← HL1.out]; exact m1
  have l2 : ps.length ≤ 1048576 := by rw [← HL2.out]; exact m2
  have l3 : xs.length ≤ 1048576 := by rw [← HL3.out]; exact m3
  have l4 : L.length ≤ 1048576 := by rw [← HL4.out]; exact m4
  obtain ⟨R, HR⟩ : ∃ R, Hid (prV ns.length ns ps xs L h = R) := ⟨_, hide rfl⟩
  have hRl : R.1.length ≤ 1048576 := by rw [← HR.out]; exact prV_len _ _ _ _ _
  clear hnm
  go_wp2_with fail
  refine (c_toNetwork A1 A2 n1 c1 n2 c2 ns ps _ (h1.ext hx1.box) (h2.ext hx1.box) m1 m2).mono ?_
  rintro e w2 ⟨g1, g2, rfl, hg1, hg12, r1, r2, hx2⟩
  go_wp2_with fail
  refine (c_toContractS A n c xs _ (hs.ext (hx1.box.trans hx2)) m3).mono ?_
  rintro e w3 ⟨g3, rfl, hg3, r3, hx3⟩
  go_wp2_with fail
  refine (c_toNominationS B m d L _ (hL.ext ((hx1.box.trans hx2).trans hx3)) m4).mono ?_
  rintro e w4 ⟨g4, rfl, hg4, r4, hx4⟩
  have hx24 := hx3.trans hx4
  go_wp2_with fail
  refine (sp_PlannedReadings _ _ _ _ _ _ ns ps _ _ _ xs _ _ _ L h _ ((r1.ext hx24).slice node_len rfl (by omega)) ((r2.ext hx24).slice pipe_len rfl (by omega)) ((r3.ext hx4).slice contract_len rfl (by omega)) (r4.slice nomination_len rfl (by omega)) HN.out).mono ?_
  rw [HR.out]
  rintro e w5 ⟨S, sn, sc, sl, sz, rfl, hsp, hx5, HS⟩
  obtain rfl : R = (sl, sz) := HS.out.symm
  clear hlt x0 x1
  have hX5 := hx1.trans (hx2.trans (hx24.trans hx5))
  obtain ⟨hlt, x0, x1⟩ := hin.ext hX5
  go_wp2_with fail
  refine (c_toNetwork A1 A2 n1 c1 n2 c2 ns ps _ (h1.ext hX5.box) (h2.ext hX5.box) m1 m2).mono ?_
  rintro e w6 ⟨p1, p2, rfl, hp1, hp12, u1, u2, hx6⟩
  have hX6 := hX5.trans hx6
  have hinX := NBoxL.new w6 (some ⟨p1, 0, none⟩) (some ⟨p2, 0, none⟩) ns.length ns.length ps.length ps.length 45
  have hx6' := hx6.and_alloc (.cells #[.slice (some ⟨p1, 0, none⟩) ns.length ns.length, .slice (some ⟨p2, 0, none⟩) ps.length ps.length] 45)
  have hX6' := hX5.trans hx6'
  clear hlt x0 x1
  go_wp2_with fail
  refine (c_toContractS A n c xs _ (hs.ext hX6'.box) m3).mono ?_
  rintro e w7 ⟨p3, rfl, hp3, u3, hx7⟩
  have hX7 := hX6'.trans hx7
  go_wp2_with fail
  refine (c_toNominationS B m d L _ (hL.ext hX7.box) m4).mono ?_
  rintro e w8 ⟨p4, rfl, hp4, u4, hx8⟩
  have hX8 := hX7.trans hx8
  have hx68 := hx7.trans hx8
  obtain ⟨hy, y0, y1⟩ := hinX.ext hx68
  go_wp2_with fail
  refine (c_PlannedReadings _ _ _ _ _ _ ns ps _ _ _ xs _ _ _ L h _ ((u1.ext hx68.box).slice node_len rfl (by omega)) ((u2.ext hx68.box).slice pipe_len rfl (by omega)) ((u3.ext hx8).slice contract_len rfl (by omega)) (u4.slice nomination_len rfl (by omega))).mono ?_
  rw [HR.out]
  rintro e w9 ⟨G, gn, gc, gg, gl, gz, rfl, hgc, hgm, hgg, hgo, hx9, HG⟩
  obtain ⟨rfl, rfl⟩ : gl = sl ∧ gz = sz := by have := HG.out; injection this with a b; exact ⟨a, b⟩
  have hgl : gn ≤ 1048576 := by rw [hgo.1]; exact hRl
  clear hy y0 y1
  have hX9 := hX8.trans hx9
  have hx59 := hx6'.trans (hx68.trans hx9)
  go_wp2_with fail
  refine (c_eqReadingS _ _ _ _ _ _ gl _ (hgo.slice reading_len hgc hgm) (hsp.ext hx59)).mono ?_
  rintro e w10 ⟨rfl, hx10⟩
  have hX10 := hX9.trans hx10
  have hx610 := hx68.trans (hx9.trans hx10)
  obtain ⟨hlt, x0, x1⟩ := hin.ext hX10
  obtain ⟨hy, y0, y1⟩ := hinX.ext hx610
  go_wp2_with fail
  refine wp_region_ph [([0, 1], 2), ([], 3)] [4] (by kernel_rfl) (by kernel_rfl) (by intro c a w d v h; cases d <;> exact h) ?_
  simp only [wpPh, pickL, nthO]
  repeat (go_big_quiet_step (fail))
  refine wpQuiet_nil ?_
  have xb10 := hX10.box.drew
  go_wp2_with fail
  refine (c_toNetwork A1 A2 n1 c1 n2 c2 ns ps _ (h1.ext xb10) (h2.ext xb10) m1 m2).mono ?_
  rintro e w11 ⟨j1, j2, rfl, _, _, t1, t2, hx11⟩
  have hxd11 : Ext w10 w11 := (Ext.refl _).drew.trans hx11
  have hx611 := hx610.box.trans hxd11
  go_wp2_with fail
  refine ⟨hx11, wpQuiet_nil ?_⟩
  go_wp2_with fail
  refine (c_eqNetwork _ _ _ _ _ _ _ _ _ _ _ _ ns ps _ ((u1.ext hx611).slice node_len rfl (by omega)) ((u2.ext hx611).slice pipe_len rfl (by omega)) (t1.slice node_len rfl (by omega)) (t2.slice pipe_len rfl (by omega))).mono ?_
  rintro e w12 ⟨rfl, hx12⟩
  have hx1012 : Ext w10 w12 := hxd11.trans hx12
  clear hlt x0 x1 hy y0 y1
  go_wp2_with fail
  refine ⟨hx12, ?_⟩
  repeat (go_big_quiet_step (fail))
  refine wpQuiet_nil ?_
  have hX12 := hX10.trans hx1012
  go_wp2_with fail
  refine (c_toContractS A n c xs _ (hs.ext hX12.box) m3).mono ?_
  rintro e w13 ⟨j3, rfl, _, t3, hx13⟩
  have hx713 : Ext w7 w13 := hx8.trans (hx9.trans (hx10.trans (hx1012.trans hx13)))
  go_wp2_with fail
  refine (c_eqContractS _ _ _ _ _ _ xs _ ((u3.ext hx713).slice contract_len rfl (by omega)) (t3.slice contract_len rfl (by omega))).mono ?_
  rintro e w14 ⟨rfl, hx14⟩
  have hX14 := hX12.trans (hx13.trans hx14)
  go_wp2_with fail
  refine (c_toNominationS B m d L _ (hL.ext hX14.box) m4).mono ?_
  rintro e w15 ⟨j4, rfl, _, t4, hx15⟩
  have hx815 : Ext w8 w15 := hx9.trans (hx10.trans (hx1012.trans (hx13.trans (hx14.trans hx15))))
  go_wp2_with fail
  refine (c_eqNominationS _ _ _ _ _ _ L _ ((u4.ext hx815).slice nomination_len rfl (by omega)) (t4.slice nomination_len rfl (by omega))).mono ?_
  rintro e w16 ⟨rfl, hx16⟩
  have hX16 := hX14.trans (hx15.trans hx16)
  have hx816 := hx815.trans hx16
  have hx616 := hx68.trans hx816
  have hx716 := hx8.trans hx816
  obtain ⟨hy, y0, y1⟩ := hinX.ext hx616
  have zz5 := hX5.size
  have zz6 := hx6.size
  have zz7 := hx7.size
  have zz8 := hx8.size
  have zz9 := hx9.size
  have lp1 := u1.lt
  have lp2 := u2.lt
  have lp3 := u3.lt
  have lp4 := u4.lt
  simp at zz5 zz7 hp1 hp3
  go_wp2_with fail
  refine (c_markNetwork _ _ _ _ _ _ ns ps 1 _ ((u1.ext hx616.box).toA rfl (Nat.le_refl _) (by omega)) ((u2.ext hx616.box).toA rfl (Nat.le_refl _) (by omega)) (fun b hb hb' => by have := blk_is hb; have := blk_is hb'; omega) l1 l2 (by omega) (by omega)).mono ?_
  rintro e w17 ⟨rfl, _, _, tr17⟩
  clear hy y0 y1
  have sb17 : ∀ b, (blkOf (some ⟨p1, 0, none⟩) ns.length = some b ∨ blkOf (some ⟨p2, 0, none⟩) ps.length = some b) → b = p1 ∨ b = p2 := fun b hb => by
    rcases hb with hb | hb
    · exact .inl (blk_is hb)
    · exact .inr (blk_is hb)
  go_wp2_with fail
  refine (m_markContractS _ _ _ xs _ _ (((u3.ext hx716).toA rfl (Nat.le_refl _) (by omega)).turn tr17 (fun b hb hS => by have := blk_is hb; have := sb17 b hS; omega)) (by omega) (by omega) (by omega)).mono ?_
  rintro e w18 ⟨rfl, _, tr18⟩
  have sb18 : ∀ b, blkOf (some ⟨p3, 0, none⟩) xs.length = some b → b = p3 := fun b hb => blk_is hb
  go_wp2_with fail
  refine (m_markNominationS _ _ _ L _ _ ((((u4.ext hx816).toA rfl (Nat.le_refl _) (by omega)).turn tr17 (fun b hb hS => by have := blk_is hb; have := sb17 b hS; omega)).turn tr18 (fun b hb hS => by have := blk_is hb; have := sb18 b hS; omega)) (by omega) (by omega) (by omega)).mono ?_
  rintro e w19 ⟨rfl, _, tr19⟩
  have sb19 : ∀ b, blkOf (some ⟨p4, 0, none⟩) L.length = some b → b = p4 := fun b hb => blk_is hb
  have tr := Turn.three tr17 tr18 tr19
  have sbt : ∀ b, (((blkOf (some ⟨p1, 0, none⟩) ns.length = some b ∨ blkOf (some ⟨p2, 0, none⟩) ps.length = some b) ∨ blkOf (some ⟨p3, 0, none⟩) xs.length = some b) ∨ blkOf (some ⟨p4, 0, none⟩) L.length = some b) → b = p1 ∨ b = p2 ∨ b = p3 ∨ b = p4 := fun b hb => by
    rcases hb with (hb | hb) | hb
    · have := sb17 b hb; omega
    · have := sb18 b hb; omega
    · have := sb19 b hb; omega
  have hX19 := hX16.turn tr (fun b hb => by have := sbt b hb; simp; omega)
  have hgo19 := (hgo.ext (hx10.trans (hx1012.trans (hx13.trans (hx14.trans (hx15.trans hx16)))))).turn tr (fun hb => by have := sbt _ hb; omega)
  have hsp19 := (hsp.ext (hx59.trans (hx10.trans (hx1012.trans (hx13.trans (hx14.trans (hx15.trans hx16))))))).turn tr (fun b hb hS => by have := hsp.blk hb; have := sbt b hS; omega)
  have hk0 : decide ((1 : Int) + 3 * (ns.length : Int) + 5 * (ps.length : Int) + 8 * (xs.length : Int) + 4 * (L.length : Int) < 0) = false := by rw [decide_eq_false_iff_not]; omega
  go_wp2_with fail
  refine (c_eqReadingS _ _ _ _ _ _ gl _ (hgo19.slice reading_len hgc hgm) hsp19).mono ?_
  rintro e w20 ⟨rfl, hx20⟩
  go_wp2_with fail
  obtain ⟨mk, HMK⟩ : ∃ mk, Hid ((1 : Int) + 2 * (gn : Int) = mk) := ⟨_, hide rfl⟩
  have hm0 : ¬ mk < 0 := by rw [← HMK.out]; omega
  refine (c_markReadingS gg _ _ gc gl 1 _ (hgo19.ext hx20) (by omega) hgc hgm (by omega) (by omega)).mono ?_
  rintro e w21 ⟨he21, hmk, hon⟩
  rw [HMK.out] at he21
  subst he21
  have hX21 := (hX19.trans hx20).onlyz hon (by simp; omega)
  have hsp21 := (hsp19.ext hx20).onlyB hon (fun b hb => by have := hsp.blk hb; omega)
  go_wp2_with fail
  refine (c_heldReadingS _ _ gc 1 _ (hmk.slice reading_len hgc hgm) (by omega) (by omega) (by omega)).mono ?_
  rw [HMK.out]
  rintro e w' ⟨rfl, rfl⟩
  clear hk0
  obtain ⟨hlt, x0, x1⟩ := hin.ext hX21
  go_wp2_with fail
  refine (c_toNetwork A1 A2 n1 c1 n2 c2 ns ps _ (h1.ext hX21.box) (h2.ext hX21.box) m1 m2).mono ?_
  rintro e w22 ⟨k1, k2, rfl, _, _, v1, v2, hx22⟩
  clear hlt x0 x1
  go_wp2_with fail
  refine (c_toContractS A n c xs _ (hs.ext (hX21.box.trans hx22)) m3).mono ?_
  rintro e w23 ⟨k3, rfl, _, v3, hx23⟩
  go_wp2_with fail
  refine (c_toNominationS B m d L _ (hL.ext ((hX21.box.trans hx22).trans hx23)) m4).mono ?_
  rintro e w24 ⟨k4, rfl, _, v4, hx24'⟩
  have hx2224 := hx23.trans hx24'
  go_wp2_with fail
  refine (c_PlannedReadings _ _ _ _ _ _ ns ps _ _ _ xs _ _ _ L h _ ((v1.ext hx2224).slice node_len rfl (by omega)) ((v2.ext hx2224).slice pipe_len rfl (by omega)) ((v3.ext hx24').slice contract_len rfl (by omega)) (v4.slice nomination_len rfl (by omega))).mono ?_
  rw [HR.out]
  rintro e w25 ⟨J, jn, jc, jg, jl, jz, rfl, hjc, hjm, hjg, hjo, hx25, HJ⟩
  obtain ⟨rfl, rfl⟩ : jl = gl ∧ jz = gz := by have := HJ.out; injection this with a b; exact ⟨a, b⟩
  have hx2125 := hx22.trans (hx2224.trans hx25)
  go_wp2_with fail
  refine (c_eqReadingS _ _ _ _ _ _ jl _ (hjo.slice reading_len hjc hjm) (hsp21.ext hx2125)).mono ?_
  rintro e w26 ⟨rfl, hx26⟩
  have hx2126 := hx2125.trans hx26
  go_wp2_with fail
  refine (c_heldReadingS _ _ gc 1 _ ((hmk.ext hx2126).slice reading_len hgc hgm) (by omega) (by omega) (by omega)).mono ?_
  rw [HMK.out]
  rintro e w' ⟨rfl, rfl⟩
  go_wp2_with fail
  go_ret
  exact Ret.bool rfl (hX21.trans hx2126).box
end Go.Proofs.YtpgbmhpddgjccaaGreat
