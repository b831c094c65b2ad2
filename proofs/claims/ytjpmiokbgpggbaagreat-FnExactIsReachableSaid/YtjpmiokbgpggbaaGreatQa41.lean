/-
  AcceptNomination of the reference.
-/
import Derived.Test.YtjpmiokbgpggbaaGreatQa40
namespace Go.Proofs.YtjpmiokbgpggbaaGreat
open Go.RowKit
set_option maxHeartbeats 8000000 in
theorem c_specAcceptNomination (A1 A2 : Option Addr) (n1 c1 n2 c2 : Nat) (ns : List Node) (ps : List Pipe) (A : Option Addr) (n c : Nat) (xs : List Contract) (B : Option Addr) (m d : Nat) (L : List Nomination) (w : World) (hs1 : SliceOf w 3 Node.cells A1 n1 c1 ns) (hs2 : SliceOf w 5 Pipe.cells A2 n2 c2 ps) (hs : SliceOf w 8 Contract.cells A n c xs) (hL : SliceOf w 4 Nomination.cells B m d L) (hnm : ∀ x ∈ ns, x.name.size ≤ 1048576) (x : Nomination) :
    Calls Tryz.prog 77 #[.agg #[.slice A1 n1 c1, .slice A2 n2 c2], .slice A n c, .slice B m d, .agg #[.int .i64 x.contract, .int .i64 x.hour, .int .i64 x.sent, .int .i64 x.amount]] w (RetS 70 Nomination.cells (accR n1 ns ps xs L x) w) := by
  have x0 : Ext w ((w.alloc (.cells #[.slice A1 n1 c1, .slice A2 n2 c2] 27)).alloc (.cells #[.int .i64 x.contract, .int .i64 x.hour, .int .i64 x.sent, .int .i64 x.amount] 70)) := (Ext.alloc _ _).and_alloc _
  have hin : NomIn ((w.alloc (.cells #[.slice A1 n1 c1, .slice A2 n2 c2] 27)).alloc (.cells #[.int .i64 x.contract, .int .i64 x.hour, .int .i64 x.sent, .int .i64 x.amount] 70)) (w.heap.size + 1) x := by have h := NomIn.new (w.alloc (.cells #[.slice A1 n1 c1, .slice A2 n2 c2] 27)) x 70; rw [World.size_alloc] at h; exact h
  have hmm := hL.max
  have hcap := hL.cap
  have HLn := hide hL.len
  have HNM := hide hnm
  clear hnm
  go_enter Tryz.func77, Tryz.ntmps77
  go_wp2_with fail
  refine (c_l21Code A1 A2 n1 c1 n2 c2 ns ps A n c xs B m d L _ (hs1.ext x0) (hs2.ext x0) (hs.ext x0) (hL.ext x0) HNM.out).mono ?_
  by_cases hz : nomC n1 ns ps xs L = 0
  case neg =>
    have hz1 : (nomC n1 ns ps xs L != 0) = true := by simpa using hz
    have HR := hide (show accR n1 ns ps xs L x = ([], nomC n1 ns ps xs L) by unfold accR; rw [if_pos hz])
    clear hz
    generalize nomC n1 ns ps xs L = Z at *
    rintro e w1 ⟨rfl, hx1⟩
    go_wp2_with fail
    go_ret2
    exact RetS.nil_ HR.out (x0.trans hx1)
  obtain ⟨hbk, h200, hall⟩ := nomC_facts hz
  have HR1 := hide (show accR n1 ns ps xs L x = if nomB xs x = false then ([], 2) else if accB xs L x = false then ([], 7) else if L.length = 200 then ([], 3) else (L ++ [x], 0) by unfold accR; rw [if_neg (by simpa using hz)])
  rw [hz]
  clear hz
  rintro e w1 ⟨rfl, hx1⟩
  obtain ⟨hy, y0, y1, y2, y3⟩ := hin.ext hx1
  have hok := book_hours hbk
  have hm200 : m ≤ 200 := by rw [HLn.out]; exact h200
  have HALL := hide hall
  have HBK := hide hbk
  clear hall hbk
  go_wp2_with fail
  refine (c_l21Is A n c xs x _ (hs.ext (x0.trans hx1)) hok).mono ?_
  cases hb : nomB xs x
  · have HR := hide (show accR n1 ns ps xs L x = ([], 2) by rw [HR1.out, if_pos hb])
    rintro e w2 ⟨rfl, hx2⟩
    go_wp2_with fail
    go_ret2
    exact RetS.nil_ HR.out (x0.trans (hx1.trans hx2))
  have HR2 := hide (show accR n1 ns ps xs L x = if accB xs L x = false then ([], 7) else if L.length = 200 then ([], 3) else (L ++ [x], 0) by rw [HR1.out, if_neg (by simp [hb])])
  have HB := hide hb
  clear hb
  rintro e w2 ⟨rfl, hx2⟩
  clear hy y0 y1 y2 y3
  have hx12 := hx1.trans hx2
  obtain ⟨hy, y0, y1, y2, y3⟩ := hin.ext hx12
  go_wp2_with fail
  refine (c_l21Acceptable A n c xs B m d L _ (hs.ext (x0.trans hx12)) (hL.ext (x0.trans hx12)) x n1 HBK.out HALL.out HB.out h200).mono ?_
  cases ha : accB xs L x
  · have HR := hide (show accR n1 ns ps xs L x = ([], 7) by rw [HR2.out, if_pos ha])
    rintro e w3 ⟨rfl, hx3⟩
    go_wp2_with fail
    go_ret2
    exact RetS.nil_ HR.out (x0.trans (hx12.trans hx3))
  have HR3 := hide (show accR n1 ns ps xs L x = if L.length = 200 then ([], 3) else (L ++ [x], 0) by rw [HR2.out, if_neg (by simp [ha])])
  clear ha
  rintro e w3 ⟨rfl, hx3⟩
  clear hy y0 y1 y2 y3
  have hx13 := hx12.trans hx3
  have hx03 := x0.trans hx13
  obtain ⟨hy, y0, y1, y2, y3⟩ := hin.ext hx13
  by_cases h2 : m = 200
  · have HR := hide (show accR n1 ns ps xs L x = ([], 3) by rw [HR3.out, if_pos (by rw [← HLn.out]; exact h2)])
    subst h2
    go_wp2_with fail
    go_ret2
    exact RetS.nil_ HR.out hx03
  have HR4 := hide (show accR n1 ns ps xs L x = (L ++ [x], 0) by rw [HR3.out, if_neg (by rw [← HLn.out]; exact h2)])
  have hLL : L.length ≤ 200 := h200
  go_wp2_with fail
  refine wp_region_phT [(w.heap.size + 1, 0), (w.heap.size + 1, 1), (w.heap.size + 1, 2), (w.heap.size + 1, 3)] (.two [1, 3] 0 (.two [] 2 (.one [] 4 (.one [] 5 (.last [6, 7]))) 4 (.one [] 2 (.one [] 5 (.last [6, 7])))) 4 (.one [] 0 (.one [] 2 (.one [] 5 (.last [6, 7]))))) (by kernel_rfl) (by kernel_rfl) (by intro c a w d v h; cases d <;> exact h) ?_
  simp only [wpPhT, pickL, nthO]
  repeat (go_big_quiet_step (fail))
  refine wpQuiet_nil ?_
  have rz : ∀ X : World, Ext w3 X → SameC [(w.heap.size + 1, 0), (w.heap.size + 1, 1), (w.heap.size + 1, 2), (w.heap.size + 1, 3)] w3 X := fun X hX => SameC.of_ext hX (by simp; omega)
  refine ⟨?_, ?_⟩
  · go_wp2_with fail
    have hXa : Ext w3 (w3.alloc (.cells #[] 70)).drew := (Ext.alloc _ _).drew
    have on0 : OwnL (w3.alloc (.cells #[] 70)) w3.heap.size 70 4 Nomination.cells (.slice (some ⟨w3.heap.size, 0, none⟩) 0 0) [] := OwnL.empty w3 _ _ _ _ (Nat.le_refl _)
    refine ⟨rz _ hXa, wpQuiet_nil ⟨?_, ?_⟩⟩
    · go_wp2_with (at_builtin; go_must (refine wpList_append_grow rfl _ _ 29 rfl w3.heap.size 70 _ 4 32 Tryz.underlying29 nomination_info rfl (by decide) Nomination.cells nomination_len nomination_one (.slice (some ⟨w3.heap.size, 0, none⟩) 0 0) [] rfl (on0.ext (Ext.refl _).drew) B m d L rfl (hL.ext (hx03.trans hXa)) (by simp; omega) (by omega) (by first | exact Nat.le_refl _ | omega | (simp; done) | (simp; omega)) ?_))
      intro v4 w4 o4 g4
      have hx34 := hXa.grown g4 (fun k hk => on0.block_le hk)
      have hz4 := hx34.size
      go_wp2_with fail
      refine ⟨rz _ hx34, wpQuiet_nil ?_⟩
      go_wp2_with fail
      refine ⟨rz _ (hx34.and_alloc _), wpQuiet_nil ?_⟩
      go_wp2_with (at_builtin; go_must (refine wpList_append_grow rfl _ _ 29 rfl w3.heap.size 70 _ 4 32 Tryz.underlying29 nomination_info rfl (by decide) Nomination.cells nomination_len nomination_one v4 ([] ++ L) rfl (o4.ext (Ext.alloc _ _)) (some ⟨w4.heap.size, 0, none⟩) 1 1 [x] rfl (nom_one_slice (Row.new w4 70 [.int .i64 x.contract, .int .i64 x.hour, .int .i64 x.sent, .int .i64 x.amount])) (by simp; omega) (by omega) (by first | exact Nat.le_refl _ | omega | (simp; done) | (simp; omega)) ?_))
      intro v5 w5 o5 g5
      have hx35 : Ext w3 w5 := (hx34.and_alloc _).grown g5 (fun k hk => o4.block_le hk)
      have o5' : OwnL w5 w3.heap.size 70 4 Nomination.cells v5 (L ++ [x]) := by simpa using o5
      obtain ⟨A', c', g, rfl, hg, hnc, hcm, ho⟩ := o5'.own nomination_len (by omega)
      clear o5
      go_wp2_with fail
      refine ⟨SameC.of_ext hx35 (by simp; omega), ?_⟩
      repeat (go_big_quiet_step (fail))
      refine wpQuiet_nil ?_
      go_wp2_with fail
      go_ret2
      rw [HR4.out]
      exact ⟨A', _, c', g, rfl, hnc, hcm, by have := hx03.size; omega, ho, hx03.trans hx35⟩
    · go_wp2_with fail
      have hXb : Ext w3 ((w3.alloc (.cells #[] 70)).alloc (.cells #[.int .i64 x.contract, .int .i64 x.hour, .int .i64 x.sent, .int .i64 x.amount] 70)).drew := ((Ext.alloc _ _).and_alloc _).drew
      have rx : Row ((w3.alloc (.cells #[] 70)).alloc (.cells #[.int .i64 x.contract, .int .i64 x.hour, .int .i64 x.sent, .int .i64 x.amount] 70)).drew (w3.heap.size + 1) 70 [.int .i64 x.contract, .int .i64 x.hour, .int .i64 x.sent, .int .i64 x.amount] := by have h := (Row.new (w3.alloc (.cells #[] 70)) 70 [.int .i64 x.contract, .int .i64 x.hour, .int .i64 x.sent, .int .i64 x.amount]).drew; rw [World.size_alloc] at h; exact h
      refine ⟨rz _ hXb, wpQuiet_nil ?_⟩
      go_wp2_with (at_builtin; go_must (refine wpList_append_grow rfl _ _ 29 rfl w3.heap.size 70 _ 4 32 Tryz.underlying29 nomination_info rfl (by decide) Nomination.cells nomination_len nomination_one (.slice (some ⟨w3.heap.size, 0, none⟩) 0 0) [] rfl (on0.ext (Ext.alloc _ _).drew) B m d L rfl (hL.ext (hx03.trans hXb)) (by simp; omega) (by omega) (by first | exact Nat.le_refl _ | omega | (simp; done) | (simp; omega)) ?_))
      intro v4 w4 o4 g4
      have hx34 := hXb.grown g4 (fun k hk => on0.block_le hk)
      have hz4 := hx34.size
      have rx4 := rx.only (Only.of_grown g4) (by first | (simp; done) | (simp; omega) | omega)
      go_wp2_with fail
      refine ⟨rz _ hx34, wpQuiet_nil ?_⟩
      go_wp2_with (at_builtin; go_must (refine wpList_append_grow rfl _ _ 29 rfl w3.heap.size 70 _ 4 32 Tryz.underlying29 nomination_info rfl (by decide) Nomination.cells nomination_len nomination_one v4 ([] ++ L) rfl (o4) (some ⟨w3.heap.size + 1, 0, none⟩) 1 1 [x] rfl (nom_one_slice rx4) (by simp; omega) (by omega) (by first | exact Nat.le_refl _ | omega | (simp; done) | (simp; omega)) ?_))
      intro v5 w5 o5 g5
      have hx35 : Ext w3 w5 := hx34.grown g5 (fun k hk => o4.block_le hk)
      have o5' : OwnL w5 w3.heap.size 70 4 Nomination.cells v5 (L ++ [x]) := by simpa using o5
      obtain ⟨A', c', g, rfl, hg, hnc, hcm, ho⟩ := o5'.own nomination_len (by omega)
      clear o5
      go_wp2_with fail
      refine ⟨SameC.of_ext hx35 (by simp; omega), ?_⟩
      repeat (go_big_quiet_step (fail))
      refine wpQuiet_nil ?_
      go_wp2_with fail
      go_ret2
      rw [HR4.out]
      exact ⟨A', _, c', g, rfl, hnc, hcm, by have := hx03.size; omega, ho, hx03.trans hx35⟩
  · go_wp2_with fail
    have hXa : Ext w3 (w3.alloc (.cells #[.int .i64 x.contract, .int .i64 x.hour, .int .i64 x.sent, .int .i64 x.amount] 70)).drew := (Ext.alloc _ _).drew
    refine ⟨rz _ hXa, wpQuiet_nil ?_⟩
    go_wp2_with fail
    have hXb : Ext w3 ((w3.alloc (.cells #[.int .i64 x.contract, .int .i64 x.hour, .int .i64 x.sent, .int .i64 x.amount] 70)).alloc (.cells #[] 70)).drew := ((Ext.alloc _ _).and_alloc _).drew
    have on0 : OwnL ((w3.alloc (.cells #[.int .i64 x.contract, .int .i64 x.hour, .int .i64 x.sent, .int .i64 x.amount] 70)).alloc (.cells #[] 70)).drew w3.heap.size 70 4 Nomination.cells (.slice (some ⟨w3.heap.size + 1, 0, none⟩) 0 0) [] := (own_new (w3.alloc (.cells #[.int .i64 x.contract, .int .i64 x.hour, .int .i64 x.sent, .int .i64 x.amount] 70)) _ _ _ _ _ (by simp) (by simp)).ext (Ext.refl _).drew
    have rx : Row ((w3.alloc (.cells #[.int .i64 x.contract, .int .i64 x.hour, .int .i64 x.sent, .int .i64 x.amount] 70)).alloc (.cells #[] 70)).drew w3.heap.size 70 [.int .i64 x.contract, .int .i64 x.hour, .int .i64 x.sent, .int .i64 x.amount] := ((Row.new w3 70 [.int .i64 x.contract, .int .i64 x.hour, .int .i64 x.sent, .int .i64 x.amount]).alloc _).drew
    refine ⟨rz _ hXb, wpQuiet_nil ?_⟩
    go_wp2_with (at_builtin; go_must (refine wpList_append_grow rfl _ _ 29 rfl w3.heap.size 70 _ 4 32 Tryz.underlying29 nomination_info rfl (by decide) Nomination.cells nomination_len nomination_one (.slice (some ⟨w3.heap.size + 1, 0, none⟩) 0 0) [] rfl (on0) B m d L rfl (hL.ext (hx03.trans hXb)) (by simp; omega) (by omega) (by first | exact Nat.le_refl _ | omega | (simp; done) | (simp; omega)) ?_))
    intro v4 w4 o4 g4
    have hx34 := hXb.grown g4 (fun k hk => on0.block_le hk)
    have hz4 := hx34.size
    have rx4 := rx.only (Only.of_grown g4) (by first | (simp; done) | (simp; omega) | omega)
    go_wp2_with fail
    refine ⟨rz _ hx34, wpQuiet_nil ?_⟩
    go_wp2_with (at_builtin; go_must (refine wpList_append_grow rfl _ _ 29 rfl w3.heap.size 70 _ 4 32 Tryz.underlying29 nomination_info rfl (by decide) Nomination.cells nomination_len nomination_one v4 ([] ++ L) rfl (o4) (some ⟨w3.heap.size, 0, none⟩) 1 1 [x] rfl (nom_one_slice rx4) (by simp; omega) (by omega) (by first | exact Nat.le_refl _ | omega | (simp; done) | (simp; omega)) ?_))
    intro v5 w5 o5 g5
    have hx35 : Ext w3 w5 := hx34.grown g5 (fun k hk => o4.block_le hk)
    have o5' : OwnL w5 w3.heap.size 70 4 Nomination.cells v5 (L ++ [x]) := by simpa using o5
    obtain ⟨A', c', g, rfl, hg, hnc, hcm, ho⟩ := o5'.own nomination_len (by omega)
    clear o5
    go_wp2_with fail
    refine ⟨SameC.of_ext hx35 (by simp; omega), ?_⟩
    repeat (go_big_quiet_step (fail))
    refine wpQuiet_nil ?_
    go_wp2_with fail
    go_ret2
    rw [HR4.out]
    exact ⟨A', _, c', g, rfl, hnc, hcm, by have := hx03.size; omega, ho, hx03.trans hx35⟩
end Go.Proofs.YtjpmiokbgpggbaaGreat
