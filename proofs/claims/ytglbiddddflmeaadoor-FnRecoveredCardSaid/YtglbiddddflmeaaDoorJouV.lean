

/-
  AppendEvent, of the program and of the reference, and the law.
-/
import Derived.Test.YtglbiddddflmeaaDoorJouN
namespace Go.Proofs.YtglbiddddflmeaaDoor
open Go.RowKit
open Go.Lib hiding intOf
def appJ (l : List UInt8) (p : Event) : List UInt8 × Int :=
  if evB p = false then ([], 1) else if 20000 < l.length then ([], 3) else if (recS l).length = 300 then ([], 3)
  else (textL (recS l ++ [p]) 1, 0)
theorem app_text (l : List UInt8) (p : Event) : textL (recS l ++ [p]) 1 = textL (recS l) 1 ++ (lineL p (sumEs (recS l) 1) ++ [10]) := by
  rw [textL_append]; simp [textL]
set_option maxHeartbeats 1000000 in
set_option maxRecDepth 8000 in
theorem c_AppendEvent (l : List UInt8) (p : Event) (hl : l.length ≤ 1048576) (w : World) (hg : Glob w) :
    Calls Tryd.prog 25 #[.string (mkB l), .agg #[.int .i64 p.kind, .int .i64 p.a, .int .i64 p.b, .int .i64 p.c, .int .i64 p.d]] w (Ret (.tuple #[.string (mkB (appJ l p).1), .int .i64 (appJ l p).2]) w) := by
  have hsz : (mkB l).size = l.length := rfl
  have hE0 := Row.new w 38 [.int .i64 p.kind, .int .i64 p.a, .int .i64 p.b, .int .i64 p.c, .int .i64 p.d]
  have hx0 : Ext w (w.alloc (.cells #[.int .i64 p.kind, .int .i64 p.a, .int .i64 p.b, .int .i64 p.c, .int .i64 p.d] 38)) := Ext.alloc _ _
  cases hev : evB p with
  | false =>
    have HR := hide (show appJ l p = ([], 1) by unfold appJ; rw [if_pos hev])
    go_enter Tryd.func25, Tryd.ntmps25
    go_wp2_with fail
    refine (c_IsEvent p _).mono ?_
    rw [hev]
    rintro e w1 ⟨rfl, hx1⟩
    go_wp2_with fail
    exact bodyPost_ret (v := .tuple #[.string ⟨#[]⟩, .int .i64 1]) (by simp [results, Tryd.results25, go_sem]) rfl (Ret.of (by rw [HR.out]; rfl) (hx0.trans hx1))
  | true =>
    have HEV := hide hev
    by_cases h : 20000 < l.length
    · have HR := hide (show appJ l p = ([], 3) by unfold appJ; rw [if_neg (by simp [hev]), if_pos h])
      go_enter Tryd.func25, Tryd.ntmps25
      go_wp2_with fail
      refine (c_IsEvent p _).mono ?_
      rw [hev]
      clear hev
      rintro e w1 ⟨rfl, hx1⟩
      go_wp2_with fail
      exact bodyPost_ret (v := .tuple #[.string ⟨#[]⟩, .int .i64 3]) (by simp [results, Tryd.results25, go_sem]) rfl (Ret.of (by rw [HR.out]; rfl) (hx0.trans hx1))
    · have HRA := hide (show appJ l p = if (recS l).length = 300 then ([], 3) else (textL (recS l ++ [p]) 1, 0) by unfold appJ; rw [if_neg (by simp [hev]), if_neg h])
      have HTX := hide (app_text l p)
      have HTK := hide (recS_take l)
      have hle := recS_le l
      have hlen : (recS l).length ≤ 300 := recL_len (splitL 10 l).dropLast maxEv 1
      have hsb := sumEs_bound (recS l) 1 (by omega) (by omega)
      go_enter Tryd.func25, Tryd.ntmps25
      go_wp2_with fail
      refine (c_IsEvent p _).mono ?_
      rw [hev]
      clear hev
      rintro e w1 ⟨rfl, hx1⟩
      have hE1 := hE0.ext hx1
      have hX1 := hx0.trans hx1
      clear hE0 hx0 hx1
      go_wp2_with fail
      refine (c_readJournal l hl _ (hg.ext hX1)).mono ?_
      rintro e w2 ⟨A, c, rfl, _, _, hx2⟩
      generalize hes : recS l = es at *
      generalize htx : textL es 1 = tx at *
      generalize hsm : sumEs es 1 = sm at *
      obtain ⟨n, hn⟩ : ∃ n, es.length = n := ⟨_, rfl⟩
      rw [hn] at hlen HRA ⊢
      clear hn hes htx hsm
      have hE2 := (hE1.ext hx2).ext (Ext.alloc w2 (.cells #[.slice A n c, .int .i64 (tx.length : Int), .int .i64 sm] 68))
      have hJ := Row.new w2 68 [.slice A n c, .int .i64 (tx.length : Int), .int .i64 sm]
      have hX2 := (hX1.trans hx2).and_alloc (.cells #[.slice A n c, .int .i64 (tx.length : Int), .int .i64 sm] 68)
      by_cases h300 : n = 300
      · subst h300
        have HR := hide (show appJ l p = ([], 3) by rw [HRA.out, if_pos rfl])
        go_wp2_with fail
        exact bodyPost_ret (v := .tuple #[.string ⟨#[]⟩, .int .i64 3]) (by simp [results, Tryd.results25, go_sem]) rfl (Ret.of (by rw [HR.out]; rfl) hX2)
      · have HR := hide (show appJ l p = (tx ++ (lineL p sm ++ [10]), 0) by rw [HRA.out, if_neg h300, HTX.out])
        have h3b : ((n : Int) == 300) = false := by rw [beq_eq_false_iff_ne]; omega
        have e0 := hE2.cell 0
        have e1 := hE2.cell 1
        have e2 := hE2.cell 2
        have e3 := hE2.cell 3
        have e4 := hE2.cell 4
        have el := hE2.lt
        simp only [List.getElem?_cons_zero, List.getElem?_cons_succ] at e0 e1 e2 e3 e4
        go_wp2_with fail
        refine (c_eventLine p sm _ HEV.out hsb.1 hsb.2 (hg.ext hX2).toJ).mono ?_
        rintro e w5 ⟨rfl, hx5⟩
        have hJ5 := hJ.ext hx5
        have j0 := hJ5.cell 0
        have j1 := hJ5.cell 1
        have j2 := hJ5.cell 2
        have jl := hJ5.lt
        simp only [List.getElem?_cons_zero, List.getElem?_cons_succ] at j0 j1 j2
        have hls := lineL_small p sm HEV.out hsb.1 hsb.2
        have q1 : (mkB (lineL p sm ++ [10])).size ≤ 49 := by rw [mkB_size]; simp; omega
        have hex : (mkB l).extract 0 tx.length = mkB tx := by rw [mkB_extract, List.drop_zero, Nat.sub_zero, HTK.out]
        have q2 : (mkB tx).size ≤ 20000 := by rw [mkB_size]; omega
        have HCT := hide (mkB_append tx (lineL p sm ++ [10]))
        go_wp2_with fail
        rw [HCT.out]
        exact bodyPost_ret (v := .tuple #[.string (mkB (tx ++ (lineL p sm ++ [10]))), .int .i64 0]) (by simp [results, Tryd.results25, go_sem]) rfl (Ret.of (by rw [HR.out]) (hX2.trans hx5))
set_option maxHeartbeats 1000000 in
set_option maxRecDepth 8000 in
theorem c_specAppendEvent (l : List UInt8) (p : Event) (hl : l.length ≤ 1048576) (w : World) :
    Calls Tryd.prog 23 #[.string (mkB l), .agg #[.int .i64 p.kind, .int .i64 p.a, .int .i64 p.b, .int .i64 p.c, .int .i64 p.d]] w (Ret (.tuple #[.string (mkB (appJ l p).1), .int .i64 (appJ l p).2]) w) := by
  have hsz : (mkB l).size = l.length := rfl
  have hE0 := Row.new w 38 [.int .i64 p.kind, .int .i64 p.a, .int .i64 p.b, .int .i64 p.c, .int .i64 p.d]
  have hx0 : Ext w (w.alloc (.cells #[.int .i64 p.kind, .int .i64 p.a, .int .i64 p.b, .int .i64 p.c, .int .i64 p.d] 38)) := Ext.alloc _ _
  cases hev : evB p with
  | false =>
    have HR := hide (show appJ l p = ([], 1) by unfold appJ; rw [if_pos hev])
    go_enter Tryd.func23, Tryd.ntmps23
    go_wp2_with fail
    refine (c_specIsEvent p _).mono ?_
    rw [hev]
    rintro e w1 ⟨rfl, hx1⟩
    go_wp2_with fail
    exact bodyPost_ret (v := .tuple #[.string ⟨#[]⟩, .int .i64 1]) (by simp [results, Tryd.results23, go_sem]) rfl (Ret.of (by rw [HR.out]; rfl) (hx0.trans hx1))
  | true =>
    have HEV := hide hev
    by_cases h : 20000 < l.length
    · have HR := hide (show appJ l p = ([], 3) by unfold appJ; rw [if_neg (by simp [hev]), if_pos h])
      go_enter Tryd.func23, Tryd.ntmps23
      go_wp2_with fail
      refine (c_specIsEvent p _).mono ?_
      rw [hev]
      clear hev
      rintro e w1 ⟨rfl, hx1⟩
      go_wp2_with fail
      exact bodyPost_ret (v := .tuple #[.string ⟨#[]⟩, .int .i64 3]) (by simp [results, Tryd.results23, go_sem]) rfl (Ret.of (by rw [HR.out]; rfl) (hx0.trans hx1))
    · have HRA := hide (show appJ l p = if (recS l).length = 300 then ([], 3) else (textL (recS l ++ [p]) 1, 0) by unfold appJ; rw [if_neg (by simp [hev]), if_neg h])
      have hlen : (recS l).length ≤ 300 := recL_len (splitL 10 l).dropLast maxEv 1
      have HVA := hide (show ∀ e ∈ recS l, evB e = true from fun e he => recL_valid (splitL 10 l).dropLast maxEv 1 e he)
      go_enter Tryd.func23, Tryd.ntmps23
      go_wp2_with fail
      refine (c_specIsEvent p _).mono ?_
      rw [hev]
      clear hev
      rintro e w1 ⟨rfl, hx1⟩
      have hE1 := hE0.ext hx1
      have hX1 := hx0.trans hx1
      clear hE0 hx0 hx1
      go_wp2_with fail
      refine (c_l32Recover l hl _).mono ?_
      rintro e w2 ⟨A, c, rfl, _, ⟨_, ho⟩, hx2⟩
      have ho2 := OwnL.low ho hX1.size
      generalize (textL (recS l) 1).length = tl at *
      generalize hes : recS l = es at *
      obtain ⟨n, hn⟩ : ∃ n, es.length = n := ⟨_, rfl⟩
      rw [hn] at hlen HRA ho2 ⊢
      have HN := hide hn
      clear hn hes ho
      have hX2 := hX1.trans hx2
      by_cases h300 : n = 300
      · subst h300
        have HR := hide (show appJ l p = ([], 3) by rw [HRA.out, if_pos rfl])
        go_wp2_with fail
        exact bodyPost_ret (v := .tuple #[.string ⟨#[]⟩, .int .i64 3]) (by simp [results, Tryd.results23, go_sem]) rfl (Ret.of (by rw [HR.out]; rfl) hX2)
      · have HR := hide (show appJ l p = (textL (es ++ [p]) 1, 0) by rw [HRA.out, if_neg h300])
        have h3b : ((n : Int) == 300) = false := by rw [beq_eq_false_iff_ne]; omega
        have hE2 := hE1.ext hx2
        have e0 := hE2.cell 0
        have e1 := hE2.cell 1
        have e2 := hE2.cell 2
        have e3 := hE2.cell 3
        have e4 := hE2.cell 4
        have el := hE2.lt
        have hlen2 : es.length ≤ 300 := by rw [HN.out]; exact hlen
        simp only [List.getElem?_cons_zero, List.getElem?_cons_succ] at e0 e1 e2 e3 e4
        go_wp2_with (at_builtin; go_must (refine wpList_append_one rfl _ _ 26 rfl w.heap.size 38 _ 5 40 Tryd.underlying26 event_info rfl (by decide) Event.cells event_len event_one _ _ rfl (ho2.ext (Ext.alloc _ _)) _ p rfl _ rfl (by first | rfl | simp) (by omega) (by omega) (by first | omega | (simp; omega)) ?_))
        intro v3 w3 ho3 hext3
        have hx3 := hext3 w (Nat.le_refl _) (hX2.and_alloc _)
        obtain ⟨A3, c3, rfl, hoA3, _⟩ := ho3.toOwn event_len (by omega)
        have hs3 := hoA3.slice event_len
        rw [List.length_append, List.length_singleton] at hs3 ⊢
        clear hoA3 ho3
        go_wp2_with fail
        refine (c_l32Text A3 (es.length + 1) c3 (es ++ [p]) w3 hs3 (fun e he => by
          rcases List.mem_append.1 he with he | he
          · exact HVA.out e he
          · rw [List.mem_singleton.1 he]; exact HEV.out) (by omega)).mono ?_
        rintro e w4 ⟨rfl, hx4⟩
        go_wp2_with fail
        exact bodyPost_ret (v := .tuple #[.string (mkB (textL (es ++ [p]) 1)), .int .i64 0]) (by simp [results, Tryd.results23, go_sem]) rfl (Ret.of (by rw [HR.out]) (hx3.trans hx4))
set_option maxHeartbeats 1000000 in
set_option maxRecDepth 8000 in
theorem law_AppendEvent (l : List UInt8) (p : Event) (w : World) (hg : Glob w) :
    Calls Tryd.prog 7 #[.string (mkB l), .agg #[.int .i64 p.kind, .int .i64 p.a, .int .i64 p.b, .int .i64 p.c, .int .i64 p.d]] w (Ret (.bool true) w) := by
  have hsz : (mkB l).size = l.length := rfl
  by_cases h : 1048576 < l.length
  · go_enter Tryd.func7, Tryd.ntmps7
    go_wp2_with fail
    go_ret
    exact Ret.bool rfl (Ext.alloc _ _)
  · have hl : l.length ≤ 1048576 := by omega
    have hE0 := Row.new w 36 [.int .i64 p.kind, .int .i64 p.a, .int .i64 p.b, .int .i64 p.c, .int .i64 p.d]
    have hx0 : Ext w (w.alloc (.cells #[.int .i64 p.kind, .int .i64 p.a, .int .i64 p.b, .int .i64 p.c, .int .i64 p.d] 36)) := Ext.alloc _ _
    go_enter Tryd.func7, Tryd.ntmps7
    go_wp2_with fail
    refine (c_toEvent p _).mono ?_
    rintro e w1 ⟨rfl, hx1⟩
    have hE1 := hE0.ext hx1
    have hX1 := hx0.trans hx1
    go_wp2_with fail
    refine (c_specAppendEvent l p hl _).mono ?_
    rintro e w2 ⟨rfl, hx2⟩
    have hE2 := hE1.ext hx2
    have hX2 := hX1.trans hx2
    have e0 := hE2.cell 0
    have e1 := hE2.cell 1
    have e2 := hE2.cell 2
    have e3 := hE2.cell 3
    have e4 := hE2.cell 4
    have el := hE2.lt
    simp only [List.getElem?_cons_zero, List.getElem?_cons_succ] at e0 e1 e2 e3 e4
    clear hE0 hx0 hx1 hE1 hx2
    go_wp2_with fail
    refine (c_toEvent p _).mono ?_
    rintro e w3 ⟨rfl, hx3⟩
    have hX3 := hX2.trans hx3
    clear e0 e1 e2 e3 e4 el hE2
    go_wp2_with fail
    refine (c_AppendEvent l p hl _ (hg.ext hX3)).mono ?_
    rintro e w4 ⟨rfl, hx4⟩
    go_wp2_with fail
    go_ret
    exact Ret.bool rfl (hX3.trans hx4)
end Go.Proofs.YtglbiddddflmeaaDoor
