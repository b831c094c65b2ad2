/-
  The pipes at a node, the other end of a pipe and the room of a pipe, of the reference, exactly. The search through a network, of the reference, exactly.
-/
import Derived.Test.YtfkpghdmljjegaaGreatVc08
import Derived.Test.YtfkpghdmljjegaaGreatVc19
import Derived.Test.YtfkpghdmljjegaaGreatVc09
namespace Go.Proofs.YtfkpghdmljjegaaGreat
open Go.RowKit
set_option maxHeartbeats 1000000 in
theorem c_l02AtX (A1 A2 : Option Addr) (n1 c1 n2 c2 : Nat) (ps : List Pipe) (w : World) (hs2 : SliceOf w 5 Pipe.cells A2 n2 c2 ps) (x : Int) (m2 : n2 ≤ 1048576) :
    Calls Tryz.prog 302 #[.agg #[.slice A1 n1 c1, .slice A2 n2 c2], .int .i64 x] w (RetI (fun E => E = atL ps x ∧ E.length ≤ n2) w) := by
  have hB := Row.new w 45 [.slice A1 n1 c1, .slice A2 n2 c2]
  have hx0 : Ext w (w.alloc (.cells #[.slice A1 n1 c1, .slice A2 n2 c2] 45)) := Ext.alloc _ _
  go_enter Tryz.func302, Tryz.ntmps302
  go_wp2_with fail
  go_loopw [5, 6] (fun v i wr => ∃ (k : Nat) (E : List Int), k ≤ n2 ∧ i = .int .i64 k ∧ E.length ≤ k ∧ Hid (E = atI ps x k) ∧ OwnL wr (w.heap.size + 1) 2 1 intC v E ∧ Ext (w.alloc (.cells #[.slice A1 n1 c1, .slice A2 n2 c2] 45)) wr) (fun _ i _ => n2 - (intOf i).toNat)
  case atStart => exact ⟨0, [], Nat.zero_le _, rfl, by simp, hide rfl, own_new (w.alloc (.cells #[.slice A1 n1 c1, .slice A2 n2 c2] 45)) (w.heap.size + 1) _ _ _ _ (by simp) (by omega), Ext.alloc _ _⟩
  case round =>
    obtain ⟨k, E, hk, rfl, hE, HE, hown, hx⟩ := hrel
    have hxz := hx.size
    have hbl := (hB.ext hx).lt
    have hb1 := (hB.ext hx).cell 1
    simp at hb1 hxz
    by_cases hlt : k < n2
    · obtain ⟨b, off, p, rfl, hb, hxk, hc⟩ := (hs2.ext (hx0.trans hx)).get hlt
      have HK := hide hxk
      clear hxk
      have hc0 := hc 0 _ rfl
      have hc1 := hc 1 _ rfl
      clear hc
      simp only [Nat.add_zero] at hc0
      cases e0 : (p.src == x)
      · cases e1 : (p.dst == x)
        · go_wp2_with fail
          go_roundw
          case rel => exact ⟨k + 1, E, by omega, by go_num, by omega, hide (by rw [HE.out, atI_no (by unfold endB; rw [HK.out]; simp only [e0, e1]; rfl)]), hown, hx⟩
          case measure => simp [intOf]; omega
        · have HN : Hid (E ++ [(k : Int)] = atI ps x (k + 1)) := hide (by rw [HE.out, atI_yes (by unfold endB; rw [HK.out]; simp only [e0, e1]; rfl)])
          go_wp2_with (at_builtin; go_must (refine wpList_append_one rfl _ _ 24 rfl (w.heap.size + 1) 2 _ 1 8 Tryz.underlying24 int_info rfl (by decide) intC intC_len int_one' _ _ rfl (hown.ext (Ext.alloc _ _)) _ (k : Int) rfl _ rfl (by first | rfl | simp) (by omega) (by omega) (by omega) ?_))
          intro v1 w4 hown4 hext4
          have hx4 := hext4 _ (by simp) (hx.and_alloc _)
          go_wp2_with fail
          go_roundw
          case rel => exact ⟨k + 1, _, by omega, by go_num, by simp; omega, HN, hown4, hx4⟩
          case measure => simp [intOf]; omega
      · have HN : Hid (E ++ [(k : Int)] = atI ps x (k + 1)) := hide (by rw [HE.out, atI_yes (by unfold endB; rw [HK.out]; simp only [e0]; rfl)])
        go_wp2_with (at_builtin; go_must (refine wpList_append_one rfl _ _ 24 rfl (w.heap.size + 1) 2 _ 1 8 Tryz.underlying24 int_info rfl (by decide) intC intC_len int_one' _ _ rfl (hown.ext (Ext.alloc _ _)) _ (k : Int) rfl _ rfl (by first | rfl | simp) (by omega) (by omega) (by omega) ?_))
        intro v1 w4 hown4 hext4
        have hx4 := hext4 _ (by simp) (hx.and_alloc _)
        go_wp2_with fail
        go_roundw
        case rel => exact ⟨k + 1, _, by omega, by go_num, by simp; omega, HN, hown4, hx4⟩
        case measure => simp [intOf]; omega
    · obtain rfl : n2 = k := by omega
      go_wp2_with fail
      go_ret
      exact ⟨_, E, rfl, hown.lowG (by omega), hide ⟨by rw [HE.out, atL, hs2.len], hE⟩, hx0.trans hx⟩
set_option maxHeartbeats 1000000 in
theorem c_l02OtherX (A1 A2 : Option Addr) (n1 c1 n2 c2 : Nat) (ps : List Pipe) (w : World) (hs2 : SliceOf w 5 Pipe.cells A2 n2 c2 ps) (N : Nat) (hN : N ≤ 1048576) (he : EndsN N ps) (k : Nat) (p : Pipe) (hk : ps[k]? = some p) (x : Int) (hx : p.src = x ∨ p.dst = x) :
    Calls Tryz.prog 278 #[.agg #[.slice A1 n1 c1, .slice A2 n2 c2], .int .i64 k, .int .i64 x] w (Ret (.int .i64 (othE p x)) w) := by
  obtain ⟨W, HW⟩ : ∃ W, Hid ((w.alloc (.cells #[.slice A1 n1 c1, .slice A2 n2 c2] 45)) = W) := ⟨_, hide rfl⟩
  have hB : Row W w.heap.size 45 [.slice A1 n1 c1, .slice A2 n2 c2] := by rw [← HW.out]; exact Row.new w 45 [.slice A1 n1 c1, .slice A2 n2 c2]
  have hx0 : Ext w W := by rw [← HW.out]; exact Ext.alloc _ _
  have hkl : k < n2 := by rw [hs2.len]; exact (List.getElem?_eq_some_iff.1 hk).1
  obtain ⟨b, off, p', rfl, hb, hk', hc⟩ := (hs2.ext hx0).get hkl
  have hb1 := hB.cell 1
  simp at hb1
  have hbl := hB.lt
  obtain rfl : p' = p := by rw [hk] at hk'; exact (Option.some.inj hk').symm
  have hc0 := hc 0 _ rfl
  have hc1 := hc 1 _ rfl
  clear hc hk'
  simp only [Nat.add_zero] at hc0
  obtain ⟨⟨h1, h2⟩, ⟨h3, h4⟩, _⟩ := he _ (List.mem_of_getElem? hk)
  clear hk
  have e1 : IntKind.i64.wrap (p'.src + p'.dst) = p'.src + p'.dst := IntWalk.i64_in _ (by omega)
  have e2 : IntKind.i64.wrap (p'.src + p'.dst - x) = p'.src + p'.dst - x := IntWalk.i64_in _ (by rcases hx with h | h <;> omega)
  have HX := hide hx
  clear hx
  go_enter Tryz.func278, Tryz.ntmps278
  go_wp2_with fail
  rw [HW.out]
  refine wp_region_later (by kernel_rfl) (by kernel_rfl) ?_
  repeat (go_big_quiet_step (fail))
  refine wpQuiet_nil ?_
  intro w1 hx1
  go_wp2_with fail
  go_ret
  refine Ret.of ?_ (hx0.trans hx1)
  rw [oth_sum HX.out]
  rfl
theorem EndsN.ends {N : Nat} {ps : List Pipe} (h : EndsN N ps) : EndsIn N ps := fun p hp => by
  obtain ⟨⟨h1, h2⟩, ⟨h3, h4⟩, _⟩ := h p hp
  exact ⟨h1, h2, h3, h4⟩
/-- flows within the limits -/
def FlowIn (ps : List Pipe) (fl : List Int) : Prop := ∀ (k : Nat) (p : Pipe) (f : Int), ps[k]? = some p → fl[k]? = some f → -p.limit ≤ f ∧ f ≤ p.limit ∧ p.limit ≤ 30000
theorem FlowIn.rooms {ps : List Pipe} {fl : List Int} (h : FlowIn ps fl) {k : Nat} {p : Pipe} {f : Int} (hk : ps[k]? = some p) (hf : fl[k]? = some f) : IntKind.i64.wrap (p.limit - f) = p.limit - f ∧ IntKind.i64.wrap (p.limit + f) = p.limit + f := by
  have := h k p f hk hf
  exact ⟨IntWalk.i64_in _ (by omega), IntWalk.i64_in _ (by omega)⟩
set_option maxHeartbeats 1000000 in
theorem c_l23Room (A1 A2 : Option Addr) (n1 c1 n2 c2 : Nat) (ps : List Pipe) (w : World) (hs2 : SliceOf w 5 Pipe.cells A2 n2 c2 ps) (A3 : Option Addr) (n3 c3 : Nat) (fl : List Int) (hs3 : SliceOf w 1 intC A3 n3 c3 fl) (hb : FlowIn ps fl) (k : Nat) (p : Pipe) (f : Int) (hk : ps[k]? = some p) (hf : fl[k]? = some f) (x : Int) :
    Calls Tryz.prog 279 #[.agg #[.slice A1 n1 c1, .slice A2 n2 c2], .slice A3 n3 c3, .int .i64 k, .int .i64 x] w (Ret (.int .i64 (roomZ ps fl k x)) w) := by
  obtain ⟨W, HW⟩ : ∃ W, Hid ((w.alloc (.cells #[.slice A1 n1 c1, .slice A2 n2 c2] 45)) = W) := ⟨_, hide rfl⟩
  have hB : Row W w.heap.size 45 [.slice A1 n1 c1, .slice A2 n2 c2] := by rw [← HW.out]; exact Row.new w 45 [.slice A1 n1 c1, .slice A2 n2 c2]
  have hx0 : Ext w W := by rw [← HW.out]; exact Ext.alloc _ _
  have hkl : k < n2 := by rw [hs2.len]; exact (List.getElem?_eq_some_iff.1 hk).1
  have hkf : k < n3 := by rw [hs3.len]; exact (List.getElem?_eq_some_iff.1 hf).1
  obtain ⟨b, off, p', rfl, hbb, hk', hc⟩ := (hs2.ext hx0).get hkl
  obtain ⟨b3, off3, f', rfl, hb3, hf', hc3⟩ := (hs3.ext hx0).get hkf
  have hb1 := hB.cell 1
  simp at hb1
  have hbl := hB.lt
  obtain rfl : p' = p := by rw [hk] at hk'; exact (Option.some.inj hk').symm
  obtain rfl : f' = f := by rw [hf] at hf'; exact (Option.some.inj hf').symm
  have hc0 := hc 0 _ rfl
  have hc4 := hc 4 _ rfl
  have hd0 := hc3 0 _ rfl
  clear hc hc3 hk' hf'
  simp only [Nat.add_zero, Nat.mul_one] at hc0 hd0
  have gb1 := hb1
  have gc0 := hc0
  have gbl := hbl
  have gbb := hbb
  rw [← HW.out] at gb1 gc0 gbl gbb
  obtain ⟨e1, e2⟩ := hb.rooms hk hf
  have HR := hide (roomZ_at hk hf x)
  clear hk hf hb
  go_enter Tryz.func279, Tryz.ntmps279
  cases e0 : (p'.src == x)
  · have e3 : ¬ p'.src = x := by simpa using e0
    have HR2 : Hid (roomZ ps fl k x = p'.limit + f') := hide (by rw [HR.out, if_neg e3])
    go_wp2_with fail
    rw [HW.out]
    clear gb1 gc0 gbl gbb
    refine wp_region_later (by kernel_rfl) (by kernel_rfl) ?_
    repeat (go_big_quiet_step (fail))
    refine wpQuiet_nil ?_
    intro w1 hx1
    go_wp2_with fail
    go_ret
    exact Ret.of (by rw [HR2.out]; rfl) (hx0.trans hx1)
  · have e3 : p'.src = x := by simpa using e0
    have HR2 : Hid (roomZ ps fl k x = p'.limit - f') := hide (by rw [HR.out, if_pos e3])
    go_wp2_with fail
    rw [HW.out]
    clear gb1 gc0 gbl gbb
    refine wp_region_later (by kernel_rfl) (by kernel_rfl) ?_
    repeat (go_big_quiet_step (fail))
    refine wpQuiet_nil ?_
    intro w1 hx1
    go_wp2_with fail
    go_ret
    exact Ret.of (by rw [HR2.out]; rfl) (hx0.trans hx1)
end Go.Proofs.YtfkpghdmljjegaaGreat

namespace Go.Proofs.YtfkpghdmljjegaaGreat
open Go.RowKit
/-- entries and order of a search -/
def RetSX (R : Sst) (w : World) (e : Ending) (w' : World) : Prop :=
  ∃ v1 v2, e = .returned (.tuple #[v1, v2]) ∧ OwnL w' w.heap.size 2 1 intC v1 R.en ∧ OwnL w' w.heap.size 2 1 intC v2 R.E ∧ Ext w w'
theorem all_rep {en : List Int} {N : Nat} (hl : en.length = N) (h : ∀ (j : Nat) (z : Int), j < N → en[j]? = some z → z = -1) : en = List.replicate N (-1) := by
  refine List.eq_replicate_iff.2 ⟨hl, fun z hz => ?_⟩
  obtain ⟨j, hj⟩ := List.getElem?_of_mem hz
  exact h j z (by rw [← hl]; exact (List.getElem?_eq_some_iff.1 hj).1) hj
set_option maxHeartbeats 4000000 in
theorem c_l04SearchX (A1 A2 : Option Addr) (n1 c1 n2 c2 : Nat) (ps : List Pipe) (w : World) (hs2 : SliceOf w 5 Pipe.cells A2 n2 c2 ps) (m1 : n1 ≤ 100000) (m2 : n2 ≤ 100000) (he : EndsN n1 ps) (x : Nat) (hxN : x < n1) :
    Calls Tryz.prog 301 #[.agg #[.slice A1 n1 c1, .slice A2 n2 c2], .int .i64 x] w (RetSX (srch ps anyR n1 (-1) x) w) := by
  have hB := Row.new w 45 [.slice A1 n1 c1, .slice A2 n2 c2]
  have hx0 : Ext w (w.alloc (.cells #[.slice A1 n1 c1, .slice A2 n2 c2] 45)) := Ext.alloc _ _
  have hmkI := fun W => run_make_flat (P := Tryz.prog) 24 2 _ _ 1 8 Tryz.underlying24 int_info (f := intC) 0 rfl rfl rfl (by omega) n1 (by omega) (by omega) W
  have hmkB := fun W => run_make_flat (P := Tryz.prog) 318 4 _ _ 1 1 Tryz.underlying318 bool_info (f := boolC) false rfl rfl rfl (by omega) n1 (by omega) (by omega) W
  have HE := hide he
  clear he
  obtain ⟨R, HR⟩ : ∃ R, Hid (srch ps anyR n1 (-1) x = R) := ⟨_, hide rfl⟩
  rw [HR.out]
  go_enter Tryz.func301, Tryz.ntmps301
  go_wp2_with fail
  go_loopw [8] (fun i wr => ∃ (k : Nat) (en : List Int), k ≤ n1 ∧ i = .int .i64 k ∧ RowOf wr (w.heap.size + 1 + 1) 4 boolC (List.replicate n1 false) ∧ RowOf wr (w.heap.size + 1) 2 intC en ∧ en.length = n1 ∧ Hid (∀ (j : Nat) (z : Int), j < k → en[j]? = some z → z = -1) ∧ Ext (w.alloc (.cells #[.slice A1 n1 c1, .slice A2 n2 c2] 45)) wr) (fun i _ => n1 - (intOf i).toNat)
  case atStart =>
    refine ⟨0, List.replicate n1 0, Nat.zero_le _, rfl, ?_, ?_, by simp, hide (fun j z hj => absurd hj (by omega)), (Ext.alloc _ _).and_alloc _⟩
    · exact Row.newG _ _ (by simp)
    · exact (Row.newG _ _ (by simp)).ext (Ext.alloc _ _)
  case round =>
    obtain ⟨k, en, hk, rfl, hS, hEn, hel, HEn, hx⟩ := hrel
    have hzs := hS.lt
    by_cases hlt : k < n1
    · obtain ⟨u, hu⟩ := hEn.there intC_len (i := k) (by omega) (j := 0) (by omega)
      simp only [Nat.mul_one, Nat.add_zero] at hu
      have hf := hEn.frozen k
      have hle := hEn.lt
      have hN := RowOf.set0 hEn (fun x => ⟨_, rfl⟩) (d := k) (by omega) (-1) (.int .i64 (-1)) rfl
      have hS2 := hS.far (p := ⟨w.heap.size + 1, k, none⟩) (by show w.heap.size + 1 + 1 ≠ w.heap.size + 1; omega) (.int .i64 (-1))
      have hx2 := hx.setCell (p := ⟨w.heap.size + 1, k, none⟩) (by simp) (.int .i64 (-1))
      have HN := hide (step_ent HEn.out)
      clear hx hS hEn
      go_wp2_with fail
      go_roundw
      case rel => exact ⟨k + 1, _, by omega, by go_num, hS2, hN, by rw [List.length_set]; exact hel, HN, hx2⟩
      case measure => simp [intOf]; omega
    · obtain rfl : n1 = k := by omega
      obtain ⟨u, hu⟩ := hS.there boolC_len (i := x) (by simp; omega) (j := 0) (by omega)
      simp only [Nat.mul_one, Nat.add_zero] at hu
      have hf := hS.frozen x
      have hS2 := RowOf.set0 hS (fun x => ⟨_, rfl⟩) (d := x) (by simp; omega) true (.bool true) rfl
      have hE2 := hEn.far (p := ⟨w.heap.size + 1 + 1, x, none⟩) (by show w.heap.size + 1 ≠ w.heap.size + 1 + 1; omega) (.bool true)
      have hx2 := hx.setCell (p := ⟨w.heap.size + 1 + 1, x, none⟩) (by simp) (.bool true)
      have hszr : (wr.setCell ⟨w.heap.size + 1 + 1, x, none⟩ (.bool true)).heap.size = wr.heap.size := by simp
      have hD : Sch n1 (n2 + 1) (w.heap.size + 3) (w.alloc (.cells #[.slice A1 n1 c1, .slice A2 n2 c2] 45)) ((wr.setCell ⟨w.heap.size + 1 + 1, x, none⟩ (.bool true)).alloc (.cells #[.int .i64 x] 2)) (w.heap.size + 1 + 1) (w.heap.size + 1) ((List.replicate n1 false).set x true) en (.slice (some ⟨wr.heap.size, 0, none⟩) 1 1) [(x : Int)] := by
        refine ⟨hS2.ext (Ext.alloc _ _), hE2.ext (Ext.alloc _ _), OwnL.of_row (xs := [(x : Int)]) (Row.newG _ _ hszr.symm) intC_len (by omega) (by simp), hx2.and_alloc _, by simp, by omega, by omega, by simp, hel, ?_, ?_, start_ent hel HEn.out⟩
        · rw [start_seen hxN]; rfl
        · intro z hz; obtain rfl := List.mem_singleton.1 hz; exact ⟨x, rfl, hxN⟩
      have HST : Hid (srchF ps anyR (n1 - 0) 0 ⟨(List.replicate n1 false).set x true, en, [(x : Int)]⟩ = R) := hide (by rw [← HR.out, all_rep hel HEn.out]; rfl)
      clear hS2 hE2 hx2 HEn hEn hel
      go_wp2_with fail
      go_loopw [9, 10] (fun v i wr => ∃ (k : Nat) (l : List Bool) (en E : List Int), i = .int .i64 k ∧ k ≤ E.length ∧ Hid (srchF ps anyR (n1 - k) k ⟨l, en, E⟩ = R) ∧ Sch n1 (n2 + 1) (w.heap.size + 3) (w.alloc (.cells #[.slice A1 n1 c1, .slice A2 n2 c2] 45)) wr (w.heap.size + 1 + 1) (w.heap.size + 1) l en v E) (fun _ i _ => n1 - (intOf i).toNat)
      case atStart => exact ⟨0, _, _, _, rfl, Nat.zero_le _, HST, hD⟩
      case round =>
        obtain ⟨k, l, en, E, rfl, hk, HS, hD0⟩ := hrel
        clear hD HST
        have hD := hD0
        clear hD0
        have hszr := hD.seen.lt
        have hEn := hD.le
        by_cases hlt : k < E.length
        · obtain ⟨Ao, co, rfl, hsl⟩ := hD.own.sl intC_len (by omega)
          obtain ⟨bo, oo, zo, rfl, hbo, hok, hco⟩ := hsl.get hlt
          have hc0 := hco 0 _ rfl
          simp only [Nat.add_zero, Nat.mul_one] at hc0
          obtain ⟨q, rfl, hq⟩ := hD.inn.at hok
          have HOK := hide hok
          obtain ⟨s0, hs0⟩ : ∃ s0 : Sst, Hid (s0 = ⟨l, en, E⟩) := ⟨_, hide rfl⟩
          have HNX : Hid (srchF ps anyR (n1 - (k + 1)) (k + 1) (visits ps anyR q s0) = R) := hide (by rw [← HS.out, hs0.out]; exact (srchF_step hok (by omega)).symm)
          clear hco hok hsl HS
          have hb0 := (hB.ext hD.ext).cell 0
          have hb1 := (hB.ext hD.ext).cell 1
          simp at hb0 hb1
          have hbl := (hB.ext hD.ext).lt
          go_wp2_with fail
          refine wp_region_ph [([0, 1, 2, 3, 4], 5)] [6] (by kernel_rfl) (by kernel_rfl) (by intro c a w d v h; cases d <;> exact h) ?_
          simp only [wpPh, pickL, nthO]
          repeat (go_big_quiet_step (fail))
          refine wpQuiet_nil ?_
          go_wp2_with fail
          refine (c_l02AtX A1 A2 n1 c1 n2 c2 ps _ ((hs2.ext hx0).ext (hD.ext.trans (Ext.refl _).drew)) q (by omega)).mono ?_
          rintro e w2 ⟨va, Ea, rfl, hoa, HA, hx2⟩
          go_wp2_with fail
          refine ⟨hx2, ?_⟩
          repeat (go_big_quiet_step (fail))
          refine wpQuiet_nil ?_
          clear hc0 hb0 hb1
          have hxd := (Ext.refl _).drew.trans hx2
          have hDr := hD.more hxd
          clear hD
          obtain ⟨wb, hwb⟩ : ∃ wb, wr.drew.heap.size = wb := ⟨_, rfl⟩
          rw [hwb] at hoa
          have hwb' : w.heap.size + 1 + 1 < wb := by rw [← hwb]; exact hszr
          have HAP : Apt va (.slice (some ⟨bo, oo, none⟩) E.length co) := fun k hk h2 => by
            have h3 := hoa.block_le hk
            have h4 : bo < wb := by rw [← hwb]; exact hbo
            simp [Value.ownBlock] at h2
            omega
          obtain ⟨Aa, ca, rfl, _⟩ := hoa.sl intC_len (by omega)
          go_wp2_with fail
          go_loopw [9, 12] (fun v i wr => ∃ (j : Nat) (l : List Bool) (en E : List Int), i = .int .i64 j ∧ j ≤ Ea.length ∧ k < E.length ∧ Hid (E[k]? = some (q : Int)) ∧ Hid ((⟨l, en, E⟩ : Sst) = (Ea.take j).foldl (visit ps anyR q) s0) ∧ Sch n1 (n2 + 1) (w.heap.size + 3) (w.alloc (.cells #[.slice A1 n1 c1, .slice A2 n2 c2] 45)) wr (w.heap.size + 1 + 1) (w.heap.size + 1) l en v E ∧ OwnL wr wb 2 1 intC (.slice Aa Ea.length ca) Ea ∧ Apt (.slice Aa Ea.length ca) v) (fun _ i _ => Ea.length - (intOf i).toNat)
          case atStart => exact ⟨0, l, en, E, rfl, Nat.zero_le _, hlt, HOK, hide hs0.out.symm, hDr, hoa, HAP⟩
          case round =>
            clear HAP hoa hDr HOK hEn hlt hk hxd hx2 hbo hszr hbl hs0
            obtain ⟨j, l, en, E, rfl, hj, hkE, HOK, HF, hD, hoa, hap⟩ := hrel
            have hEa := HA.out.2
            have hszr := hD.seen.lt
            have hEn := hD.le
            obtain ⟨Ao, co', rfl, hsl⟩ := hD.own.sl intC_len (by omega)
            by_cases hjl : j < Ea.length
            · obtain ⟨bo, oo, zo, rfl, hbo, hok, hco⟩ := hsl.get hkE
              obtain rfl : zo = (q : Int) := by have := HOK.out; rw [hok] at this; exact Option.some.inj this
              have hc0 := hco 0 _ rfl
              simp only [Nat.add_zero, Nat.mul_one] at hc0
              obtain ⟨ba, oa, za, rfl, hba, hak, hca⟩ := (hoa.slE intC_len (by omega)).get hjl
              obtain ⟨ka, p, rfl, hpk, hpe⟩ := atL_mem (HA.out.1 ▸ List.mem_of_getElem? hak)
              have hd0 := hca 0 _ rfl
              simp only [Nat.add_zero, Nat.mul_one] at hd0
              have hkl : ka < n2 := by rw [hs2.len]; exact (List.getElem?_eq_some_iff.1 hpk).1
              have HPK := hide hpk
              have HPE := hide hpe
              have HAK := hide hak
              obtain ⟨y, hyq, hy⟩ := HE.out.oth hpk q
              have HYQ := hide hyq
              clear hyq
              clear hco hca hok hsl hpk hpe hak
              have hb0 := (hB.ext hD.ext).cell 0
              have hb1 := (hB.ext hD.ext).cell 1
              simp at hb0 hb1
              have hbl := (hB.ext hD.ext).lt
              go_wp2_with fail
              refine wp_region_ph [([0, 1, 2, 3, 4, 5, 6, 7, 8], 9)] [10] (by kernel_rfl) (by kernel_rfl) (by intro c a w d v h; cases d <;> exact h) ?_
              simp only [wpPh, pickL, nthO]
              repeat (go_big_quiet_step (fail))
              refine wpQuiet_nil ?_
              go_wp2_with fail
              refine (c_l02OtherX A1 A2 n1 c1 n2 c2 ps _ ((hs2.ext hx0).ext (hD.ext.trans (Ext.refl _).drew)) n1 (by omega) HE.out ka p HPK.out q HPE.out).mono ?_
              rintro e w2 ⟨rfl, hx2⟩
              rw [HYQ.out]
              go_wp2_with fail
              refine ⟨hx2, ?_⟩
              repeat (go_big_quiet_step (fail))
              refine wpQuiet_nil ?_
              have hxd := (Ext.refl _).drew.trans hx2
              have hd2 := (hxd.cell _ _ hba).trans hd0
              clear hc0 hd0 hb0 hb1 hbl
              have hDr := hD.more hxd
              have hor := hoa.ext hxd
              have hszd := hDr.seen.lt
              have hyl : y < l.length := by rw [hDr.ll]; exact hy
              obtain ⟨bb, hbb⟩ : ∃ bb, l[y]? = some bb := ⟨_, List.getElem?_eq_getElem hyl⟩
              have hsc := hDr.seen.get boolC_len hbb (j := 0) rfl
              simp only [Nat.mul_one, Nat.add_zero] at hsc
              have hsf := hDr.seen.frozen y
              have HBB := hide hbb
              clear hD hoa hbb hx2 hxd
              cases bb
              · obtain ⟨u, hu⟩ := hDr.ent.there intC_len (i := y) (by rw [hDr.el]; exact hy) (j := 0) (by omega)
                simp only [Nat.mul_one, Nat.add_zero] at hu
                have hel := hDr.ent.lt
                have hef := hDr.ent.frozen y
                have hne : w.heap.size + 1 ≠ w.heap.size + 1 + 1 := by omega
                have hba2 := hor.block_le (k := ba) rfl
                have hne2 : ba ≠ w.heap.size + 1 + 1 := by omega
                have hne3 : ba ≠ w.heap.size + 1 := by omega
                have hba3 := (hor.ltG (k := ba) rfl).2
                have ho3 : OwnL ((w2.setCell ⟨w.heap.size + 1 + 1, y, none⟩ (.bool true)).setCell ⟨w.heap.size + 1, y, none⟩ (.int .i64 ka)) (w.heap.size + 3) 2 1 intC (.slice (some ⟨bo, oo, none⟩) E.length co') E := (hDr.own.farK (p := ⟨w.heap.size + 1 + 1, y, none⟩) (by show w.heap.size + 1 + 1 < w.heap.size + 3; omega) _).farK (p := ⟨w.heap.size + 1, y, none⟩) (by show w.heap.size + 1 < w.heap.size + 3; omega) _
                have hr3 : OwnL ((w2.setCell ⟨w.heap.size + 1 + 1, y, none⟩ (.bool true)).setCell ⟨w.heap.size + 1, y, none⟩ (.int .i64 ka)) wb 2 1 intC (.slice (some ⟨ba, oa, none⟩) Ea.length ca) Ea := (hor.farK (p := ⟨w.heap.size + 1 + 1, y, none⟩) (by show w.heap.size + 1 + 1 < wb; omega) _).farK (p := ⟨w.heap.size + 1, y, none⟩) (by show w.heap.size + 1 < wb; omega) _
                go_wp2_with (at_builtin; go_must (refine wpList_append_where rfl _ _ 24 rfl (w.heap.size + 3) 2 _ 1 8 Tryz.underlying24 int_info rfl (by decide) intC intC_len int_one' (.slice (some ⟨bo, oo, none⟩) E.length co') E rfl (ho3.ext (Ext.alloc _ _)) (w2.heap.size) 0 1 1 [(y : Int)] rfl (new_int ((w2.setCell ⟨w.heap.size + 1 + 1, y, none⟩ (.bool true)).setCell ⟨w.heap.size + 1, y, none⟩ (.int .i64 ka)) _ _ (by simp)) (by omega) (by omega) (by first | omega | (simp; omega)) ?_))
                intro v5 w5 ho5 hg5 hb5
                have HF5 : Hid ((⟨l.set y true, en.set y (ka : Int), E ++ [(y : Int)]⟩ : Sst) = (Ea.take (j + 1)).foldl (visit ps anyR q) s0) := hide (by rw [fold_step HAK.out, ← HF.out, visit_yes HPK.out (by rw [HYQ.out, Int.toNat_natCast]; exact HBB.out) rfl, HYQ.out, Int.toNat_natCast])
                have hD5 := hDr.add HBB.out hy (z := (ka : Int)) (by omega) (by omega) (Ext.alloc _ _) hg5 ho5
                have hr5 := (hr3.ext (Ext.alloc _ (.cells #[.int .i64 y] 2))).grown hg5 (fun k hk => hap k hk)
                have hap5 : Apt (.slice (some ⟨ba, oa, none⟩) Ea.length ca) v5 := fun k hk h2 => by
                  rcases hb5 k h2 with h3 | h3
                  · exact hap k hk h3
                  · obtain rfl : ba = k := by simpa [Value.ownBlock] using hk
                    omega
                clear hDr ho3 hr3 hg5 ho5 hb5
                go_wp2_with fail
                go_roundw
                case rel => exact ⟨j + 1, _, _, _, by go_num, by omega, by simp; omega, hide (by rw [List.getElem?_append_left hkE]; exact HOK.out), HF5, hD5, hr5, hap5⟩
                case measure => simp [intOf]; omega
              · go_wp2_with fail
                go_roundw
                case rel => exact ⟨j + 1, l, en, E, by go_num, by omega, hkE, HOK, hide (by rw [fold_step HAK.out, ← HF.out, visit_no HPK.out (by rw [HYQ.out, Int.toNat_natCast]; simp only; rw [HBB.out]; simp)]), hDr, hor, hap⟩
                case measure => simp [intOf]; omega
            · go_wp2_with fail
              go_roundw
              case rel => exact ⟨k + 1, l, en, E, by go_num, by omega, hide (by rw [← HNX.out, HF.out, visits, ← HA.out.1, List.take_of_length_le (by omega)]), hD⟩
              case measure => simp [intOf]; omega
        · obtain ⟨Ao, co, rfl, hsl⟩ := hD.own.sl intC_len (by omega)
          go_wp2_with fail
          go_ret2
          have HR2 : Hid (R = ⟨l, en, E⟩) := hide (by rw [← HS.out]; exact srchF_end (by show E.length ≤ k; omega))
          rw [HR2.out]
          refine ⟨_, _, rfl, ?_, hD.own.lowG (by omega), hx0.trans hD.ext⟩
          have := OwnL.of_row hD.ent intC_len (base := w.heap.size) (by omega) (by rw [hD.el]; omega)
          rw [hD.el] at this
          exact this
end Go.Proofs.YtfkpghdmljjegaaGreat
