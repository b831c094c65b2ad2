/-
  The pipes at a node, the other end of a pipe, a look into a list: of the reference.
-/
import Derived.Test.YtegkeeeohileiaaSa16
import Derived.Test.YtegkeeeohileiaaSa13
import Derived.Test.YtegkeeeohileiaaSa17
namespace Go.Proofs.Ytegkeeeohileiaa
open Go.RowKit
theorem int_one' (y : Int) : ∀ u ∈ intC y, u.oneCell' = true := by intro u hu; simp [intC] at hu; subst hu; rfl
/-- the ends of the pipes are among the nodes -/
def EndsIn (N : Nat) (ps : List Pipe) : Prop := ∀ p ∈ ps, 0 ≤ p.src ∧ p.src < N ∧ 0 ≤ p.dst ∧ p.dst < N
theorem netB_facts {ns : List Node} {ps : List Pipe} (h : netB ns ps = true) : EndsIn ns.length ps ∧ 1 ≤ ns.length ∧ ns.length ≤ 24 ∧ ps.length ≤ 40 := by
  simp only [netB, Bool.and_eq_true, decide_eq_true_eq] at h
  obtain ⟨⟨⟨⟨h1, h2⟩, h3⟩, -⟩, h5⟩ := h
  refine ⟨fun p hp => ?_, h1, h2, h3⟩
  have := List.all_eq_true.1 h5 p hp
  simp only [pipeB, Bool.and_eq_true, inB_true] at this
  omega
/-- indices of pipes at a node -/
def AtB (ps : List Pipe) (x : Int) (E : List Int) : Prop := ∀ z ∈ E, ∃ (k : Nat) (p : Pipe), z = k ∧ ps[k]? = some p ∧ (p.src = x ∨ p.dst = x)
theorem AtB.nil {ps : List Pipe} {x : Int} : AtB ps x [] := fun z hz => by cases hz
theorem AtB.snoc {ps : List Pipe} {x : Int} {E : List Int} (h : AtB ps x E) {k : Nat} {p : Pipe} (hk : ps[k]? = some p) (hp : p.src = x ∨ p.dst = x) : AtB ps x (E ++ [(k : Int)]) := by
  intro z hz
  rcases List.mem_append.1 hz with hz | hz
  · exact h z hz
  · obtain rfl := List.mem_singleton.1 hz; exact ⟨k, p, rfl, hk, hp⟩
/-- a list of numbers in a block of its own -/
def RetI (Q : List Int → Prop) (w : World) (e : Ending) (w' : World) : Prop :=
  ∃ v E, e = .returned v ∧ OwnL w' w.heap.size 2 1 intC v E ∧ Hid (Q E) ∧ Ext w w'
theorem OwnL.lowG {α : Type} {w : World} {base base' : Nat} {e : TypeId} {size : Nat} {f : α → List Value} {v : Value} {L : List α} (h : OwnL w base e size f v L) (hb : base' ≤ base) : OwnL w base' e size f v L := by
  obtain ⟨h1, h2⟩ := h
  refine ⟨h1, ?_⟩
  rcases h2 with h2 | ⟨k, cap, cur, hv, hb', r⟩
  · exact .inl h2
  · exact .inr ⟨k, cap, cur, hv, by omega, r⟩
/-- yes or no -/
def RetB (w : World) (e : Ending) (w' : World) : Prop := ∃ b : Bool, e = .returned (.bool b) ∧ Ext w w'
/-- a number of a node -/
def RetN (N : Nat) (w : World) (e : Ending) (w' : World) : Prop := ∃ y : Nat, e = .returned (.int .i64 (y : Int)) ∧ y < N ∧ Ext w w'
set_option maxHeartbeats 1000000 in
theorem c_l02At (A1 A2 : Option Addr) (n1 c1 n2 c2 : Nat) (ps : List Pipe) (w : World) (hs2 : SliceOf w 5 Pipe.cells A2 n2 c2 ps) (x : Int) (m2 : n2 ≤ 1048576) :
    Calls Try.prog 76 #[.agg #[.slice A1 n1 c1, .slice A2 n2 c2], .int .i64 x] w (RetI (fun E => AtB ps x E ∧ E.length ≤ n2) w) := by
  have hB := Row.new w 27 [.slice A1 n1 c1, .slice A2 n2 c2]
  have hx0 : Ext w (w.alloc (.cells #[.slice A1 n1 c1, .slice A2 n2 c2] 27)) := Ext.alloc _ _
  go_enter Try.func76, Try.ntmps76
  go_wp2_with fail
  go_loopw [5, 6] (fun v i wr => ∃ (k : Nat) (E : List Int), k ≤ n2 ∧ i = .int .i64 k ∧ E.length ≤ k ∧ Hid (AtB ps x E) ∧ OwnL wr (w.heap.size + 1) 2 1 intC v E ∧ Ext (w.alloc (.cells #[.slice A1 n1 c1, .slice A2 n2 c2] 27)) wr) (fun _ i _ => n2 - (intOf i).toNat)
  case atStart => exact ⟨0, [], Nat.zero_le _, rfl, by simp, hide AtB.nil, own_new (w.alloc (.cells #[.slice A1 n1 c1, .slice A2 n2 c2] 27)) (w.heap.size + 1) _ _ _ _ (by simp) (by omega), Ext.alloc _ _⟩
  case round =>
    obtain ⟨k, E, hk, rfl, hE, HE, hown, hx⟩ := hrel
    have hxz := hx.size
    have hbl := (hB.ext hx).lt
    have hb1 := (hB.ext hx).cell 1
    simp at hb1 hxz
    by_cases hlt : k < n2
    · obtain ⟨b, off, p, rfl, hb, hxk, hc⟩ := (hs2.ext (hx0.trans hx)).get hlt
      have HK := hide hxk
      clear hxk
      have hc0 := hc 0 _ rfl
      have hc1 := hc 1 _ rfl
      clear hc
      simp only [Nat.add_zero] at hc0
      cases e0 : (p.src == x)
      · cases e1 : (p.dst == x)
        · go_wp2_with fail
          go_roundw
          case rel => exact ⟨k + 1, E, by omega, by go_num, by omega, HE, hown, hx⟩
          case measure => simp [intOf]; omega
        · have HN := hide (AtB.snoc HE.out HK.out (.inr (by simpa using e1)))
          go_wp2_with (at_builtin; go_must (refine wpList_append_one rfl _ _ 32 rfl (w.heap.size + 1) 2 _ 1 8 Try.underlying32 int_info rfl (by decide) intC intC_len int_one' _ _ rfl (hown.ext (Ext.alloc _ _)) _ (k : Int) rfl _ rfl (by first | rfl | simp) (by omega) (by omega) (by omega) ?_))
          intro v1 w4 hown4 hext4
          have hx4 := hext4 _ (by simp) (hx.and_alloc _)
          go_wp2_with fail
          go_roundw
          case rel => exact ⟨k + 1, _, by omega, by go_num, by simp; omega, HN, hown4, hx4⟩
          case measure => simp [intOf]; omega
      · have HN := hide (AtB.snoc HE.out HK.out (.inl (by simpa using e0)))
        go_wp2_with (at_builtin; go_must (refine wpList_append_one rfl _ _ 32 rfl (w.heap.size + 1) 2 _ 1 8 Try.underlying32 int_info rfl (by decide) intC intC_len int_one' _ _ rfl (hown.ext (Ext.alloc _ _)) _ (k : Int) rfl _ rfl (by first | rfl | simp) (by omega) (by omega) (by omega) ?_))
        intro v1 w4 hown4 hext4
        have hx4 := hext4 _ (by simp) (hx.and_alloc _)
        go_wp2_with fail
        go_roundw
        case rel => exact ⟨k + 1, _, by omega, by go_num, by simp; omega, HN, hown4, hx4⟩
        case measure => simp [intOf]; omega
    · obtain rfl : n2 = k := by omega
      go_wp2_with fail
      go_ret
      exact ⟨_, E, rfl, hown.lowG (by omega), hide ⟨HE.out, hE⟩, hx0.trans hx⟩
set_option maxHeartbeats 1000000 in
theorem c_l02Other (A1 A2 : Option Addr) (n1 c1 n2 c2 : Nat) (ps : List Pipe) (w : World) (hs2 : SliceOf w 5 Pipe.cells A2 n2 c2 ps) (N : Nat) (hN : N ≤ 1048576) (he : EndsIn N ps) (k : Nat) (p : Pipe) (hk : ps[k]? = some p) (x : Int) (hx : p.src = x ∨ p.dst = x) :
    Calls Try.prog 77 #[.agg #[.slice A1 n1 c1, .slice A2 n2 c2], .int .i64 k, .int .i64 x] w (RetN N w) := by
  obtain ⟨W, HW⟩ : ∃ W, Hid ((w.alloc (.cells #[.slice A1 n1 c1, .slice A2 n2 c2] 27)) = W) := ⟨_, hide rfl⟩
  have hB : Row W w.heap.size 27 [.slice A1 n1 c1, .slice A2 n2 c2] := by rw [← HW.out]; exact Row.new w 27 [.slice A1 n1 c1, .slice A2 n2 c2]
  have hx0 : Ext w W := by rw [← HW.out]; exact Ext.alloc _ _
  have hkl : k < n2 := by rw [hs2.len]; exact (List.getElem?_eq_some_iff.1 hk).1
  obtain ⟨b, off, p', rfl, hb, hk', hc⟩ := (hs2.ext hx0).get hkl
  have hb1 := hB.cell 1
  simp at hb1
  have hbl := hB.lt
  obtain rfl : p' = p := by rw [hk] at hk'; exact (Option.some.inj hk').symm
  have hc0 := hc 0 _ rfl
  have hc1 := hc 1 _ rfl
  clear hc hk'
  simp only [Nat.add_zero] at hc0
  obtain ⟨h1, h2, h3, h4⟩ := he _ (List.mem_of_getElem? hk)
  clear hk
  have e1 : IntKind.i64.wrap (p'.src + p'.dst) = p'.src + p'.dst := IntWalk.i64_in _ (by omega)
  have e2 : IntKind.i64.wrap (p'.src + p'.dst - x) = p'.src + p'.dst - x := IntWalk.i64_in _ (by rcases hx with h | h <;> omega)
  have HX := hide hx
  clear hx
  go_enter Try.func77, Try.ntmps77
  go_wp2_with fail
  rw [HW.out]
  refine wp_region_later (by kernel_rfl) (by kernel_rfl) ?_
  repeat (go_big_quiet_step (fail))
  refine wpQuiet_nil ?_
  intro w1 hx1
  go_wp2_with fail
  go_ret
  refine ⟨(p'.src + p'.dst - x).toNat, ?_, by rcases HX.out with h | h <;> omega, hx0.trans hx1⟩
  rw [Int.toNat_of_nonneg (by rcases HX.out with h | h <;> omega)]; rfl
set_option maxHeartbeats 1000000 in
theorem c_l02Has (A : Option Addr) (n c : Nat) (L : List Int) (x : Int) (w : World) (hL : SliceOf w 1 intC A n c L) (hn : n ≤ 1048576) :
    Calls Try.prog 72 #[.slice A n c, .int .i64 x] w (RetB w) := by
  go_enter Try.func72, Try.ntmps72
  go_wp2_with fail
  go_loop [5] (fun i => ∃ k : Nat, k ≤ n ∧ i = .int .i64 k) (fun i => n - (intOf i).toNat)
  case atStart => exact ⟨0, Nat.zero_le _, rfl⟩
  case round =>
    obtain ⟨k, hk, rfl⟩ := hrel
    by_cases hlt : k < n
    · obtain ⟨b, off, z, rfl, hb, hxk, hc⟩ := hL.get hlt
      have hc0 := hc 0 _ rfl
      clear hc hxk
      simp only [Nat.add_zero, Nat.mul_one] at hc0
      cases e0 : (z == x)
      · go_wp2_with fail
        go_round
        case rel => exact ⟨k + 1, by omega, by go_num⟩
        case measure => simp [intOf]; omega
      · go_wp2_with fail
        go_ret
        exact ⟨true, rfl, Ext.refl _⟩
    · obtain rfl : n = k := by omega
      go_wp2_with fail
      go_ret
      exact ⟨false, rfl, Ext.refl _⟩
end Go.Proofs.Ytegkeeeohileiaa
