/-
  The helpers of the laws on lists of lists of readings: measuring, copying, comparing. The helpers of the laws on rooms: comparing, measuring, copying. From an argument as it is read (data) to the cells that hold it: slices of structures of integers. No function of the program is named here. From an argument as it is read (data) to the cells that hold it: slices whose elements are any data of a known number of cells. No function of the program is named here. The helpers of the laws on rooms: copying; a room that came in.
-/
import Derived.Test.YtfkpghdmljjegaaGreatVa06
import Derived.Test.YtfkpghdmljjegaaGreatVa00
import Derived.Deep.Slices
import Derived.Deep.Fields
import Derived.ChangeSame
import Derived.ProofKit
import Derived.OpenShut
import Derived.ShutString
import Derived.ChangeOld
import Derived.Lib.SmallJoins
namespace Go.Proofs.YtfkpghdmljjegaaGreat
open Go.RowKit
theorem sum_take {rs : List RS} {k : Nat} {p : RS} (h : rs[k]? = some p) : ((rs.take (k + 1)).map RS.n).sum = ((rs.take k).map RS.n).sum + p.n := by
  rw [List.take_add_one, h, List.map_append, List.sum_append]; simp
set_option maxHeartbeats 1000000 in
theorem c_szReadingSS (A : Option Addr) (n c : Nat) (rs : List RS) (left : Int) (w : World) (hs : SliceOf w 1 RS.cells A n c rs) (h6 : ∀ q ∈ rs, SliceOf w 2 Reading.cells q.A q.n q.c q.xs) (h0 : 0 ≤ left) (h1 : left ≤ 1048576) :
    Calls Tryz.prog 53 #[.slice A n c, .int .i64 left] w (Sized (n ≤ 1048576 ∧ (∀ q ∈ rs, q.n ≤ 1048576) ∧ (rs.map RS.n).sum ≤ 1048576) left w) := by
  have hm := hs.max
  have hcap := hs.cap
  have HL := hide hs.len
  by_cases h : left < n
  · have h' : left - (n : Int) < 0 := by omega
    go_enter Tryz.func53, Tryz.ntmps53
    go_wp2_with fail
    go_ret
    exact ⟨-1, rfl, Ext.refl _, .inl rfl⟩
  have h' : ¬ left - (n : Int) < 0 := by omega
  have hn : n ≤ 1048576 := by omega
  go_enter Tryz.func53, Tryz.ntmps53
  go_wp2_with fail
  go_loopw [1, 5] (fun z i wr => ∃ (k : Nat) (y : Int), k ≤ n ∧ z = .int .i64 y ∧ i = .int .i64 k ∧ 0 ≤ y ∧ y ≤ left ∧ Hid (∀ (j : Nat) (p : RS), j < k → rs[j]? = some p → p.n ≤ 1048576) ∧ Hid ((((rs.take k).map RS.n).sum : Int) + y ≤ left) ∧ Ext w wr) (fun _ i _ => n - (intOf i).toNat)
  case atStart => exact ⟨0, _, Nat.zero_le _, rfl, rfl, by omega, by omega, hide (fun j p hj => absurd hj (by omega)), hide (by simp; omega), Ext.refl _⟩
  case round =>
    obtain ⟨k, y, hk, rfl, rfl, hy0, hy1, HK, HS, hx⟩ := hrel
    by_cases hlt : k < n
    · obtain ⟨bb, off, p, rfl, hbb, hxk, t⟩ := (hs.ext hx).get hlt
      have t0 := t 0 _ rfl
      simp only [Nat.add_zero, Nat.mul_one] at t0
      have hp := h6 p (List.mem_of_getElem? hxk)
      have HX := hide hxk
      clear hxk t
      go_wp2_with fail
      refine (c_szReadingS p.A p.n p.c y _ hp.cap hp.max hy0 (by omega)).mono ?_
      by_cases hq : y < p.n
      · rw [if_pos hq]
        rintro e w' ⟨rfl, rfl⟩
        go_wp2_with fail
        go_ret
        exact ⟨-1, rfl, hx, .inl rfl⟩
      · rw [if_neg hq]
        rintro e w' ⟨rfl, rfl⟩
        have hz' : ¬ y - (p.n : Int) < 0 := by omega
        go_wp2_with fail
        go_roundw
        case rel =>
          refine ⟨k + 1, _, by omega, rfl, by go_num, by omega, by omega, hide fun j q hj hq => ?_, hide (by rw [sum_take HX.out]; have := HS.out; omega), hx⟩
          by_cases e : j = k
          · subst e; rw [HX.out] at hq; injection hq with hq; subst hq; omega
          · exact HK.out j q (by omega) hq
        case measure => simp [intOf]; omega
    · go_wp2_with fail
      go_ret
      refine ⟨y, rfl, hx, .inr ⟨hy0, hy1, hn, fun q hq => ?_, ?_⟩⟩
      · obtain ⟨j, hj, rfl⟩ := List.mem_iff_getElem.1 hq
        exact HK.out j _ (by have := HL.out; omega) (List.getElem?_eq_getElem hj)
      · have h1 := HS.out
        rw [List.take_of_length_le (by have := HL.out; omega)] at h1
        omega

theorem rs_info : (Tryz.prog.info? 60).map (fun i => (i.zero, i.size, i.bytes)) = some (some (.slice none 0 0), 1, 24) := by kernel_rfl
/-- a list of readings in a block of its own -/
def OwnRS (w : World) (g : Nat) (q : RS) : Prop := ∃ g1, g < g1 ∧ q.A = some ⟨g1, 0, none⟩ ∧ q.n = q.xs.length ∧ q.c = q.xs.length ∧ q.xs.length ≤ 1048576 ∧ RowOf w g1 176 Reading.cells q.xs
theorem OwnRS.ext {w w' : World} {g : Nat} {q : RS} (h : OwnRS w g q) (hx : Ext w w') : OwnRS w' g q := let ⟨g1, a, b, c, d, e, r⟩ := h; ⟨g1, a, b, c, d, e, r.ext hx⟩
theorem OwnRS.set {w : World} {g o : Nat} {q : RS} (h : OwnRS w g q) (u : Value) : OwnRS (w.setCell ⟨g, o, none⟩ u) g q := let ⟨g1, a, b, c, d, e, r⟩ := h; ⟨g1, a, b, c, d, e, r.far (p := ⟨g, o, none⟩) (by show g1 ≠ g; omega) u⟩
theorem OwnRS.slice {w : World} {g : Nat} {q : RS} (h : OwnRS w g q) : SliceOf w 2 Reading.cells q.A q.n q.c q.xs := by
  obtain ⟨g1, _, hA, hn, hc, hl, r⟩ := h
  rw [hA, hc, hn]
  exact r.slice reading_len rfl (by omega)
/-- lists at different places -/
def RsApart (rs : List RS) : Prop := ∀ (i j : Nat) (q q' : RS), i ≠ j → rs[i]? = some q → rs[j]? = some q' → q.A ≠ q'.A
/-- a new list of lists -/
def NewRS (rs : List RS) (w : World) (e : Ending) (w' : World) : Prop :=
  ∃ g rs', e = .returned (.slice (some ⟨g, 0, none⟩) rs.length rs.length) ∧ w.heap.size ≤ g ∧ RowOf w' g 60 RS.cells rs' ∧ rs'.map RS.xs = rs.map RS.xs ∧ (∀ q ∈ rs', OwnRS w' g q) ∧ RsApart rs' ∧ Ext w w'
theorem apart_put {L : List RS} {k : Nat} {y : RS} (h : RsApart (L.take k)) (hk : k < L.length) (hy : ∀ q ∈ L.take k, q.A ≠ y.A) : RsApart ((L.set k y).take (k + 1)) := by
  have he : (L.set k y).take (k + 1) = L.take k ++ [y] := by
    apply List.ext_getElem?
    intro j
    rw [List.getElem?_take, List.getElem?_set]
    by_cases h1 : j < k
    · rw [if_pos (by omega), if_neg (by omega), List.getElem?_append_left (by simp; omega), List.getElem?_take, if_pos h1]
    · by_cases h2 : j = k
      · subst h2; rw [if_pos (by omega), if_pos rfl, if_pos hk, List.getElem?_append_right (by simp; omega), show j - (List.take j L).length = 0 by rw [List.length_take]; omega]; rfl
      · rw [if_neg (by omega), List.getElem?_append_right (by simp; omega)]
        rw [List.getElem?_eq_none (by simp; omega)]
  rw [he]
  intro i j q q' hij hi hj
  rcases Nat.lt_or_ge i (L.take k).length with h1 | h1
  · rw [List.getElem?_append_left h1] at hi
    rcases Nat.lt_or_ge j (L.take k).length with h2 | h2
    · rw [List.getElem?_append_left h2] at hj
      exact h i j q q' hij hi hj
    · rw [List.getElem?_append_right h2, List.getElem?_singleton] at hj
      split at hj
      · injection hj with hj; subst hj; exact hy q (List.mem_of_getElem? hi)
      · cases hj
  · rw [List.getElem?_append_right h1, List.getElem?_singleton] at hi
    split at hi
    · injection hi with hi; subst hi
      rcases Nat.lt_or_ge j (L.take k).length with h2 | h2
      · rw [List.getElem?_append_left h2] at hj
        exact fun e => hy q' (List.mem_of_getElem? hj) e.symm
      · rw [List.getElem?_append_right h2, List.getElem?_singleton] at hj
        split at hj
        · omega
        · cases hj
    · cases hi
set_option maxRecDepth 8000 in
set_option maxHeartbeats 1000000 in
theorem c_toReadingSS (A : Option Addr) (n c : Nat) (rs : List RS) (w : World) (hs : SliceOf w 1 RS.cells A n c rs) (h6 : ∀ q ∈ rs, SliceOf w 2 Reading.cells q.A q.n q.c q.xs) (hn : n ≤ 1048576) (hq : ∀ q ∈ rs, q.n ≤ 1048576) :
    Calls Tryz.prog 55 #[.slice A n c] w (NewRS rs w) := by
  have hmk := fun W => run_make_flat (P := Tryz.prog) 75 60 _ _ 1 24 Tryz.underlying75 rs_info (f := RS.cells) ⟨none, 0, 0, []⟩ rfl rfl rfl (by omega) n (by omega) (by omega) W
  have hR0 := Row.new w 60 ((List.replicate n (⟨none, 0, 0, []⟩ : RS)).flatMap RS.cells)
  go_enter Tryz.func55, Tryz.ntmps55
  go_wp2_with fail
  go_loopw [4] (fun i wr => ∃ (k : Nat) (L : List RS), k ≤ n ∧ i = .int .i64 k ∧ L.length = n ∧ RowOf wr w.heap.size 60 RS.cells L ∧ Hid (∀ j, j < k → ∃ q, L[j]? = some q ∧ rs[j]?.map RS.xs = some q.xs ∧ OwnRS wr w.heap.size q) ∧ Hid (RsApart (L.take k)) ∧ Ext w wr) (fun i _ => n - (intOf i).toNat)
  case atStart => exact ⟨0, _, Nat.zero_le _, rfl, List.length_replicate, hR0, hide (fun j hj => absurd hj (by omega)), hide (fun i j q q' _ h => by simp at h), Ext.alloc _ _⟩
  case round =>
    obtain ⟨k, L, hk, rfl, hL, hrow, HK, HP, hx⟩ := hrel
    clear hR0 hmk
    have hgs := hrow.lt
    by_cases hlt : k < n
    · obtain ⟨b, off, x, rfl, hb, hxk, t⟩ := (hs.ext hx).get hlt
      have t0 := t 0 _ rfl
      simp only [Nat.add_zero, Nat.mul_one] at t0
      have hxm := List.mem_of_getElem? hxk
      have hx6 := h6 x hxm
      have hxn := hq x hxm
      have HXL := hide hx6.len
      have Hx := hide hxk
      have HL := hide hL
      clear t hxk hL
      go_wp2_with fail
      refine (c_toReadingS x.A x.n x.c x.xs _ (hx6.ext hx) hxn).mono ?_
      rintro e w1 ⟨g1, rfl, hg1, hr1, hx1⟩
      have hrow1 := hrow.ext hx1
      obtain ⟨v0, hv0⟩ := hrow1.there rs_len (i := k) (by rw [HL.out]; exact hlt) (j := 0) (by omega)
      have hf0 := hrow1.frozen k
      simp only [Nat.mul_one, Nat.add_zero] at hv0
      have hl1 := hrow1.lt
      go_wp2_with fail
      go_roundw
      case rel =>
        have hput := hrow1.put rs_len (i := k) (by rw [HL.out]; exact hlt) ⟨some ⟨g1, 0, none⟩, x.xs.length, x.xs.length, x.xs⟩
        rw [Nat.mul_one] at hput
        have hnew : OwnRS w1 w.heap.size ⟨some ⟨g1, 0, none⟩, x.xs.length, x.xs.length, x.xs⟩ := ⟨g1, by omega, rfl, rfl, rfl, by rw [← HXL.out]; exact hxn, hr1⟩
        refine ⟨k + 1, L.set k ⟨some ⟨g1, 0, none⟩, x.xs.length, x.xs.length, x.xs⟩, by omega, by go_num, by simpa using HL.out, hput, hide ?_, hide ?_, Ext.setCell (hx.trans hx1) (Nat.le_refl _) _⟩
        rotate_left
        · exact apart_put HP.out (by rw [HL.out]; exact hlt) (fun q hq => by
            obtain ⟨j, hj, hjq⟩ := List.mem_iff_getElem.1 hq
            simp at hj hjq
            obtain ⟨q', hq1, _, hq3⟩ := HK.out j (by omega)
            rw [List.getElem?_eq_getElem (by omega), hjq] at hq1
            injection hq1 with hq1
            subst hq1
            obtain ⟨g2, _, hA, _, _, _, hr2⟩ := hq3
            rw [hA]
            have := hr2.lt
            intro he
            injection he with he
            injection he with he
            omega)
        intro j hj
        rw [List.getElem?_set]
        by_cases e : k = j
        · subst e; rw [if_pos rfl, if_pos (by rw [HL.out]; exact hlt)]
          exact ⟨_, rfl, by rw [Hx.out]; rfl, hnew.set _⟩
        · rw [if_neg e]
          obtain ⟨q, hq1, hq2, hq3⟩ := HK.out j (by omega)
          exact ⟨q, hq1, hq2, (hq3.ext hx1).set _⟩
      case measure => simp [intOf]; omega
    · go_wp2
      go_ret
      have hkn : k = n := by omega
      subst hkn
      have hln := hs.len
      refine ⟨w.heap.size, L, by rw [← hln]; rfl, Nat.le_refl _, hrow, ?_, ?_, by have h := HP.out; rwa [List.take_of_length_le (by omega)] at h, hx⟩
      · apply List.ext_getElem?
        intro j
        by_cases hj : j < k
        · obtain ⟨q, hq1, hq2, _⟩ := HK.out j hj
          rw [List.getElem?_map, List.getElem?_map, hq1, hq2]; rfl
        · rw [List.getElem?_eq_none (by simp; omega), List.getElem?_eq_none (by simp; omega)]
      · intro q hq'
        obtain ⟨j, hj, rfl⟩ := List.mem_iff_getElem.1 hq'
        obtain ⟨q, hq1, _, hq3⟩ := HK.out j (by omega)
        rw [List.getElem?_eq_getElem hj] at hq1
        injection hq1 with hq1
        rw [hq1]; exact hq3
end Go.Proofs.YtfkpghdmljjegaaGreat

namespace Go.Proofs.YtfkpghdmljjegaaGreat
open Go.RowKit
set_option maxHeartbeats 1000000 in
theorem c_eqReadingSS (A A' : Option Addr) (n c n' c' : Nat) (rs rs' : List RS) (w : World) (hs : SliceOf w 1 RS.cells A n c rs) (h6 : ∀ q ∈ rs, SliceOf w 2 Reading.cells q.A q.n q.c q.xs) (hs' : SliceOf w 1 RS.cells A' n' c' rs') (h6' : ∀ q ∈ rs', SliceOf w 2 Reading.cells q.A q.n q.c q.xs) (he : rs.map RS.xs = rs'.map RS.xs) :
    Calls Tryz.prog 58 #[.slice A n c, .slice A' n' c'] w (Ret (.bool true) w) := by
  obtain rfl : n = n' := by have := congrArg List.length he; simp at this; rw [hs.len, hs'.len, this]
  have HE := hide he
  have hm := hs.max
  have hcp := hs.cap
  clear he
  go_enter Tryz.func58, Tryz.ntmps58
  go_wp2_with fail
  go_loopw [5] (fun i wr => ∃ (k : Nat), k ≤ n ∧ i = .int .i64 k ∧ Ext w wr) (fun i _ => n - (intOf i).toNat)
  case atStart => exact ⟨0, Nat.zero_le _, rfl, Ext.refl _⟩
  case round =>
    obtain ⟨k, hk, rfl, hx⟩ := hrel
    by_cases hlt : k < n
    · obtain ⟨b, off, x, rfl, hb, hxk, hc⟩ := (hs.ext hx).get hlt
      obtain ⟨b', off', x', rfl, hb', hxk', hc'⟩ := (hs'.ext hx).get hlt
      have hxx : x.xs = x'.xs := by
        have h1 := congrArg (fun l => l[k]?) HE.out
        simp only [List.getElem?_map, hxk, hxk', Option.map_some, Option.some.injEq] at h1
        exact h1
      have s1 := (h6 x (List.mem_of_getElem? hxk)).ext hx
      have s2 := (h6' x' (List.mem_of_getElem? hxk')).ext hx
      rw [← hxx] at s2
      have hc0 := hc 0 _ rfl
      have hd0 := hc' 0 _ rfl
      clear hc hc' hxk hxk' hxx
      simp only [Nat.add_zero, Nat.mul_one] at hc0 hd0
      go_wp2_with fail
      refine wp_region_later (by kernel_rfl) (by kernel_rfl) ?_
      repeat (go_big_quiet_step ((go_at_call 37; exact quiet_later (c_eqReadingS x.A x'.A x.n x.c x'.n x'.c x.xs _ (s1.ext (ext_later _ _)) (s2.ext (ext_later _ _))))))
      refine wpQuiet_nil ?_
      intro w1 hx1
      go_wp2
      go_roundw
      case rel => exact ⟨k + 1, by omega, by go_num, hx.trans hx1⟩
      case measure => simp [intOf]; omega
    · go_wp2
      go_ret
      exact Ret.bool rfl hx

/-- what a law knows of a room that is not too great -/
structure RoomSz (r : Room) (n1 n2 n3 n4 n5 : Nat) : Prop where
  n1 : n1 ≤ 1048576
  nm : Named r.ns
  n2 : n2 ≤ 1048576
  n3 : n3 ≤ 1048576
  n4 : n4 ≤ 1048576
  n5 : n5 ≤ 1048576
  n6 : ∀ q ∈ r.rs, q.n ≤ 1048576
  n7 : (r.rs.map RS.n).sum ≤ 1048576
/-- a new copy of a network -/
def NewNet (ns : List Node) (ps : List Pipe) (w : World) (e : Ending) (w' : World) : Prop :=
  ∃ g1 g2, e = .returned (.agg #[.slice (some ⟨g1, 0, none⟩) ns.length ns.length, .slice (some ⟨g2, 0, none⟩) ps.length ps.length]) ∧ w.heap.size ≤ g1 ∧ g1 < g2 ∧ RowOf w' g1 223 Node.cells ns ∧ RowOf w' g2 181 Pipe.cells ps ∧ Ext w w'
set_option maxHeartbeats 2000000 in
theorem c_toNetwork (A1 A2 : Option Addr) (n1 c1 n2 c2 : Nat) (ns : List Node) (ps : List Pipe) (w : World) (h1 : SliceOf w 3 Node.cells A1 n1 c1 ns) (h2 : SliceOf w 5 Pipe.cells A2 n2 c2 ps) (m1 : n1 ≤ 1048576) (m2 : n2 ≤ 1048576) :
    Calls Tryz.prog 22 #[.agg #[.slice A1 n1 c1, .slice A2 n2 c2]] w (NewNet ns ps w) := by
  go_enter Tryz.func22, Tryz.ntmps22
  go_wp2_with fail
  refine (c_toNodeS A1 n1 c1 ns _ (h1.ext (((Ext.alloc _ _).and_alloc _).and_alloc _)) m1).mono ?_
  rintro e w1 ⟨g1, rfl, hg1, r1, hx1⟩
  have x1 : Ext w w1 := (((Ext.alloc _ _).and_alloc _).and_alloc _).trans hx1
  have z1a : w.heap.size < w1.heap.size := by have := hx1.size; simp at this; omega
  have z1b : w.heap.size + 1 < w1.heap.size := by have := hx1.size; simp at this; omega
  have z1c : w.heap.size + 1 + 1 < w1.heap.size := by have := hx1.size; simp at this; omega
  have hcl1 := hx1.cell
  have hfr1 := hx1.frozen
  simp at hg1
  have l1 := r1.lt
  go_wp2_with fail
  refine (c_toPipeS A2 n2 c2 ps _ (h2.ext (x1.setCell (by first | (simp; done) | (simp; omega) | omega) _)) m2).mono ?_
  rintro e w2 ⟨g2, rfl, hg2, r2, hx2⟩
  have x2 : Ext w w2 := (x1.setCell (by first | (simp; done) | (simp; omega) | omega) _).trans hx2
  have r1a := RowOf.ext (RowOf.far r1 (by first | (simp; done) | (simp; omega) | omega) _) hx2
  have z2a : w.heap.size < w2.heap.size := by have := hx2.size; simp at this; omega
  have z2b : w.heap.size + 1 < w2.heap.size := by have := hx2.size; simp at this; omega
  have z2c : w.heap.size + 1 + 1 < w2.heap.size := by have := hx2.size; simp at this; omega
  have hcl2 := hx2.cell
  have hfr2 := hx2.frozen
  simp at hg2
  go_wp2
  refine bodyPost_ret (v := .agg #[.slice (some ⟨g1, 0, none⟩) ns.length ns.length, .slice (some ⟨g2, 0, none⟩) ps.length ps.length]) (by simp [results, Tryz.results22, go_sem, hcl2, hcl1, z1b]) rfl ⟨g1, g2, rfl, ?_, ?_, ?_, ?_, ?_⟩
  · omega
  · omega
  · repeat (refine RowOf.far ?_ (by first | (simp; done) | (simp; omega) | omega) _)
    exact r1a
  · repeat (refine RowOf.far ?_ (by first | (simp; done) | (simp; omega) | omega) _)
    exact r2
  · repeat (refine Ext.setCell ?_ (by first | (simp; done) | (simp; omega) | omega) _)
    exact x2

set_option maxHeartbeats 1000000 in
theorem c_eqNetwork (A1 A2 B1 B2 : Option Addr) (n1 c1 n2 c2 m1 d1 m2 d2 : Nat) (ns : List Node) (ps : List Pipe) (w : World) (h1 : SliceOf w 3 Node.cells A1 n1 c1 ns) (h2 : SliceOf w 5 Pipe.cells A2 n2 c2 ps) (i1 : SliceOf w 3 Node.cells B1 m1 d1 ns) (i2 : SliceOf w 5 Pipe.cells B2 m2 d2 ps) :
    Calls Tryz.prog 27 #[.agg #[.slice A1 n1 c1, .slice A2 n2 c2], .agg #[.slice B1 m1 d1, .slice B2 m2 d2]] w (Ret (.bool true) w) := by
  go_enter Tryz.func27, Tryz.ntmps27
  go_wp2_with fail
  have x0 : Ext w ((w.alloc (.cells #[.slice A1 n1 c1, .slice A2 n2 c2] 45)).alloc (.cells #[.slice B1 m1 d1, .slice B2 m2 d2] 45)) := (Ext.alloc _ _).and_alloc _
  refine (c_eqNodeS _ _ _ _ _ _ ns _ (h1.ext x0) (i1.ext x0)).mono ?_
  rintro e w1 ⟨rfl, hx1⟩
  have hcl1 := hx1.cell
  go_wp2_with fail
  refine (c_eqPipeS _ _ _ _ _ _ ps _ (h2.ext (x0.trans hx1)) (i2.ext (x0.trans hx1))).mono ?_
  rintro e w2 ⟨rfl, hx2⟩
  go_wp2_with fail
  go_ret
  exact Ret.bool rfl ((x0.trans hx1).trans hx2)

/-- the same room elsewhere -/
def Room.Like (r r' : Room) : Prop := r.ns = r'.ns ∧ r.ps = r'.ps ∧ r.xs = r'.xs ∧ r.L = r'.L ∧ r.rs.map RS.xs = r'.rs.map RS.xs
theorem Room.Like.symm {r r' : Room} (h : r.Like r') : r'.Like r := ⟨h.1.symm, h.2.1.symm, h.2.2.1.symm, h.2.2.2.1.symm, h.2.2.2.2.symm⟩
theorem Room.Like.trans {r r' r'' : Room} (h : r.Like r') (k : r'.Like r'') : r.Like r'' := ⟨h.1.trans k.1, h.2.1.trans k.2.1, h.2.2.1.trans k.2.2.1, h.2.2.2.1.trans k.2.2.2.1, h.2.2.2.2.trans k.2.2.2.2⟩
theorem roomB_like {n1 : Int} {r r' : Room} (h : r.Like r') : roomB n1 r = roomB n1 r' := by
  obtain ⟨h1, h2, h3, h4, h5⟩ := h
  have hl := congrArg List.length h5
  simp at hl
  have ha : ∀ rs : List RS, rs.all (fun q => readsB n1 q.xs) = (rs.map RS.xs).all (readsB n1) := fun rs => by rw [List.all_map]; rfl
  unfold roomB
  rw [h1, h2, h3, h4, hl, ha, ha, h5]
end Go.Proofs.YtfkpghdmljjegaaGreat

namespace Go.Proofs.YtfkpghdmljjegaaGreat
open Go.Joins Go.RowKit Go.ChangeShapes Go.WideShapes Go.Deep

section
variable {H : Type} {enc : TypeId × Value → H} {P : Program} {w : World} {base : Nat} {spare : Nat → Bool} {held : Bool}
/-- every field of a structure is an int64 -/
def allInt (P : Program) (fs : Array Field) : Bool := fs.toList.all fun f => match P.underlying f.type with | some (.int .i64) => true | _ => false
theorem allInt_of {fs : Array Field} (h : allInt P fs = true) {j : Nat} {f : Field} (hj : fs[j]? = some f) : P.underlying f.type = some (.int .i64) := by
  have := List.all_eq_true.1 h f (by rw [Array.mem_toList_iff]; exact Array.mem_of_getElem? hj)
  split at this
  · assumption
  · cases this
theorem mk_list {α : Type} {p : Nat → α → Prop} (n : Nat) (h : ∀ i, i < n → ∃ x, p i x) : ∃ xs : List α, xs.length = n ∧ ∀ i x, xs[i]? = some x → p i x := by
  induction n with
  | zero => exact ⟨[], rfl, fun i x hx => by simp at hx⟩
  | succ n ih =>
    obtain ⟨xs, hl, hp⟩ := ih (fun i hi => h i (by omega))
    obtain ⟨x, hx⟩ := h n (by omega)
    refine ⟨xs ++ [x], by simp [hl], fun i y hy => ?_⟩
    by_cases hi : i < n
    · rw [List.getElem?_append_left (by omega)] at hy; exact hp i y hy
    · have hlt : i < (xs ++ [x]).length := (List.getElem?_eq_some_iff.1 hy).1
      have : i = n := by simp [hl] at hlt; omega
      subst this
      rw [List.getElem?_append_right (by omega)] at hy
      simp [hl] at hy
      subst hy
      exact hx
/-- a slice of structures of integers that came in -/
theorem open_flat {t e : TypeId} {fs : Array Field} {fuel : Nat} {v : Value} {x : DataW H × List MemPlace} (ht : P.underlying t = some (.slice e)) (he : P.underlying e = some (.struct fs))
    (hone : oneCellFields P fs = true) (hint : allInt P fs = true) (hC : P.cellsOf e = fs.size) (h0 : 0 < fs.size) (h : DataW.trod enc P w base spare held fuel t [v] = some x) :
    ∃ (A : Option Addr) (n c : Nat) (xss : List (List Int)), v = .slice A n c ∧ (∀ zs ∈ xss, zs.length = fs.size) ∧ SliceOf w fs.size (fun zs => zs.map (Value.int .i64)) A n c xss := by
  rcases open_slice ht h with ⟨h0, _⟩ | ⟨a, len, cap, m, n, D, Pl, hcs, hb, hl, hm, hmm, hx, hi⟩
  · simp at h0
    exact ⟨none, 0, 0, [], h0, by simp, by simp [SliceOf]⟩
  · simp at hcs
    have hlm : len ≤ m := by rw [hmm]; split <;> omega
    have hel : ∀ i, i < len → ∃ zs : List Int, zs.length = fs.size ∧ ∀ j u, (zs.map (Value.int .i64))[j]? = some u → w.cell? (a.add (i * fs.size + j)) = some u := by
      intro i hil
      obtain ⟨cs', hc, ht'⟩ := hi i (by omega)
      rw [hC] at hc
      obtain ⟨ys, n', hn', hy, hlen, hyl, hf⟩ := DataW.trod_struct he ht'
      obtain ⟨_, hcl, hat⟩ := World.cells?_some hc
      have hz : ∀ j, j < fs.size → ∃ z : Int, w.cell? (a.add (i * fs.size + j)) = some (.int .i64 z) := by
        intro j hj
        have hfj : fs[j]? = some fs[j] := Array.getElem?_eq_getElem hj
        obtain ⟨ho, hk⟩ := hone_of hone j _ hfj
        have h1 := hf j _ hfj
        rw [ho, hk] at h1
        have hone' : (cs'.drop j).take 1 = [cs'[j]'(by omega)] := by
          rw [List.drop_eq_getElem_cons (by omega)]
          rfl
        rw [hone'] at h1
        have hys : ys[j]? = some (ys[j]'(by omega)) := List.getElem?_eq_getElem (by omega)
        obtain ⟨z, hz, _, _⟩ := DataW.trod_int (allInt_of hint hfj) (h1.trans hys)
        have hv : cs'[j]? = some (cs'[j]'(by omega)) := List.getElem?_eq_getElem (by omega)
        refine ⟨z, ?_⟩
        rw [← Go.Deep.add_add, hat j hj, hv]
        simp at hz
        rw [hz]
      obtain ⟨zs, hzl, hzp⟩ := mk_list (p := fun j z => w.cell? (a.add (i * fs.size + j)) = some (.int .i64 z)) fs.size hz
      refine ⟨zs, hzl, fun j u hu => ?_⟩
      rw [List.getElem?_map] at hu
      cases hzj : zs[j]? with
      | none => rw [hzj] at hu; simp at hu
      | some z => rw [hzj] at hu; simp at hu; subst hu; exact hzp j z hzj
    obtain ⟨xss, hxl, hxp⟩ := mk_list len hel
    refine ⟨some a, len, cap, xss, hcs, ?_, hxl.symm, hl, hm, fun hn => ?_⟩
    · intro zs hzs
      obtain ⟨i, hi', hii⟩ := List.mem_iff_getElem.1 hzs
      exact (hxp i zs (by rw [List.getElem?_eq_getElem hi', hii])).1
    · obtain ⟨zs0, hz0⟩ : ∃ zs, xss[0]? = some zs := ⟨_, List.getElem?_eq_getElem (by omega)⟩
      obtain ⟨hl0, hc0⟩ := hxp 0 zs0 hz0
      obtain ⟨u, hu⟩ : ∃ u, (zs0.map (Value.int .i64))[0]? = some u := ⟨_, List.getElem?_eq_getElem (by simp; omega)⟩
      have hcell := hc0 0 u hu
      obtain ⟨b, off, spot⟩ := a
      have hspot : spot = none := by simpa [Addr.add] using World.cell?_spot hcell
      subst hspot
      have hadd : ∀ k, (Addr.add ⟨b, off, none⟩ k) = ⟨b, off + k, none⟩ := fun k => by unfold Addr.add; split <;> simp_all
      refine ⟨b, off, rfl, ?_, fun i zs hz j u hu => ?_⟩
      · have := World.block_lt_of_cell? w _ hcell
        rw [hadd] at this
        exact this
      · have := (hxp i zs hz).2 j u hu
        rw [hadd] at this
        rw [Nat.add_assoc]
        exact this
/-- the same cells as a slice of another type's elements -/
theorem SliceOf.map {α β : Type} {size : Nat} {f : α → List Value} {f' : β → List Value} {A : Option Addr} {n c : Nat} {xs : List α} (h : SliceOf w size f A n c xs) (g : α → β) (hg : ∀ x ∈ xs, f' (g x) = f x) :
    SliceOf w size f' A n c (xs.map g) := by
  obtain ⟨h1, h2, h3, h4⟩ := h
  refine ⟨by simpa using h1, h2, h3, fun hn => ?_⟩
  obtain ⟨b, off, hA, hb, hc⟩ := h4 hn
  refine ⟨b, off, hA, hb, fun i y hy j u hu => ?_⟩
  rw [List.getElem?_map] at hy
  cases hx : xs[i]? with
  | none => rw [hx] at hy; simp at hy
  | some x =>
    rw [hx] at hy
    simp at hy
    subst hy
    exact hc i x hx j u (by rw [← hg x (List.mem_of_getElem? hx)]; exact hu)
end
end Go.Proofs.YtfkpghdmljjegaaGreat

namespace Go.Proofs.YtfkpghdmljjegaaGreat
open Go.Joins Go.RowKit Go.ChangeShapes Go.WideShapes Go.Deep

section
variable {H : Type} {enc : TypeId × Value → H} {P : Program} {w : World} {base : Nat} {spare : Nat → Bool} {held : Bool}
/-- a slice that came in, element by element -/
theorem open_elems {t e : TypeId} {C : Nat} {fuel : Nat} {v : Value} {x : DataW H × List MemPlace} (ht : P.underlying t = some (.slice e)) (hC : P.cellsOf e = C) (h0 : 0 < C)
    (h : DataW.trod enc P w base spare held fuel t [v] = some x) :
    ∃ (A : Option Addr) (n c : Nat) (xss : List (List Value)), v = .slice A n c ∧ (∀ vs ∈ xss, vs.length = C ∧ ∃ fuel' y, DataW.trod enc P w base spare held fuel' e vs = some y) ∧ SliceOf w C id A n c xss := by
  rcases open_slice ht h with ⟨h0, _⟩ | ⟨a, len, cap, m, n, D, Pl, hcs, hb, hl, hm, hmm, hx, hi⟩
  · simp at h0
    exact ⟨none, 0, 0, [], h0, by simp, by simp [SliceOf]⟩
  · simp at hcs
    have hlm : len ≤ m := by rw [hmm]; split <;> omega
    have hel : ∀ i, i < len → ∃ vs : List Value, (vs.length = C ∧ ∃ fuel' y, DataW.trod enc P w base spare held fuel' e vs = some y) ∧ ∀ j u, vs[j]? = some u → w.cell? (a.add (i * C + j)) = some u := by
      intro i hil
      obtain ⟨cs', hc, ht'⟩ := hi i (by omega)
      rw [hC] at hc
      obtain ⟨_, hcl, hat⟩ := World.cells?_some hc
      refine ⟨cs', ⟨hcl, _, _, ht'⟩, fun j u hu => ?_⟩
      have hj : j < C := by rw [← hcl]; exact (List.getElem?_eq_some_iff.1 hu).1
      rw [← Go.Deep.add_add, hat j hj, hu]
    obtain ⟨xss, hxl, hxp⟩ := mk_list len hel
    refine ⟨some a, len, cap, xss, hcs, ?_, hxl.symm, hl, hm, fun hn => ?_⟩
    · intro zs hzs
      obtain ⟨i, hi', hii⟩ := List.mem_iff_getElem.1 hzs
      exact (hxp i zs (by rw [List.getElem?_eq_getElem hi', hii])).1
    · obtain ⟨zs0, hz0⟩ : ∃ zs, xss[0]? = some zs := ⟨_, List.getElem?_eq_getElem (by omega)⟩
      obtain ⟨⟨hl0, _⟩, hc0⟩ := hxp 0 zs0 hz0
      obtain ⟨u, hu⟩ : ∃ u, zs0[0]? = some u := ⟨_, List.getElem?_eq_getElem (by omega)⟩
      have hcell := hc0 0 u hu
      obtain ⟨b, off, spot⟩ := a
      have hspot : spot = none := by simpa [Addr.add] using World.cell?_spot hcell
      subst hspot
      have hadd : ∀ k, (Addr.add ⟨b, off, none⟩ k) = ⟨b, off + k, none⟩ := fun k => by unfold Addr.add; split <;> simp_all
      refine ⟨b, off, rfl, ?_, fun i zs hz j u hu => ?_⟩
      · have := World.block_lt_of_cell? w _ hcell
        rw [hadd] at this
        exact this
      · have := (hxp i zs hz).2 j u hu
        rw [hadd] at this
        rw [Nat.add_assoc]
        exact this
theorem pick_list {β : Type} {f' : β → List Value} {p : β → Prop} (xss : List (List Value)) (hp : ∀ vs ∈ xss, ∃ y : β, f' y = vs ∧ p y) : ∃ ys : List β, ys.map f' = xss ∧ ∀ y ∈ ys, p y := by
  induction xss with
  | nil => exact ⟨[], rfl, by simp⟩
  | cons vs rest ih =>
    obtain ⟨ys, h1, h2⟩ := ih (fun v hv => hp v (List.mem_cons_of_mem _ hv))
    obtain ⟨y, h3, h4⟩ := hp vs (List.mem_cons_self ..)
    refine ⟨y :: ys, by rw [List.map_cons, h1, h3], fun z hz => ?_⟩
    rcases List.mem_cons.1 hz with rfl | hz
    · exact h4
    · exact h2 z hz
/-- the same cells as a slice of elements that they spell -/
theorem SliceOf.pick {β : Type} {size : Nat} {f' : β → List Value} {p : β → Prop} {A : Option Addr} {n c : Nat} {xss : List (List Value)} (h : SliceOf w size id A n c xss) (hp : ∀ vs ∈ xss, ∃ y : β, f' y = vs ∧ p y) :
    ∃ ys : List β, SliceOf w size f' A n c ys ∧ ∀ y ∈ ys, p y := by
  obtain ⟨ys, hy, hq⟩ := pick_list xss hp
  subst hy
  obtain ⟨h1, h2, h3, h4⟩ := h
  refine ⟨ys, ⟨by simpa using h1, h2, h3, fun hn => ?_⟩, hq⟩
  obtain ⟨b, off, hA, hb, hc⟩ := h4 hn
  refine ⟨b, off, hA, hb, fun i y hy j u hu => hc i (f' y) ?_ j u hu⟩
  rw [List.getElem?_map, hy]; rfl
/-- a structure of fields, by the cells of each -/
theorem open_fields {t : TypeId} {fs : Array Field} {fuel : Nat} {cs : List Value} {x : DataW H × List MemPlace} (hs : P.underlying t = some (.struct fs)) (h : DataW.trod enc P w base spare held fuel t cs = some x)
    {j : Nat} {f : Field} (hj : fs[j]? = some f) {o k : Nat} (ho : f.offset = o) (hk : P.cellsOf f.type = k) : ∃ n y, DataW.trod enc P w base spare held n f.type ((cs.drop o).take k) = some y := by
  obtain ⟨ys, n', _, _, hlen, hyl, hf⟩ := DataW.trod_struct hs h
  have h1 := hf j f hj
  rw [ho, hk] at h1
  have hl : j < ys.length := by
    rw [hyl]
    exact (Array.getElem?_eq_some_iff.1 hj).1
  exact ⟨n', ys[j], h1.trans (List.getElem?_eq_getElem hl)⟩
end
end Go.Proofs.YtfkpghdmljjegaaGreat

namespace Go.Proofs.YtfkpghdmljjegaaGreat
open Go.RowKit Go.ChangeShapes Go.WideShapes Go.ChangeAt Go.Deep Go.Joins
/-- a new copy of a room -/
def CopiedRoom (r : Room) (w : World) (e : Ending) (w' : World) : Prop :=
  ∃ g1 g2 g3 g4 g5 rs', e = .returned (.agg #[.slice (some ⟨g1, 0, none⟩) r.ns.length r.ns.length, .slice (some ⟨g2, 0, none⟩) r.ps.length r.ps.length, .slice (some ⟨g3, 0, none⟩) r.xs.length r.xs.length, .slice (some ⟨g4, 0, none⟩) r.L.length r.L.length, .slice (some ⟨g5, 0, none⟩) r.rs.length r.rs.length]) ∧
    w.heap.size ≤ g1 ∧ g1 < g2 ∧ g2 < g3 ∧ g3 < g4 ∧ g4 < g5 ∧ RowOf w' g1 223 Node.cells r.ns ∧ RowOf w' g2 181 Pipe.cells r.ps ∧ RowOf w' g3 153 Contract.cells r.xs ∧ RowOf w' g4 157 Nomination.cells r.L ∧
    RowOf w' g5 60 RS.cells rs' ∧ rs'.map RS.xs = r.rs.map RS.xs ∧ (∀ q ∈ rs', OwnRS w' g5 q) ∧ RsApart rs' ∧ Ext w w'
theorem OwnRS.far {w : World} {g : Nat} {q : RS} (h : OwnRS w g q) {p : Addr} (hp : p.block ≤ g) (u : Value) : OwnRS (w.setCell p u) g q := let ⟨g1, a, b, c, d, e, r⟩ := h; ⟨g1, a, b, c, d, e, r.far (by omega) u⟩
theorem open_nodes {H : Type} {enc : TypeId × Value → H} {w : World} {base : Nat} {spare : Nat → Bool} {held : Bool} {fuel : Nat} {v : Value} {x : DataW H × List MemPlace}
    (h : DataW.trod enc Tryz.prog w base spare held fuel 31 [v] = some x) : ∃ (A : Option Addr) (n c : Nat) (ns : List Node), v = .slice A n c ∧ SliceOf w 3 Node.cells A n c ns ∧ Named0 ns := by
  obtain ⟨A, n, c, xss, rfl, hp, hs⟩ := open_elems (C := 3) Tryz.underlying31 (by kernel_rfl) (by omega) h
  obtain ⟨ns, hns, hnm⟩ := SliceOf.pick (f' := Node.cells) (p := fun x => x.name.size ≤ 9223372036854775807) hs (by
    intro vs hvs
    obtain ⟨hl, f', y, hy⟩ := hp vs hvs
    match vs, hl with
    | [u0, u1, u2], _ =>
      obtain ⟨i0, y0, f0⟩ := open_fields Tryz.underlying218 hy (j := 0) rfl (o := 0) (k := 1) rfl (by kernel_rfl)
      obtain ⟨i1, y1, f1⟩ := open_fields Tryz.underlying218 hy (j := 1) rfl (o := 1) (k := 1) rfl (by kernel_rfl)
      obtain ⟨i2, y2, f2⟩ := open_fields Tryz.underlying218 hy (j := 2) rfl (o := 2) (k := 1) rfl (by kernel_rfl)
      obtain ⟨s, e0, _, hsz⟩ := DataW.trod_string Tryz.underlying9 f0
      obtain ⟨z1, e1, _, _⟩ := DataW.trod_int Tryz.underlying2 f1
      obtain ⟨z2, e2, _, _⟩ := DataW.trod_int Tryz.underlying2 f2
      have k0 : [u0] = [.string s] := e0
      have k1 : [u1] = [.int .i64 z1] := e1
      have k2 : [u2] = [.int .i64 z2] := e2
      simp only [List.cons.injEq, and_true] at k0 k1 k2
      exact ⟨⟨s, z1, z2⟩, by rw [k0, k1, k2]; rfl, hsz⟩)
  exact ⟨A, n, c, ns, rfl, hns, hnm⟩

def pipeOf : List Int → Pipe
  | [a, b, c, d, e] => ⟨a, b, c, d, e⟩
  | _ => ⟨0, 0, 0, 0, 0⟩
def conOf : List Int → Contract
  | [a, b, c, d, e, f, g, h] => ⟨a, b, c, d, e, f, g, h⟩
  | _ => ⟨0, 0, 0, 0, 0, 0, 0, 0⟩
def nomOf : List Int → Nomination
  | [a, b, c, d] => ⟨a, b, c, d⟩
  | _ => ⟨0, 0, 0, 0⟩
def readOf : List Int → Reading
  | [a, b] => ⟨a, b⟩
  | _ => ⟨0, 0⟩
section
variable {H : Type} {enc : TypeId × Value → H} {w : World} {base : Nat} {spare : Nat → Bool} {held : Bool}
theorem open_net {fuel : Nat} {v0 v1 : Value} {x : DataW H × List MemPlace} (h : DataW.trod enc Tryz.prog w base spare held fuel 34 [v0, v1] = some x) :
    ∃ (A1 A2 : Option Addr) (n1 c1 n2 c2 : Nat) (ns : List Node) (ps : List Pipe), v0 = .slice A1 n1 c1 ∧ v1 = .slice A2 n2 c2 ∧ SliceOf w 3 Node.cells A1 n1 c1 ns ∧ SliceOf w 5 Pipe.cells A2 n2 c2 ps ∧ Named0 ns := by
  obtain ⟨i0, y0, f0⟩ := open_fields Tryz.underlying34 h (j := 0) rfl (o := 0) (k := 1) rfl (by kernel_rfl)
  obtain ⟨i1, y1, f1⟩ := open_fields Tryz.underlying34 h (j := 1) rfl (o := 1) (k := 1) rfl (by kernel_rfl)
  obtain ⟨A1, n1, c1, ns, rfl, s1, hnm⟩ := open_nodes f0
  obtain ⟨A2, n2, c2, ps, rfl, hl, s2⟩ := open_flat Tryz.underlying32 Tryz.underlying226 (by kernel_rfl) (by kernel_rfl) (by kernel_rfl) (by decide) f1
  have s2' : SliceOf w 5 Pipe.cells A2 n2 c2 (ps.map pipeOf) := SliceOf.map s2 pipeOf (by
    intro zs hzs
    match zs, hl zs hzs with
    | [a, b, c, d, e], _ => rfl)
  exact ⟨A1, A2, n1, c1, n2, c2, ns, _, rfl, rfl, s1, s2', hnm⟩
theorem open_contracts {fuel : Nat} {v : Value} {x : DataW H × List MemPlace} (h : DataW.trod enc Tryz.prog w base spare held fuel 35 [v] = some x) :
    ∃ (A : Option Addr) (n c : Nat) (xs : List Contract), v = .slice A n c ∧ SliceOf w 8 Contract.cells A n c xs := by
  obtain ⟨A, n, c, xs, rfl, hl, s⟩ := open_flat Tryz.underlying35 Tryz.underlying155 (by kernel_rfl) (by kernel_rfl) (by kernel_rfl) (by decide) h
  exact ⟨A, n, c, _, rfl, SliceOf.map s conOf (by
    intro zs hzs
    match zs, hl zs hzs with
    | [a, b, c, d, e, f, g, h], _ => rfl)⟩
theorem open_reads {fuel : Nat} {v : Value} {x : DataW H × List MemPlace} (h : DataW.trod enc Tryz.prog w base spare held fuel 102 [v] = some x) :
    ∃ (A : Option Addr) (n c : Nat) (xs : List Reading), v = .slice A n c ∧ SliceOf w 2 Reading.cells A n c xs := by
  obtain ⟨A, n, c, xs, rfl, hl, s⟩ := open_flat Tryz.underlying102 Tryz.underlying196 (by kernel_rfl) (by kernel_rfl) (by kernel_rfl) (by decide) h
  exact ⟨A, n, c, _, rfl, SliceOf.map s readOf (by
    intro zs hzs
    match zs, hl zs hzs with
    | [a, b], _ => rfl)⟩
theorem open_readss {fuel : Nat} {v : Value} {x : DataW H × List MemPlace} (h : DataW.trod enc Tryz.prog w base spare held fuel 88 [v] = some x) :
    ∃ (A : Option Addr) (n c : Nat) (rs : List RS), v = .slice A n c ∧ SliceOf w 1 RS.cells A n c rs ∧ ∀ q ∈ rs, SliceOf w 2 Reading.cells q.A q.n q.c q.xs := by
  obtain ⟨A, n, c, xss, rfl, hp, hs⟩ := open_elems (C := 1) Tryz.underlying88 (by kernel_rfl) (by omega) h
  obtain ⟨rs, hrs, hq⟩ := SliceOf.pick (f' := RS.cells) (p := fun q => SliceOf w 2 Reading.cells q.A q.n q.c q.xs) hs (by
    intro vs hvs
    obtain ⟨hl, f', y, hy⟩ := hp vs hvs
    match vs, hl with
    | [u0], _ =>
      obtain ⟨A, n, c, xs, rfl, s⟩ := open_reads hy
      exact ⟨⟨A, n, c, xs⟩, rfl, s⟩)
  exact ⟨A, n, c, rs, rfl, hrs, hq⟩
end
end Go.Proofs.YtfkpghdmljjegaaGreat
