/-
  The helpers of the laws on nodes, networks, lists of lists: measuring. The helpers of the laws on lists of lists of readings: measuring, copying, comparing. The helpers of the laws on rooms: comparing, measuring, copying.
-/
import Derived.Test.YtfkpghdmljjegaaGreatVb13
namespace Go.Proofs.YtfkpghdmljjegaaGreat
open Go.RowKit
/-- what a measuring helper leaves: -1, or what is left and what is known then -/
def Sized (P : Prop) (left : Int) (w : World) (e : Ending) (w' : World) : Prop := ∃ z : Int, e = .returned (.int .i64 z) ∧ Ext w w' ∧ (z = -1 ∨ (0 ≤ z ∧ z ≤ left ∧ P))
def Named (ns : List Node) : Prop := ∀ x ∈ ns, x.name.size ≤ 1048576
def Named0 (ns : List Node) : Prop := ∀ x ∈ ns, x.name.size ≤ 9223372036854775807
theorem c_szNode (x : Node) (left : Int) (w : World) (h0 : 0 ≤ left) (h1 : left ≤ 1048576) (hx : x.name.size ≤ 9223372036854775807) :
    Calls Tryz.prog 175 #[.agg #[.string x.name, .int .i64 x.low, .int .i64 x.high], .int .i64 left] w (Sized (x.name.size ≤ 1048576) left w) := by
  by_cases h : left < x.name.size
  · have e1 : IntKind.i64.wrap (left - (x.name.size : Int)) = left - (x.name.size : Int) := IntWalk.i64_in _ (by omega)
    have h' : left - (x.name.size : Int) < 0 := by omega
    go_enter Tryz.func175, Tryz.ntmps175
    go_wp2_with fail
    go_ret
    exact ⟨-1, rfl, Ext.alloc _ _, .inl rfl⟩
  · have e1 : IntKind.i64.wrap (left - (x.name.size : Int)) = left - (x.name.size : Int) := IntWalk.i64_in _ (by omega)
    have h' : ¬ left - (x.name.size : Int) < 0 := by omega
    go_enter Tryz.func175, Tryz.ntmps175
    go_wp2_with fail
    go_ret
    exact ⟨_, rfl, Ext.alloc _ _, .inr ⟨by omega, by omega, by omega⟩⟩
set_option maxHeartbeats 1000000 in
theorem c_szNodeS (A : Option Addr) (n c : Nat) (ns : List Node) (left : Int) (w : World) (hs : SliceOf w 3 Node.cells A n c ns) (hnm : Named0 ns) (h0 : 0 ≤ left) (h1 : left ≤ 1048576) :
    Calls Tryz.prog 98 #[.slice A n c, .int .i64 left] w (Sized (n ≤ 1048576 ∧ Named ns) left w) := by
  have hm := hs.max
  have hcap := hs.cap
  have HL := hide hs.len
  have HNM := hide hnm
  clear hnm
  by_cases h : left < n
  · have h' : left - (n : Int) < 0 := by omega
    go_enter Tryz.func98, Tryz.ntmps98
    go_wp2_with fail
    go_ret
    exact ⟨-1, rfl, Ext.refl _, .inl rfl⟩
  have h' : ¬ left - (n : Int) < 0 := by omega
  have hn : n ≤ 1048576 := by omega
  go_enter Tryz.func98, Tryz.ntmps98
  go_wp2_with fail
  go_loopw [1, 5] (fun z i wr => ∃ (k : Nat) (y : Int), k ≤ n ∧ z = .int .i64 y ∧ i = .int .i64 k ∧ 0 ≤ y ∧ y ≤ left ∧ Hid (∀ (j : Nat) (p : Node), j < k → ns[j]? = some p → p.name.size ≤ 1048576) ∧ Ext w wr) (fun _ i _ => n - (intOf i).toNat)
  case atStart => exact ⟨0, _, Nat.zero_le _, rfl, rfl, by omega, by omega, hide (fun j p hj => absurd hj (by omega)), Ext.refl _⟩
  case round =>
    obtain ⟨k, y, hk, rfl, rfl, hy0, hy1, HK, hx⟩ := hrel
    by_cases hlt : k < n
    · obtain ⟨bb, off, p, rfl, hbb, hxk, t⟩ := (hs.ext hx).get hlt
      have t0 := t 0 _ rfl
      have t1 := t 1 _ rfl
      have t2 := t 2 _ rfl
      simp only [Nat.add_zero] at t0
      have hp := HNM.out p (List.mem_of_getElem? hxk)
      have HX := hide hxk
      clear hxk t
      go_wp2_with fail
      refine (c_szNode p y _ hy0 (by omega) hp).mono ?_
      rintro e w1 ⟨z, rfl, hx1, rfl | ⟨hz0, hz1, hz2⟩⟩
      · go_wp2_with fail
        go_ret
        exact ⟨-1, rfl, hx.trans hx1, .inl rfl⟩
      · have hz' : ¬ z < 0 := by omega
        go_wp2_with fail
        go_roundw
        case rel =>
          refine ⟨k + 1, z, by omega, rfl, by go_num, by omega, by omega, hide fun j q hj hq => ?_, hx.trans hx1⟩
          by_cases e : j = k
          · subst e; rw [HX.out] at hq; injection hq with hq; subst hq; exact hz2
          · exact HK.out j q (by omega) hq
        case measure => simp [intOf]; omega
    · go_wp2_with fail
      go_ret
      refine ⟨y, rfl, hx, .inr ⟨hy0, hy1, hn, fun q hq => ?_⟩⟩
      obtain ⟨j, hj, rfl⟩ := List.mem_iff_getElem.1 hq
      exact HK.out j _ (by have := HL.out; omega) (List.getElem?_eq_getElem hj)
theorem c_szNetwork (A1 A2 : Option Addr) (n1 c1 n2 c2 : Nat) (ns : List Node) (left : Int) (w : World) (hs1 : SliceOf w 3 Node.cells A1 n1 c1 ns) (h21 : n2 ≤ c2) (h22 : c2 ≤ 9223372036854775807) (hnm : Named0 ns) (h0 : 0 ≤ left) (h1 : left ≤ 1048576) :
    Calls Tryz.prog 18 #[.agg #[.slice A1 n1 c1, .slice A2 n2 c2], .int .i64 left] w (Sized ((n1 ≤ 1048576 ∧ Named ns) ∧ n2 ≤ 1048576) left w) := by
  go_enter Tryz.func18, Tryz.ntmps18
  go_wp2_with fail
  refine (c_szNodeS A1 n1 c1 ns left _ (hs1.ext (Ext.alloc _ _)) hnm h0 h1).mono ?_
  rintro e w1 ⟨z, rfl, hx1, rfl | ⟨hz0, hz1, hz2⟩⟩
  · go_wp2_with fail
    go_ret
    exact ⟨-1, rfl, hx1.box, .inl rfl⟩
  have hz' : ¬ z < 0 := by omega
  have hcl := hx1.cell
  go_wp2_with fail
  refine (c_szPipeS A2 n2 c2 z _ h21 h22 hz0 (by omega)).mono ?_
  rintro e w' ⟨rfl, rfl⟩
  by_cases h : z < n2
  · rw [if_pos h]
    go_wp2_with fail
    go_ret
    exact ⟨-1, rfl, hx1.box, .inl rfl⟩
  · rw [if_neg h]
    have h' : ¬ z - (n2 : Int) < 0 := by omega
    go_wp2_with fail
    go_ret
    exact ⟨_, rfl, hx1.box, .inr ⟨by omega, by omega, hz2, by omega⟩⟩
end Go.Proofs.YtfkpghdmljjegaaGreat

namespace Go.Proofs.YtfkpghdmljjegaaGreat
open Go.RowKit
theorem sum_take {rs : List RS} {k : Nat} {p : RS} (h : rs[k]? = some p) : ((rs.take (k + 1)).map RS.n).sum = ((rs.take k).map RS.n).sum + p.n := by
  rw [List.take_add_one, h, List.map_append, List.sum_append]; simp
set_option maxHeartbeats 1000000 in
theorem c_szReadingSS (A : Option Addr) (n c : Nat) (rs : List RS) (left : Int) (w : World) (hs : SliceOf w 1 RS.cells A n c rs) (h6 : ∀ q ∈ rs, SliceOf w 2 Reading.cells q.A q.n q.c q.xs) (h0 : 0 ≤ left) (h1 : left ≤ 1048576) :
    Calls Tryz.prog 53 #[.slice A n c, .int .i64 left] w (Sized (n ≤ 1048576 ∧ (∀ q ∈ rs, q.n ≤ 1048576) ∧ (rs.map RS.n).sum ≤ 1048576) left w) := by
  have hm := hs.max
  have hcap := hs.cap
  have HL := hide hs.len
  by_cases h : left < n
  · have h' : left - (n : Int) < 0 := by omega
    go_enter Tryz.func53, Tryz.ntmps53
    go_wp2_with fail
    go_ret
    exact ⟨-1, rfl, Ext.refl _, .inl rfl⟩
  have h' : ¬ left - (n : Int) < 0 := by omega
  have hn : n ≤ 1048576 := by omega
  go_enter Tryz.func53, Tryz.ntmps53
  go_wp2_with fail
  go_loopw [1, 5] (fun z i wr => ∃ (k : Nat) (y : Int), k ≤ n ∧ z = .int .i64 y ∧ i = .int .i64 k ∧ 0 ≤ y ∧ y ≤ left ∧ Hid (∀ (j : Nat) (p : RS), j < k → rs[j]? = some p → p.n ≤ 1048576) ∧ Hid ((((rs.take k).map RS.n).sum : Int) + y ≤ left) ∧ Ext w wr) (fun _ i _ => n - (intOf i).toNat)
  case atStart => exact ⟨0, _, Nat.zero_le _, rfl, rfl, by omega, by omega, hide (fun j p hj => absurd hj (by omega)), hide (by simp; omega), Ext.refl _⟩
  case round =>
    obtain ⟨k, y, hk, rfl, rfl, hy0, hy1, HK, HS, hx⟩ := hrel
    by_cases hlt : k < n
    · obtain ⟨bb, off, p, rfl, hbb, hxk, t⟩ := (hs.ext hx).get hlt
      have t0 := t 0 _ rfl
      simp only [Nat.add_zero, Nat.mul_one] at t0
      have hp := h6 p (List.mem_of_getElem? hxk)
      have HX := hide hxk
      clear hxk t
      go_wp2_with fail
      refine (c_szReadingS p.A p.n p.c y _ hp.cap hp.max hy0 (by omega)).mono ?_
      by_cases hq : y < p.n
      · rw [if_pos hq]
        rintro e w' ⟨rfl, rfl⟩
        go_wp2_with fail
        go_ret
        exact ⟨-1, rfl, hx, .inl rfl⟩
      · rw [if_neg hq]
        rintro e w' ⟨rfl, rfl⟩
        have hz' : ¬ y - (p.n : Int) < 0 := by omega
        go_wp2_with fail
        go_roundw
        case rel =>
          refine ⟨k + 1, _, by omega, rfl, by go_num, by omega, by omega, hide fun j q hj hq => ?_, hide (by rw [sum_take HX.out]; have := HS.out; omega), hx⟩
          by_cases e : j = k
          · subst e; rw [HX.out] at hq; injection hq with hq; subst hq; omega
          · exact HK.out j q (by omega) hq
        case measure => simp [intOf]; omega
    · go_wp2_with fail
      go_ret
      refine ⟨y, rfl, hx, .inr ⟨hy0, hy1, hn, fun q hq => ?_, ?_⟩⟩
      · obtain ⟨j, hj, rfl⟩ := List.mem_iff_getElem.1 hq
        exact HK.out j _ (by have := HL.out; omega) (List.getElem?_eq_getElem hj)
      · have h1 := HS.out
        rw [List.take_of_length_le (by have := HL.out; omega)] at h1
        omega

theorem rs_info : (Tryz.prog.info? 60).map (fun i => (i.zero, i.size, i.bytes)) = some (some (.slice none 0 0), 1, 24) := by kernel_rfl
/-- a list of readings in a block of its own -/
def OwnRS (w : World) (g : Nat) (q : RS) : Prop := ∃ g1, g < g1 ∧ q.A = some ⟨g1, 0, none⟩ ∧ q.n = q.xs.length ∧ q.c = q.xs.length ∧ q.xs.length ≤ 1048576 ∧ RowOf w g1 176 Reading.cells q.xs
theorem OwnRS.ext {w w' : World} {g : Nat} {q : RS} (h : OwnRS w g q) (hx : Ext w w') : OwnRS w' g q := let ⟨g1, a, b, c, d, e, r⟩ := h; ⟨g1, a, b, c, d, e, r.ext hx⟩
theorem OwnRS.set {w : World} {g o : Nat} {q : RS} (h : OwnRS w g q) (u : Value) : OwnRS (w.setCell ⟨g, o, none⟩ u) g q := let ⟨g1, a, b, c, d, e, r⟩ := h; ⟨g1, a, b, c, d, e, r.far (p := ⟨g, o, none⟩) (by show g1 ≠ g; omega) u⟩
theorem OwnRS.slice {w : World} {g : Nat} {q : RS} (h : OwnRS w g q) : SliceOf w 2 Reading.cells q.A q.n q.c q.xs := by
  obtain ⟨g1, _, hA, hn, hc, hl, r⟩ := h
  rw [hA, hc, hn]
  exact r.slice reading_len rfl (by omega)
/-- lists at different places -/
def RsApart (rs : List RS) : Prop := ∀ (i j : Nat) (q q' : RS), i ≠ j → rs[i]? = some q → rs[j]? = some q' → q.A ≠ q'.A
/-- a new list of lists -/
def NewRS (rs : List RS) (w : World) (e : Ending) (w' : World) : Prop :=
  ∃ g rs', e = .returned (.slice (some ⟨g, 0, none⟩) rs.length rs.length) ∧ w.heap.size ≤ g ∧ RowOf w' g 60 RS.cells rs' ∧ rs'.map RS.xs = rs.map RS.xs ∧ (∀ q ∈ rs', OwnRS w' g q) ∧ RsApart rs' ∧ Ext w w'
theorem apart_put {L : List RS} {k : Nat} {y : RS} (h : RsApart (L.take k)) (hk : k < L.length) (hy : ∀ q ∈ L.take k, q.A ≠ y.A) : RsApart ((L.set k y).take (k + 1)) := by
  have he : (L.set k y).take (k + 1) = L.take k ++ [y] := by
    apply List.ext_getElem?
    intro j
    rw [List.getElem?_take, List.getElem?_set]
    by_cases h1 : j < k
    · rw [if_pos (by omega), if_neg (by omega), List.getElem?_append_left (by simp; omega), List.getElem?_take, if_pos h1]
    · by_cases h2 : j = k
      · subst h2; rw [if_pos (by omega), if_pos rfl, if_pos hk, List.getElem?_append_right (by simp; omega), show j - (List.take j L).length = 0 by rw [List.length_take]; omega]; rfl
      · rw [if_neg (by omega), List.getElem?_append_right (by simp; omega)]
        rw [List.getElem?_eq_none (by simp; omega)]
  rw [he]
  intro i j q q' hij hi hj
  rcases Nat.lt_or_ge i (L.take k).length with h1 | h1
  · rw [List.getElem?_append_left h1] at hi
    rcases Nat.lt_or_ge j (L.take k).length with h2 | h2
    · rw [List.getElem?_append_left h2] at hj
      exact h i j q q' hij hi hj
    · rw [List.getElem?_append_right h2, List.getElem?_singleton] at hj
      split at hj
      · injection hj with hj; subst hj; exact hy q (List.mem_of_getElem? hi)
      · cases hj
  · rw [List.getElem?_append_right h1, List.getElem?_singleton] at hi
    split at hi
    · injection hi with hi; subst hi
      rcases Nat.lt_or_ge j (L.take k).length with h2 | h2
      · rw [List.getElem?_append_left h2] at hj
        exact fun e => hy q' (List.mem_of_getElem? hj) e.symm
      · rw [List.getElem?_append_right h2, List.getElem?_singleton] at hj
        split at hj
        · omega
        · cases hj
    · cases hi
set_option maxRecDepth 8000 in
set_option maxHeartbeats 1000000 in
theorem c_toReadingSS (A : Option Addr) (n c : Nat) (rs : List RS) (w : World) (hs : SliceOf w 1 RS.cells A n c rs) (h6 : ∀ q ∈ rs, SliceOf w 2 Reading.cells q.A q.n q.c q.xs) (hn : n ≤ 1048576) (hq : ∀ q ∈ rs, q.n ≤ 1048576) :
    Calls Tryz.prog 55 #[.slice A n c] w (NewRS rs w) := by
  have hmk := fun W => run_make_flat (P := Tryz.prog) 75 60 _ _ 1 24 Tryz.underlying75 rs_info (f := RS.cells) ⟨none, 0, 0, []⟩ rfl rfl rfl (by omega) n (by omega) (by omega) W
  have hR0 := Row.new w 60 ((List.replicate n (⟨none, 0, 0, []⟩ : RS)).flatMap RS.cells)
  go_enter Tryz.func55, Tryz.ntmps55
  go_wp2_with fail
  go_loopw [4] (fun i wr => ∃ (k : Nat) (L : List RS), k ≤ n ∧ i = .int .i64 k ∧ L.length = n ∧ RowOf wr w.heap.size 60 RS.cells L ∧ Hid (∀ j, j < k → ∃ q, L[j]? = some q ∧ rs[j]?.map RS.xs = some q.xs ∧ OwnRS wr w.heap.size q) ∧ Hid (RsApart (L.take k)) ∧ Ext w wr) (fun i _ => n - (intOf i).toNat)
  case atStart => exact ⟨0, _, Nat.zero_le _, rfl, List.length_replicate, hR0, hide (fun j hj => absurd hj (by omega)), hide (fun i j q q' _ h => by simp at h), Ext.alloc _ _⟩
  case round =>
    obtain ⟨k, L, hk, rfl, hL, hrow, HK, HP, hx⟩ := hrel
    clear hR0 hmk
    have hgs := hrow.lt
    by_cases hlt : k < n
    · obtain ⟨b, off, x, rfl, hb, hxk, t⟩ := (hs.ext hx).get hlt
      have t0 := t 0 _ rfl
      simp only [Nat.add_zero, Nat.mul_one] at t0
      have hxm := List.mem_of_getElem? hxk
      have hx6 := h6 x hxm
      have hxn := hq x hxm
      have HXL := hide hx6.len
      have Hx := hide hxk
      have HL := hide hL
      clear t hxk hL
      go_wp2_with fail
      refine (c_toReadingS x.A x.n x.c x.xs _ (hx6.ext hx) hxn).mono ?_
      rintro e w1 ⟨g1, rfl, hg1, hr1, hx1⟩
      have hrow1 := hrow.ext hx1
      obtain ⟨v0, hv0⟩ := hrow1.there rs_len (i := k) (by rw [HL.out]; exact hlt) (j := 0) (by omega)
      have hf0 := hrow1.frozen k
      simp only [Nat.mul_one, Nat.add_zero] at hv0
      have hl1 := hrow1.lt
      go_wp2_with fail
      go_roundw
      case rel =>
        have hput := hrow1.put rs_len (i := k) (by rw [HL.out]; exact hlt) ⟨some ⟨g1, 0, none⟩, x.xs.length, x.xs.length, x.xs⟩
        rw [Nat.mul_one] at hput
        have hnew : OwnRS w1 w.heap.size ⟨some ⟨g1, 0, none⟩, x.xs.length, x.xs.length, x.xs⟩ := ⟨g1, by omega, rfl, rfl, rfl, by rw [← HXL.out]; exact hxn, hr1⟩
        refine ⟨k + 1, L.set k ⟨some ⟨g1, 0, none⟩, x.xs.length, x.xs.length, x.xs⟩, by omega, by go_num, by simpa using HL.out, hput, hide ?_, hide ?_, Ext.setCell (hx.trans hx1) (Nat.le_refl _) _⟩
        rotate_left
        · exact apart_put HP.out (by rw [HL.out]; exact hlt) (fun q hq => by
            obtain ⟨j, hj, hjq⟩ := List.mem_iff_getElem.1 hq
            simp at hj hjq
            obtain ⟨q', hq1, _, hq3⟩ := HK.out j (by omega)
            rw [List.getElem?_eq_getElem (by omega), hjq] at hq1
            injection hq1 with hq1
            subst hq1
            obtain ⟨g2, _, hA, _, _, _, hr2⟩ := hq3
            rw [hA]
            have := hr2.lt
            intro he
            injection he with he
            injection he with he
            omega)
        intro j hj
        rw [List.getElem?_set]
        by_cases e : k = j
        · subst e; rw [if_pos rfl, if_pos (by rw [HL.out]; exact hlt)]
          exact ⟨_, rfl, by rw [Hx.out]; rfl, hnew.set _⟩
        · rw [if_neg e]
          obtain ⟨q, hq1, hq2, hq3⟩ := HK.out j (by omega)
          exact ⟨q, hq1, hq2, (hq3.ext hx1).set _⟩
      case measure => simp [intOf]; omega
    · go_wp2
      go_ret
      have hkn : k = n := by omega
      subst hkn
      have hln := hs.len
      refine ⟨w.heap.size, L, by rw [← hln]; rfl, Nat.le_refl _, hrow, ?_, ?_, by have h := HP.out; rwa [List.take_of_length_le (by omega)] at h, hx⟩
      · apply List.ext_getElem?
        intro j
        by_cases hj : j < k
        · obtain ⟨q, hq1, hq2, _⟩ := HK.out j hj
          rw [List.getElem?_map, List.getElem?_map, hq1, hq2]; rfl
        · rw [List.getElem?_eq_none (by simp; omega), List.getElem?_eq_none (by simp; omega)]
      · intro q hq'
        obtain ⟨j, hj, rfl⟩ := List.mem_iff_getElem.1 hq'
        obtain ⟨q, hq1, _, hq3⟩ := HK.out j (by omega)
        rw [List.getElem?_eq_getElem hj] at hq1
        injection hq1 with hq1
        rw [hq1]; exact hq3
end Go.Proofs.YtfkpghdmljjegaaGreat

namespace Go.Proofs.YtfkpghdmljjegaaGreat
open Go.RowKit
set_option maxHeartbeats 1000000 in
theorem c_eqReadingSS (A A' : Option Addr) (n c n' c' : Nat) (rs rs' : List RS) (w : World) (hs : SliceOf w 1 RS.cells A n c rs) (h6 : ∀ q ∈ rs, SliceOf w 2 Reading.cells q.A q.n q.c q.xs) (hs' : SliceOf w 1 RS.cells A' n' c' rs') (h6' : ∀ q ∈ rs', SliceOf w 2 Reading.cells q.A q.n q.c q.xs) (he : rs.map RS.xs = rs'.map RS.xs) :
    Calls Tryz.prog 58 #[.slice A n c, .slice A' n' c'] w (Ret (.bool true) w) := by
  obtain rfl : n = n' := by have := congrArg List.length he; simp at this; rw [hs.len, hs'.len, this]
  have HE := hide he
  have hm := hs.max
  have hcp := hs.cap
  clear he
  go_enter Tryz.func58, Tryz.ntmps58
  go_wp2_with fail
  go_loopw [5] (fun i wr => ∃ (k : Nat), k ≤ n ∧ i = .int .i64 k ∧ Ext w wr) (fun i _ => n - (intOf i).toNat)
  case atStart => exact ⟨0, Nat.zero_le _, rfl, Ext.refl _⟩
  case round =>
    obtain ⟨k, hk, rfl, hx⟩ := hrel
    by_cases hlt : k < n
    · obtain ⟨b, off, x, rfl, hb, hxk, hc⟩ := (hs.ext hx).get hlt
      obtain ⟨b', off', x', rfl, hb', hxk', hc'⟩ := (hs'.ext hx).get hlt
      have hxx : x.xs = x'.xs := by
        have h1 := congrArg (fun l => l[k]?) HE.out
        simp only [List.getElem?_map, hxk, hxk', Option.map_some, Option.some.injEq] at h1
        exact h1
      have s1 := (h6 x (List.mem_of_getElem? hxk)).ext hx
      have s2 := (h6' x' (List.mem_of_getElem? hxk')).ext hx
      rw [← hxx] at s2
      have hc0 := hc 0 _ rfl
      have hd0 := hc' 0 _ rfl
      clear hc hc' hxk hxk' hxx
      simp only [Nat.add_zero, Nat.mul_one] at hc0 hd0
      go_wp2_with fail
      refine wp_region_later (by kernel_rfl) (by kernel_rfl) ?_
      repeat (go_big_quiet_step ((go_at_call 37; exact quiet_later (c_eqReadingS x.A x'.A x.n x.c x'.n x'.c x.xs _ (s1.ext (ext_later _ _)) (s2.ext (ext_later _ _))))))
      refine wpQuiet_nil ?_
      intro w1 hx1
      go_wp2
      go_roundw
      case rel => exact ⟨k + 1, by omega, by go_num, hx.trans hx1⟩
      case measure => simp [intOf]; omega
    · go_wp2
      go_ret
      exact Ret.bool rfl hx

/-- what a law knows of a room that is not too great -/
structure RoomSz (r : Room) (n1 n2 n3 n4 n5 : Nat) : Prop where
  n1 : n1 ≤ 1048576
  nm : Named r.ns
  n2 : n2 ≤ 1048576
  n3 : n3 ≤ 1048576
  n4 : n4 ≤ 1048576
  n5 : n5 ≤ 1048576
  n6 : ∀ q ∈ r.rs, q.n ≤ 1048576
  n7 : (r.rs.map RS.n).sum ≤ 1048576
set_option maxHeartbeats 1000000 in
theorem c_szRoom (A1 A2 A3 A4 A5 : Option Addr) (n1 c1 n2 c2 n3 c3 n4 c4 n5 c5 : Nat) (r : Room) (w : World) (hat : RoomAt w A1 A2 A3 A4 A5 n1 c1 n2 c2 n3 c3 n4 c4 n5 c5 r) (hnm : Named0 r.ns) (left : Int) (h0 : 0 ≤ left) (h1 : left ≤ 1048576) :
    Calls Tryz.prog 70 #[.agg #[.slice A1 n1 c1, .slice A2 n2 c2, .slice A3 n3 c3, .slice A4 n4 c4, .slice A5 n5 c5], .int .i64 left] w (Sized (RoomSz r n1 n2 n3 n4 n5) left w) := by
  have HNM := hide hnm
  clear hnm
  have hin := RoomIn.new w A1 A2 A3 A4 A5 n1 c1 n2 c2 n3 c3 n4 c4 n5 c5 109
  go_enter Tryz.func70, Tryz.ntmps70
  go_wp2_with fail
  refine (c_szNetwork A1 A2 n1 c1 n2 c2 r.ns left _ (hat.s1.ext (Ext.alloc _ _)) hat.s2.cap hat.s2.max HNM.out h0 h1).mono ?_
  rintro e w1 ⟨z, rfl, hx1, rfl | ⟨hz0, hz1, hz2⟩⟩
  · go_wp2_with fail
    go_ret
    exact ⟨-1, rfl, hx1.box, .inl rfl⟩
  have hz' : ¬ z < 0 := by omega
  obtain ⟨hlt, x0, x1, x2, x3, x4⟩ := hin.ext hx1
  go_wp2_with fail
  refine (c_szContractS A3 n3 c3 z _ hat.s3.cap hat.s3.max (by omega) (by omega)).mono ?_
  rintro e w' ⟨rfl, rfl⟩
  by_cases k3 : z < (n3 : Int)
  · rw [if_pos k3]
    go_wp2_with fail
    go_ret
    exact ⟨-1, rfl, hx1.box, .inl rfl⟩
  rw [if_neg k3]
  have k3' : ¬ z - (n3 : Int) < 0 := by omega
  go_wp2_with fail
  refine (c_szNominationS A4 n4 c4 (z - (n3 : Int)) _ hat.s4.cap hat.s4.max (by omega) (by omega)).mono ?_
  rintro e w' ⟨rfl, rfl⟩
  by_cases k4 : (z - (n3 : Int)) < (n4 : Int)
  · rw [if_pos k4]
    go_wp2_with fail
    go_ret
    exact ⟨-1, rfl, hx1.box, .inl rfl⟩
  rw [if_neg k4]
  have k4' : ¬ (z - (n3 : Int)) - (n4 : Int) < 0 := by omega
  go_wp2_with fail
  refine (c_szReadingSS A5 n5 c5 r.rs _ _ (hat.s5.ext hx1.box) (fun q hq => (hat.s6 q hq).ext hx1.box) (by omega) (by omega)).mono ?_
  rintro e w2 ⟨y, rfl, hx2, rfl | ⟨hy0, hy1, hy2⟩⟩
  · go_wp2_with fail
    go_ret
    exact ⟨-1, rfl, hx1.box.trans hx2, .inl rfl⟩
  have hy' : ¬ y < 0 := by omega
  go_wp2_with fail
  go_ret
  exact ⟨y, rfl, hx1.box.trans hx2, .inr ⟨by omega, by omega, ⟨hz2.1.1, hz2.1.2, hz2.2, by omega, by omega, hy2.1, hy2.2.1, hy2.2.2⟩⟩⟩

/-- a new copy of a network -/
def NewNet (ns : List Node) (ps : List Pipe) (w : World) (e : Ending) (w' : World) : Prop :=
  ∃ g1 g2, e = .returned (.agg #[.slice (some ⟨g1, 0, none⟩) ns.length ns.length, .slice (some ⟨g2, 0, none⟩) ps.length ps.length]) ∧ w.heap.size ≤ g1 ∧ g1 < g2 ∧ RowOf w' g1 223 Node.cells ns ∧ RowOf w' g2 181 Pipe.cells ps ∧ Ext w w'
set_option maxHeartbeats 2000000 in
theorem c_toNetwork (A1 A2 : Option Addr) (n1 c1 n2 c2 : Nat) (ns : List Node) (ps : List Pipe) (w : World) (h1 : SliceOf w 3 Node.cells A1 n1 c1 ns) (h2 : SliceOf w 5 Pipe.cells A2 n2 c2 ps) (m1 : n1 ≤ 1048576) (m2 : n2 ≤ 1048576) :
    Calls Tryz.prog 22 #[.agg #[.slice A1 n1 c1, .slice A2 n2 c2]] w (NewNet ns ps w) := by
  go_enter Tryz.func22, Tryz.ntmps22
  go_wp2_with fail
  refine (c_toNodeS A1 n1 c1 ns _ (h1.ext (((Ext.alloc _ _).and_alloc _).and_alloc _)) m1).mono ?_
  rintro e w1 ⟨g1, rfl, hg1, r1, hx1⟩
  have x1 : Ext w w1 := (((Ext.alloc _ _).and_alloc _).and_alloc _).trans hx1
  have z1a : w.heap.size < w1.heap.size := by have := hx1.size; simp at this; omega
  have z1b : w.heap.size + 1 < w1.heap.size := by have := hx1.size; simp at this; omega
  have z1c : w.heap.size + 1 + 1 < w1.heap.size := by have := hx1.size; simp at this; omega
  have hcl1 := hx1.cell
  have hfr1 := hx1.frozen
  simp at hg1
  have l1 := r1.lt
  go_wp2_with fail
  refine (c_toPipeS A2 n2 c2 ps _ (h2.ext (x1.setCell (by first | (simp; done) | (simp; omega) | omega) _)) m2).mono ?_
  rintro e w2 ⟨g2, rfl, hg2, r2, hx2⟩
  have x2 : Ext w w2 := (x1.setCell (by first | (simp; done) | (simp; omega) | omega) _).trans hx2
  have r1a := RowOf.ext (RowOf.far r1 (by first | (simp; done) | (simp; omega) | omega) _) hx2
  have z2a : w.heap.size < w2.heap.size := by have := hx2.size; simp at this; omega
  have z2b : w.heap.size + 1 < w2.heap.size := by have := hx2.size; simp at this; omega
  have z2c : w.heap.size + 1 + 1 < w2.heap.size := by have := hx2.size; simp at this; omega
  have hcl2 := hx2.cell
  have hfr2 := hx2.frozen
  simp at hg2
  go_wp2
  refine bodyPost_ret (v := .agg #[.slice (some ⟨g1, 0, none⟩) ns.length ns.length, .slice (some ⟨g2, 0, none⟩) ps.length ps.length]) (by simp [results, Tryz.results22, go_sem, hcl2, hcl1, z1b]) rfl ⟨g1, g2, rfl, ?_, ?_, ?_, ?_, ?_⟩
  · omega
  · omega
  · repeat (refine RowOf.far ?_ (by first | (simp; done) | (simp; omega) | omega) _)
    exact r1a
  · repeat (refine RowOf.far ?_ (by first | (simp; done) | (simp; omega) | omega) _)
    exact r2
  · repeat (refine Ext.setCell ?_ (by first | (simp; done) | (simp; omega) | omega) _)
    exact x2

set_option maxHeartbeats 1000000 in
theorem c_eqNetwork (A1 A2 B1 B2 : Option Addr) (n1 c1 n2 c2 m1 d1 m2 d2 : Nat) (ns : List Node) (ps : List Pipe) (w : World) (h1 : SliceOf w 3 Node.cells A1 n1 c1 ns) (h2 : SliceOf w 5 Pipe.cells A2 n2 c2 ps) (i1 : SliceOf w 3 Node.cells B1 m1 d1 ns) (i2 : SliceOf w 5 Pipe.cells B2 m2 d2 ps) :
    Calls Tryz.prog 27 #[.agg #[.slice A1 n1 c1, .slice A2 n2 c2], .agg #[.slice B1 m1 d1, .slice B2 m2 d2]] w (Ret (.bool true) w) := by
  go_enter Tryz.func27, Tryz.ntmps27
  go_wp2_with fail
  have x0 : Ext w ((w.alloc (.cells #[.slice A1 n1 c1, .slice A2 n2 c2] 45)).alloc (.cells #[.slice B1 m1 d1, .slice B2 m2 d2] 45)) := (Ext.alloc _ _).and_alloc _
  refine (c_eqNodeS _ _ _ _ _ _ ns _ (h1.ext x0) (i1.ext x0)).mono ?_
  rintro e w1 ⟨rfl, hx1⟩
  have hcl1 := hx1.cell
  go_wp2_with fail
  refine (c_eqPipeS _ _ _ _ _ _ ps _ (h2.ext (x0.trans hx1)) (i2.ext (x0.trans hx1))).mono ?_
  rintro e w2 ⟨rfl, hx2⟩
  go_wp2_with fail
  go_ret
  exact Ret.bool rfl ((x0.trans hx1).trans hx2)

/-- the same room elsewhere -/
def Room.Like (r r' : Room) : Prop := r.ns = r'.ns ∧ r.ps = r'.ps ∧ r.xs = r'.xs ∧ r.L = r'.L ∧ r.rs.map RS.xs = r'.rs.map RS.xs
theorem Room.Like.symm {r r' : Room} (h : r.Like r') : r'.Like r := ⟨h.1.symm, h.2.1.symm, h.2.2.1.symm, h.2.2.2.1.symm, h.2.2.2.2.symm⟩
theorem Room.Like.trans {r r' r'' : Room} (h : r.Like r') (k : r'.Like r'') : r.Like r'' := ⟨h.1.trans k.1, h.2.1.trans k.2.1, h.2.2.1.trans k.2.2.1, h.2.2.2.1.trans k.2.2.2.1, h.2.2.2.2.trans k.2.2.2.2⟩
theorem roomB_like {n1 : Int} {r r' : Room} (h : r.Like r') : roomB n1 r = roomB n1 r' := by
  obtain ⟨h1, h2, h3, h4, h5⟩ := h
  have hl := congrArg List.length h5
  simp at hl
  have ha : ∀ rs : List RS, rs.all (fun q => readsB n1 q.xs) = (rs.map RS.xs).all (readsB n1) := fun rs => by rw [List.all_map]; rfl
  unfold roomB
  rw [h1, h2, h3, h4, hl, ha, ha, h5]
set_option maxHeartbeats 2000000 in
theorem c_eqRoom (A1 A2 A3 A4 A5 : Option Addr) (n1 c1 n2 c2 n3 c3 n4 c4 n5 c5 : Nat) (B1 B2 B3 B4 B5 : Option Addr) (m1 d1 m2 d2 m3 d3 m4 d4 m5 d5 : Nat) (r r' : Room) (w : World) (h : RoomAt w A1 A2 A3 A4 A5 n1 c1 n2 c2 n3 c3 n4 c4 n5 c5 r) (i : RoomAt w B1 B2 B3 B4 B5 m1 d1 m2 d2 m3 d3 m4 d4 m5 d5 r') (hl : r.Like r') :
    Calls Tryz.prog 72 #[.agg #[.slice A1 n1 c1, .slice A2 n2 c2, .slice A3 n3 c3, .slice A4 n4 c4, .slice A5 n5 c5], .agg #[.slice B1 m1 d1, .slice B2 m2 d2, .slice B3 m3 d3, .slice B4 m4 d4, .slice B5 m5 d5]] w (Ret (.bool true) w) := by
  obtain ⟨i1, i2, i3, i4, i5, i6⟩ := i
  obtain ⟨e1, e2, e3, e4, HE5⟩ := hl
  have HE := hide HE5
  rw [← e1] at i1
  rw [← e2] at i2
  rw [← e3] at i3
  rw [← e4] at i4
  clear e1 e2 e3 e4 HE5
  have hinA := (RoomIn.new w A1 A2 A3 A4 A5 n1 c1 n2 c2 n3 c3 n4 c4 n5 c5 82).ext (Ext.alloc _ (.cells #[.slice B1 m1 d1, .slice B2 m2 d2, .slice B3 m3 d3, .slice B4 m4 d4, .slice B5 m5 d5] 82))
  have hinB := RoomIn.new (w.alloc (.cells #[.slice A1 n1 c1, .slice A2 n2 c2, .slice A3 n3 c3, .slice A4 n4 c4, .slice A5 n5 c5] 82)) B1 B2 B3 B4 B5 m1 d1 m2 d2 m3 d3 m4 d4 m5 d5 82
  go_enter Tryz.func72, Tryz.ntmps72
  go_wp2_with fail
  have x0 : Ext w ((w.alloc (.cells #[.slice A1 n1 c1, .slice A2 n2 c2, .slice A3 n3 c3, .slice A4 n4 c4, .slice A5 n5 c5] 82)).alloc (.cells #[.slice B1 m1 d1, .slice B2 m2 d2, .slice B3 m3 d3, .slice B4 m4 d4, .slice B5 m5 d5] 82)) := (Ext.alloc _ _).and_alloc _
  refine (c_eqNetwork _ _ _ _ _ _ _ _ _ _ _ _ r.ns r.ps _ (h.s1.ext x0) (h.s2.ext x0) (i1.ext x0) (i2.ext x0)).mono ?_
  rintro e w1 ⟨rfl, hx1⟩
  obtain ⟨ha, a0, a1, a2, a3, a4⟩ := hinA.ext hx1
  obtain ⟨hb, b0, b1, b2, b3, b4⟩ := hinB.ext hx1
  simp only [World.size_alloc] at b0 b1 b2 b3 b4
  have x1 := x0.trans hx1
  go_wp2_with fail
  refine (c_eqContractS _ _ _ _ _ _ r.xs _ (h.s3.ext x1) (i3.ext x1)).mono ?_
  rintro e w2 ⟨rfl, hx2⟩
  clear ha a0 a1 a2 a3 a4 hb b0 b1 b2 b3 b4
  have hx12 := hx1.trans hx2
  obtain ⟨ha, a0, a1, a2, a3, a4⟩ := hinA.ext hx12
  obtain ⟨hb, b0, b1, b2, b3, b4⟩ := hinB.ext hx12
  simp only [World.size_alloc] at b0 b1 b2 b3 b4
  have x2 := x0.trans hx12
  go_wp2_with fail
  refine (c_eqNominationS _ _ _ _ _ _ r.L _ (h.s4.ext x2) (i4.ext x2)).mono ?_
  rintro e w3 ⟨rfl, hx3⟩
  clear ha a0 a1 a2 a3 a4 hb b0 b1 b2 b3 b4
  have hx13 := hx12.trans hx3
  obtain ⟨ha, a0, a1, a2, a3, a4⟩ := hinA.ext hx13
  obtain ⟨hb, b0, b1, b2, b3, b4⟩ := hinB.ext hx13
  simp only [World.size_alloc] at b0 b1 b2 b3 b4
  have x3 := x0.trans hx13
  go_wp2_with fail
  refine (c_eqReadingSS _ _ _ _ _ _ r.rs r'.rs _ (h.s5.ext x3) (fun q hq => (h.s6 q hq).ext x3) (i5.ext x3) (fun q hq => (i6 q hq).ext x3) HE.out).mono ?_
  rintro e w4 ⟨rfl, hx4⟩
  go_wp2_with fail
  go_ret
  exact Ret.bool rfl (x3.trans hx4)
end Go.Proofs.YtfkpghdmljjegaaGreat
