/-
  Contracts of the functions on slices of int64. Slices of the call's own: a block whose first cells are the slice's elements. No function of the program is named here. The helpers of the laws on Pipe: copying, comparing, measuring, marking. Names, nodes, pipes: validity, of the program and of the reference. Networks: validity, of the program.
-/
import Derived.Test.YtfkpghdmljjegaaGreatVa00
import Derived.Laws.AppendOwn
namespace Go.Proofs.YtfkpghdmljjegaaGreat
open Go.RowKit

def intC (z : Int) : List Value := [.int .i64 z]
theorem intC_len (z : Int) : (intC z).length = 1 := rfl
theorem int_info : (Tryz.prog.info? 2).map (fun i => (i.zero, i.size, i.bytes)) = some (some (.int .i64 0), 1, 8) := by kernel_rfl
section
variable {w : World} {A : Option Addr} {n c : Nat} {xs : List Int}
theorem SliceOf.get1 (h : SliceOf w 1 intC A n c xs) {k : Nat} (hk : k < n) :
    ∃ b off x, A = some ⟨b, off, none⟩ ∧ b < w.heap.size ∧ xs[k]? = some x ∧ w.cell? ⟨b, off + k, none⟩ = some (.int .i64 x) := by
  obtain ⟨b, off, x, hA, hb, hx, hc⟩ := h.get hk
  exact ⟨b, off, x, hA, hb, hx, by simpa using hc 0 _ rfl⟩
end
/-- a new slice of the call's own -/
def NewRow {α : Type} (t : TypeId) (f : α → List Value) (xs : List α) (w : World) (e : Ending) (w' : World) : Prop :=
  ∃ g, e = .returned (.slice (some ⟨g, 0, none⟩) xs.length xs.length) ∧ w.heap.size ≤ g ∧ RowOf w' g t f xs ∧ Ext w w'

def allB (zs : List Int) (lo hi : Int) : Bool := zs.all fun z => inB z lo hi
theorem all_take_false {zs : List Int} {k : Nat} {z lo hi : Int} (hz : zs[k]? = some z) (h : inB z lo hi = false) : allB zs lo hi = false := by
  rw [allB, List.all_eq_false]; exact ⟨z, List.mem_of_getElem? hz, by simp [h]⟩
theorem all_take_true {zs : List Int} {lo hi : Int} (h : ∀ (j : Nat) (z : Int), zs[j]? = some z → inB z lo hi = true) : allB zs lo hi = true := by
  rw [allB, List.all_eq_true]; intro z hz
  obtain ⟨j, hj, rfl⟩ := List.mem_iff_getElem.1 hz
  exact h j _ (List.getElem?_eq_getElem hj)
theorem c_allWithin (A : Option Addr) (n c : Nat) (zs : List Int) (lo hi : Int) (w : World) (hs : SliceOf w 1 intC A n c zs) :
    Calls Tryz.prog 90 #[.slice A n c, .int .i64 lo, .int .i64 hi] w fun e w' => e = .returned (.bool (allB zs lo hi)) ∧ w = w' := by
  have hm := hs.max
  have hcap := hs.cap
  go_enter Tryz.func90, Tryz.ntmps90
  go_wp2_with fail
  go_loop [6, 11] (fun r i => ∃ k : Nat, k ≤ n ∧ r = .bool false ∧ i = .int .i64 k ∧ Hid (∀ (j : Nat) (z : Int), j < k → zs[j]? = some z → inB z lo hi = true)) (fun _ i => n - (intOf i).toNat)
  case atStart => exact ⟨0, Nat.zero_le _, rfl, rfl, hide (fun j z hj => absurd hj (by omega))⟩
  case round =>
    obtain ⟨k, hk, rfl, rfl, HK⟩ := hrel
    by_cases hlt : k < n
    · obtain ⟨b, off, x, rfl, hb, hxk, hc0⟩ := hs.get1 hlt
      have HX := hide hxk
      clear hxk
      cases hi0 : inB x lo hi
      · go_wp2_with (go_at_call 164; refine (c_within _ _ _ _).mono ?_; rintro e w' ⟨rfl, rfl⟩)
        go_ret
        exact ⟨by rw [all_take_false HX.out hi0]; rfl, rfl⟩
      · go_wp2_with (go_at_call 164; refine (c_within _ _ _ _).mono ?_; rintro e w' ⟨rfl, rfl⟩)
        go_round
        case rel =>
          refine ⟨k + 1, by omega, rfl, by go_num, hide fun j z hj hz => ?_⟩
          by_cases e : j = k
          · subst e; rw [HX.out] at hz; injection hz with hz; subst hz; exact hi0
          · exact HK.out j z (by omega) hz
        case measure => simp [intOf]; omega
    · go_wp2_with fail
      go_ret
      refine ⟨?_, rfl⟩
      rw [all_take_true (fun j z hz => HK.out j z (by have := (List.getElem?_eq_some_iff.1 hz).1; have := hs.len; omega) hz)]; rfl


end Go.Proofs.YtfkpghdmljjegaaGreat

namespace Go.Proofs.YtfkpghdmljjegaaGreat
open Go.RowKit

def OwnS {α : Type} (w : World) (g : Nat) (t : TypeId) (f : α → List Value) (A : Option Addr) (n : Nat) (xs : List α) : Prop :=
  n = xs.length ∧ (0 < n → A = some ⟨g, 0, none⟩ ∧ ∃ rest, Row w g t (xs.flatMap f ++ rest))

/-- only block g has turned -/
def Only (g : Nat) (w w' : World) : Prop := w.grownBy w' (some g)
section
variable {w w' w'' : World} {g : Nat}
theorem Only.refl (g : Nat) (w : World) : Only g w w := ⟨rfl, rfl, rfl, Nat.le_refl _, fun _ _ _ => rfl⟩
theorem Only.of_ext (h : Ext w w') (g : Nat) : Only g w w' := ⟨h.os, h.tape, h.output, h.size, fun k hk _ => h.block k hk⟩
theorem Only.trans (h : Only g w w') (k : Only g w' w'') : Only g w w'' :=
  ⟨k.os.trans h.os, k.tape.trans h.tape, k.output.trans h.output, Nat.le_trans h.size k.size, fun i hi hne => (k.block i (Nat.lt_of_lt_of_le hi h.size) hne).trans (h.block i hi hne)⟩
theorem Only.setCell (h : Only g w w') {p : Addr} (hp : p.block = g) (u : Value) : Only g w (w'.setCell p u) :=
  ⟨h.os, h.tape, h.output, by simpa [World.setCell] using h.size, fun i hi hne => (Below.heap_setCell w' p u i (by rintro rfl; exact hne (by rw [hp]))).trans (h.block i hi hne)⟩
theorem Only.put (h : Only g w w') (o : Nat) (vs : List Value) : Only g w (putCells w' g o vs) := by
  induction vs generalizing w' o with
  | nil => exact h
  | cons v vs ih => exact ih (h.setCell (p := ⟨g, o, none⟩) rfl v) (o + 1)
theorem Only.drew (h : Only g w w') : Only g w w'.drew := ⟨h.os, h.tape, h.output, h.size, h.block⟩
theorem Only.drewN (h : Only g w w') (n : Nat) : Only g w (w'.drewN n) := ⟨h.os, h.tape, h.output, h.size, h.block⟩
/-- a block that is new to w0 may turn -/
theorem Ext.only {w0 : World} (h : Ext w0 w) (k : Only g w w') (hg : w0.heap.size ≤ g) : Ext w0 w' :=
  ⟨k.os.trans h.os, k.tape.trans h.tape, k.output.trans h.output, Nat.le_trans h.size k.size, fun i hi => (k.block i (Nat.lt_of_lt_of_le hi h.size) (by simp; omega)).trans (h.block i hi)⟩
theorem Only.cell (h : Only g w w') {b o : Nat} (hb : b < w.heap.size) (hne : b ≠ g) : w'.cell? ⟨b, o, none⟩ = w.cell? ⟨b, o, none⟩ :=
  World.cell?_of_block (w := w) (h.block b hb (by simpa using hne))
theorem Row.only {t : TypeId} {cs : List Value} {g' : Nat} (h : Row w g' t cs) (k : Only g w w') (hne : g' ≠ g) : Row w' g' t cs := (k.block g' h.lt (by simpa using hne)).trans h
end

section
variable {α : Type} {w w' : World} {g : Nat} {t : TypeId} {f : α → List Value} {size : Nat} {A : Option Addr} {n : Nat} {xs : List α}
theorem RowOf.only {g' : Nat} (h : RowOf w g' t f xs) (k : Only g w w') (hne : g' ≠ g) : RowOf w' g' t f xs := Row.only h k hne
theorem OwnS.of_row (h : RowOf w g t f xs) : OwnS w g t f (some ⟨g, 0, none⟩) xs.length xs := ⟨rfl, fun _ => ⟨rfl, [], by rw [List.append_nil]; exact h⟩⟩
theorem OwnS.nil : OwnS w g t f A 0 [] := ⟨rfl, fun h => absurd h (by omega)⟩
theorem OwnS.ext (h : OwnS w g t f A n xs) (hx : Ext w w') : OwnS w' g t f A n xs := ⟨h.1, fun hn => ⟨(h.2 hn).1, let ⟨r, hr⟩ := (h.2 hn).2; ⟨r, hr.ext hx⟩⟩⟩
theorem OwnS.only {g' : Nat} (h : OwnS w g t f A n xs) (k : Only g' w w') (hne : g ≠ g') : OwnS w' g t f A n xs := ⟨h.1, fun hn => ⟨(h.2 hn).1, let ⟨r, hr⟩ := (h.2 hn).2; ⟨r, hr.only k hne⟩⟩⟩
theorem OwnS.lt (h : OwnS w g t f A n xs) (hn : 0 < n) : g < w.heap.size := let ⟨_, hr⟩ := (h.2 hn).2; hr.lt
theorem OwnS.slice (h : OwnS w g t f A n xs) (hf : ∀ x, (f x).length = size) {c : Nat} (hc : n ≤ c) (hm : c ≤ 9223372036854775807) : SliceOf w size f A n c xs := by
  refine ⟨h.1, hc, hm, fun hn => ?_⟩
  obtain ⟨hA, rest, hr⟩ := h.2 hn
  refine ⟨g, 0, hA, hr.lt, fun i x hx j u hu => ?_⟩
  rw [Nat.zero_add, hr.cell]
  have h1 := flat_get hf hx hu
  rw [List.getElem?_append_left (List.getElem?_eq_some_iff.1 h1).1]
  exact h1
theorem OwnS.there (h : OwnS w g t f A n xs) (hf : ∀ x, (f x).length = size) {i : Nat} (hi : i < n) {j : Nat} (hj : j < size) : ∃ u, w.cell? ⟨g, i * size + j, none⟩ = some u := by
  obtain ⟨_, rest, hr⟩ := h.2 (by omega)
  have hi' : i < xs.length := by rw [← h.1]; exact hi
  have hx : xs[i]? = some xs[i] := List.getElem?_eq_getElem hi'
  have hu : (f xs[i])[j]? = some ((f xs[i])[j]'(by rw [hf]; exact hj)) := List.getElem?_eq_getElem _
  have h1 := flat_get hf hx hu
  exact ⟨_, by rw [hr.cell, List.getElem?_append_left (List.getElem?_eq_some_iff.1 h1).1]; exact h1⟩
theorem OwnS.frozen (h : OwnS w g t f A n xs) (hn : 0 < n) (i : Nat) : w.frozen? ⟨g, i, none⟩ = false := let ⟨_, _, hr⟩ := h.2 hn; hr.frozen i
theorem setCells_left (az rest vs : List Value) (o : Nat) (h : o + vs.length ≤ az.length) : setCells (az ++ rest) o vs = setCells az o vs ++ rest := by
  induction vs generalizing az o with
  | nil => rfl
  | cons v vs ih =>
    simp at h
    simp only [setCells]
    rw [List.set_append_left _ _ (by omega), ih _ _ (by simp; omega)]
theorem OwnS.put (h : OwnS w g t f A n xs) (hf : ∀ x, (f x).length = size) {i : Nat} (hi : i < n) (y : α) : OwnS (putCells w g (i * size) (f y)) g t f A n (xs.set i y) := by
  refine ⟨by rw [List.length_set]; exact h.1, fun hn => ?_⟩
  obtain ⟨hA, rest, hr⟩ := h.2 hn
  have hi' : i < xs.length := by rw [← h.1]; exact hi
  refine ⟨hA, rest, ?_⟩
  have h1 := Row.put hr (i * size) (f y)
  rw [setCells_left _ _ _ _ (by
    rw [flat_len hf, hf]
    have : (i + 1) * size ≤ xs.length * size := Nat.mul_le_mul_right _ hi'
    rw [Nat.add_mul] at this; omega), flat_set hf hi'] at h1
  exact h1
/-- what an append leaves -/
theorem OwnS.of_owns {base : Nat} {v : Value} {cs : List Value} (hf : ∀ x, (f x).length = size) (hs : 0 < size) (h : w.ownsRow base t size v n cs) (hcs : cs = xs.flatMap f) :
    ∃ A c g, v = .slice A n c ∧ base ≤ g ∧ n ≤ c ∧ c ≤ 9223372036854775807 ∧ OwnS w g t f A n xs ∧ (v.ownBlock = none ∨ v.ownBlock = some g) := by
  obtain ⟨h1, h2⟩ := h
  subst hcs
  have hl : n = xs.length := by rw [flat_len hf] at h1; exact (Nat.eq_of_mul_eq_mul_right hs h1).symm
  rcases h2 with ⟨rfl, rfl⟩ | ⟨g, cap, cur, rfl, hb, hh, hnc, hcm, hsz, hcur⟩
  · exact ⟨none, 0, base, rfl, Nat.le_refl _, Nat.le_refl _, by omega, ⟨hl, fun h => absurd h (by omega)⟩, .inl rfl⟩
  · refine ⟨_, cap, g, rfl, hb, hnc, hcm, ⟨hl, fun _ => ⟨rfl, cur.toList.drop (n * size), ?_⟩⟩, .inr rfl⟩
    unfold Row
    rw [← hcur, List.take_append_drop]
    simpa using hh
end
end Go.Proofs.YtfkpghdmljjegaaGreat

namespace Go.Proofs.YtfkpghdmljjegaaGreat
open Go.RowKit

structure Pipe where
  src : Int
  dst : Int
  k : Int
  volume : Int
  limit : Int
def Pipe.cells (x : Pipe) : List Value := [.int .i64 x.src, .int .i64 x.dst, .int .i64 x.k, .int .i64 x.volume, .int .i64 x.limit]
theorem pipe_len (x : Pipe) : x.cells.length = 5 := rfl
theorem pipe_info : (Tryz.prog.info? 181).map (fun i => (i.zero, i.size, i.bytes)) = some (some (.agg #[.int .i64 0, .int .i64 0, .int .i64 0, .int .i64 0, .int .i64 0]), 5, 40) := by kernel_rfl

theorem c_toPipe (x : Pipe) (w : World) :
    Calls Tryz.prog 183 #[.agg #[.int .i64 x.src, .int .i64 x.dst, .int .i64 x.k, .int .i64 x.volume, .int .i64 x.limit]] w (Ret (.agg #[.int .i64 x.src, .int .i64 x.dst, .int .i64 x.k, .int .i64 x.volume, .int .i64 x.limit]) w) := by
  go_enter Tryz.func183, Tryz.ntmps183
  go_wp2
  exact bodyPost_ret (v := .agg #[.int .i64 x.src, .int .i64 x.dst, .int .i64 x.k, .int .i64 x.volume, .int .i64 x.limit]) (by simp [results, Tryz.results183, go_sem]) rfl ⟨rfl, (((Ext.refl _).and_alloc _).and_alloc _).and_alloc _⟩

theorem c_eqPipe (x : Pipe) (w : World) :
    Calls Tryz.prog 192 #[.agg #[.int .i64 x.src, .int .i64 x.dst, .int .i64 x.k, .int .i64 x.volume, .int .i64 x.limit], .agg #[.int .i64 x.src, .int .i64 x.dst, .int .i64 x.k, .int .i64 x.volume, .int .i64 x.limit]] w (Ret (.bool true) w) := by
  go_enter Tryz.func192, Tryz.ntmps192
  go_wp2
  go_ret
  exact Ret.bool rfl (((Ext.refl _).and_alloc _).and_alloc _)

theorem c_szPipeS (A : Option Addr) (n c : Nat) (left : Int) (w : World) (hn : n ≤ c) (hc : c ≤ 9223372036854775807) (h0 : 0 ≤ left) (h1 : left ≤ 1048576) :
    Calls Tryz.prog 99 #[.slice A n c, .int .i64 left] w fun e w' => e = .returned (.int .i64 (if left < n then -1 else left - n)) ∧ w = w' := by
  go_enter Tryz.func99, Tryz.ntmps99
  go_wp2
  all_goals
    go_ret
    simp <;> omega


set_option maxHeartbeats 1000000 in
theorem c_toPipeS (A : Option Addr) (n c : Nat) (ts : List Pipe) (w : World) (hs : SliceOf w 5 Pipe.cells A n c ts) (hn : n ≤ 1048576) :
    Calls Tryz.prog 107 #[.slice A n c] w (NewRow 181 Pipe.cells ts w) := by
  have hmk := fun W => run_make_flat (P := Tryz.prog) 43 181 _ _ 5 40 Tryz.underlying43 pipe_info (f := Pipe.cells) ⟨0, 0, 0, 0, 0⟩ rfl rfl rfl (by omega) n (by omega) (by omega) W
  have hR0 := Row.new w 181 ((List.replicate n (⟨0, 0, 0, 0, 0⟩ : Pipe)).flatMap Pipe.cells)
  go_enter Tryz.func107, Tryz.ntmps107
  go_wp2_with fail
  go_loopw [4] (fun i wr => ∃ (k : Nat) (L : List Pipe), k ≤ n ∧ i = .int .i64 k ∧ L.length = n ∧ RowOf wr w.heap.size 181 Pipe.cells L ∧ Hid (∀ j, j < k → L[j]? = ts[j]?) ∧ Ext w wr) (fun i _ => n - (intOf i).toNat)
  case atStart => exact ⟨0, _, Nat.zero_le _, rfl, List.length_replicate, hR0, hide (fun j hj => absurd hj (by omega)), Ext.alloc _ _⟩
  case round =>
    obtain ⟨k, L, hk, rfl, hL, hrow, HK, hx⟩ := hrel
    clear hR0 hmk
    have hgs := hrow.lt
    by_cases hlt : k < n
    · obtain ⟨b, off, x, rfl, hb, hxk, hc⟩ := (hs.ext hx).get hlt
      have hc0 := hc 0 _ rfl
      have hc1 := hc 1 _ rfl
      have hc2 := hc 2 _ rfl
      have hc3 := hc 3 _ rfl
      have hc4 := hc 4 _ rfl
      clear hc
      simp only [Nat.add_zero] at hc0
      have Hx := hide hxk
      have HL := hide hL
      clear hxk hL
      go_wp2_with (go_at_call 183; refine (c_toPipe x _).mono ?_; rintro e w1 ⟨rfl, hx1⟩; have hrow1 := hrow.ext hx1; obtain ⟨v0, hv0⟩ := hrow1.there pipe_len (i := k) (by rw [HL.out]; exact hlt) (j := 0) (by omega); have hf0 := hrow1.frozen (k * 5); obtain ⟨v1, hv1⟩ := hrow1.there pipe_len (i := k) (by rw [HL.out]; exact hlt) (j := 1) (by omega); have hf1 := hrow1.frozen (k * 5 + 1); obtain ⟨v2, hv2⟩ := hrow1.there pipe_len (i := k) (by rw [HL.out]; exact hlt) (j := 2) (by omega); have hf2 := hrow1.frozen (k * 5 + 2); obtain ⟨v3, hv3⟩ := hrow1.there pipe_len (i := k) (by rw [HL.out]; exact hlt) (j := 3) (by omega); have hf3 := hrow1.frozen (k * 5 + 3); obtain ⟨v4, hv4⟩ := hrow1.there pipe_len (i := k) (by rw [HL.out]; exact hlt) (j := 4) (by omega); have hf4 := hrow1.frozen (k * 5 + 4); rw [Nat.add_zero] at hv0)
      go_roundw
      case rel =>
        refine ⟨k + 1, L.set k x, by omega, by go_num, by simpa using HL.out, hrow1.put pipe_len (by rw [HL.out]; exact hlt) x, hide ?_, (hx.trans hx1).put (Nat.le_refl _) (k * 5) x.cells⟩
        intro j hj
        rw [List.getElem?_set]
        by_cases e : k = j
        · subst e; rw [if_pos rfl, if_pos (by rw [HL.out]; exact hlt), Hx.out]
        · rw [if_neg e]; exact HK.out j (by omega)
      case measure => simp [intOf]; omega
    · go_wp2
      go_ret
      have hLts : L = ts := by
        apply List.ext_getElem?
        intro j
        by_cases hj : j < n
        · exact HK.out j (by omega)
        · rw [List.getElem?_eq_none (by omega), List.getElem?_eq_none (by have := hs.len; omega)]
      subst hLts
      refine ⟨w.heap.size, ?_, Nat.le_refl _, hrow, hx⟩
      rw [hL]; rfl

set_option maxHeartbeats 1000000 in
theorem c_eqPipeS (A A' : Option Addr) (n c n' c' : Nat) (ts : List Pipe) (w : World) (hs : SliceOf w 5 Pipe.cells A n c ts) (hs' : SliceOf w 5 Pipe.cells A' n' c' ts) :
    Calls Tryz.prog 116 #[.slice A n c, .slice A' n' c'] w (Ret (.bool true) w) := by
  have hl := hs.len
  obtain rfl : n = n' := by rw [hs.len, hs'.len]
  have hm := hs.max
  have hcp := hs.cap
  clear hl
  go_enter Tryz.func116, Tryz.ntmps116
  go_wp2_with fail
  go_loopw [5] (fun i wr => ∃ (k : Nat), k ≤ n ∧ i = .int .i64 k ∧ Ext w wr) (fun i _ => n - (intOf i).toNat)
  case atStart => exact ⟨0, Nat.zero_le _, rfl, Ext.refl _⟩
  case round =>
    obtain ⟨k, hk, rfl, hx⟩ := hrel
    by_cases hlt : k < n
    · obtain ⟨b, off, x, rfl, hb, hxk, hc⟩ := (hs.ext hx).get hlt
      obtain ⟨b', off', x', rfl, hb', hxk', hc'⟩ := (hs'.ext hx).get hlt
      obtain rfl : x = x' := by rw [hxk] at hxk'; injection hxk'
      have hc0 := hc 0 _ rfl
      have hc1 := hc 1 _ rfl
      have hc2 := hc 2 _ rfl
      have hc3 := hc 3 _ rfl
      have hc4 := hc 4 _ rfl
      have hd0 := hc' 0 _ rfl
      have hd1 := hc' 1 _ rfl
      have hd2 := hc' 2 _ rfl
      have hd3 := hc' 3 _ rfl
      have hd4 := hc' 4 _ rfl
      clear hc hc' hxk hxk'
      simp only [Nat.add_zero] at hc0 hd0
      go_wp2_with fail
      refine wp_region_later (by kernel_rfl) (by kernel_rfl) ?_
      repeat (go_big_quiet_step ((go_at_call 192; exact quiet_later (c_eqPipe x _))))
      refine wpQuiet_nil ?_
      intro w1 hx1
      go_wp2
      go_roundw
      case rel => exact ⟨k + 1, by omega, by go_num, hx.trans hx1⟩
      case measure => simp [intOf]; omega
    · go_wp2
      go_ret
      exact Ret.bool rfl hx


/-- the marks from a number on -/
def markPipe (a : Int) (n : Nat) : List Pipe := (List.range n).map fun (i : Nat) => ⟨a + 5 * (i : Int), a + 5 * (i : Int) + 1, a + 5 * (i : Int) + 2, a + 5 * (i : Int) + 3, a + 5 * (i : Int) + 4⟩
theorem markPipe_at (a : Int) (n i : Nat) (h : i < n) : (markPipe a n)[i]? = some ⟨a + 5 * (i : Int), a + 5 * (i : Int) + 1, a + 5 * (i : Int) + 2, a + 5 * (i : Int) + 3, a + 5 * (i : Int) + 4⟩ := by
  unfold markPipe; rw [List.getElem?_map, List.getElem?_range h]; rfl
/-- the row is marked; nothing else has turned -/
def MarkedPipe (g : Nat) (A : Option Addr) (n : Nat) (a : Int) (w : World) (e : Ending) (w' : World) : Prop :=
  e = .returned (.int .i64 (a + 5 * n)) ∧ OwnS w' g 181 Pipe.cells A n (markPipe a n) ∧ Only g w w'
set_option maxHeartbeats 1000000 in
theorem c_markPipeS (g : Nat) (A : Option Addr) (n c : Nat) (ts : List Pipe) (a : Int) (w : World) (hown0 : OwnS w g 181 Pipe.cells A n ts) (hn : n ≤ 1000000000) (hcap : n ≤ c) (hmax : c ≤ 9223372036854775807) (ha0 : 0 ≤ a) (ha1 : a ≤ 1000000000000) :
    Calls Tryz.prog 120 #[.slice A n c, .int .i64 a] w (MarkedPipe g A n a w) := by
  go_enter Tryz.func120, Tryz.ntmps120
  go_wp2_with fail
  go_loopw [1, 5] (fun q i wr => ∃ (k : Nat) (K : Int) (L : List Pipe), k ≤ n ∧ q = .int .i64 K ∧ i = .int .i64 k ∧ a + 5 * (k : Int) ≤ K ∧ K ≤ a + 5 * (k : Int) ∧ OwnS wr g 181 Pipe.cells A n L ∧ Hid (∀ j, j < k → L[j]? = (markPipe a n)[j]?) ∧ Only g w wr) (fun _ i _ => n - (intOf i).toNat)
  case atStart => exact ⟨0, a, ts, Nat.zero_le _, rfl, rfl, by omega, by omega, hown0, hide (fun j hj => absurd hj (by omega)), Only.refl _ _⟩
  case round =>
    obtain ⟨k, K, L, hk, rfl, rfl, hK0, hK1, hown, HK, hx⟩ := hrel
    by_cases hlt : k < n
    · have hn0 : 0 < n := by omega
      obtain ⟨rfl, _⟩ := hown.2 hn0
      obtain ⟨v0, hv0⟩ := hown.there pipe_len (i := k) hlt (j := 0) (by omega)
      have hf0 := hown.frozen hn0 (k * 5)
      obtain ⟨v1, hv1⟩ := hown.there pipe_len (i := k) hlt (j := 1) (by omega)
      have hf1 := hown.frozen hn0 (k * 5 + 1)
      obtain ⟨v2, hv2⟩ := hown.there pipe_len (i := k) hlt (j := 2) (by omega)
      have hf2 := hown.frozen hn0 (k * 5 + 2)
      obtain ⟨v3, hv3⟩ := hown.there pipe_len (i := k) hlt (j := 3) (by omega)
      have hf3 := hown.frozen hn0 (k * 5 + 3)
      obtain ⟨v4, hv4⟩ := hown.there pipe_len (i := k) hlt (j := 4) (by omega)
      have hf4 := hown.frozen hn0 (k * 5 + 4)
      rw [Nat.add_zero] at hv0
      have HL := hide hown.1
      go_wp2_with fail
      go_roundw
      case rel =>
        refine ⟨k + 1, _, L.set k ⟨K, K + 1, K + 1 + 1, K + 1 + 1 + 1, K + 1 + 1 + 1 + 1⟩, by omega, rfl, by go_num, by omega, by omega, hown.put pipe_len hlt ⟨K, K + 1, K + 1 + 1, K + 1 + 1 + 1, K + 1 + 1 + 1 + 1⟩, hide ?_, hx.put (k * 5) (Pipe.cells ⟨K, K + 1, K + 1 + 1, K + 1 + 1 + 1, K + 1 + 1 + 1 + 1⟩)⟩
        intro j hj
        rw [List.getElem?_set]
        by_cases e : k = j
        · subst e
          rw [if_pos rfl, if_pos (by rw [← HL.out]; exact hlt), markPipe_at _ _ _ hlt]
          congr 2 <;> omega
        · rw [if_neg e]; exact HK.out j (by omega)
      case measure => simp [intOf]; omega
    · go_wp2_with fail
      go_ret
      have hLts : L = markPipe a n := by
        apply List.ext_getElem?
        intro j
        by_cases hj : j < n
        · exact HK.out j (by omega)
        · rw [List.getElem?_eq_none (by have := hown.1; omega), List.getElem?_eq_none (by simp [markPipe]; omega)]
      subst hLts
      refine ⟨?_, hown, hx⟩
      obtain rfl : k = n := by omega
      have : K = a + 5 * (k : Int) := by omega
      rw [← this]; rfl


end Go.Proofs.YtfkpghdmljjegaaGreat

namespace Go.Proofs.YtfkpghdmljjegaaGreat
open Go.RowKit

structure Node where
  name : ByteArray
  low : Int
  high : Int
def Node.cells (x : Node) : List Value := [.string x.name, .int .i64 x.low, .int .i64 x.high]
theorem node_len (x : Node) : x.cells.length = 3 := rfl
def chB (z : Int) : Bool := (decide (97 ≤ z) && decide (z ≤ 122)) || (decide (48 ≤ z) && decide (z ≤ 57))
def chAt (s : ByteArray) (i : Nat) : Int := if h : i < s.size then ((s[i]'h).toNat : Int) else 0
theorem chAt_eq {s : ByteArray} {i : Nat} (h : i < s.size) : ((s[i]'h).toNat : Int) = chAt s i := by rw [chAt, dif_pos h]
def nameB (s : ByteArray) : Bool := decide (1 ≤ s.size) && decide (s.size ≤ 8) && (List.range s.size).all fun i => chB (chAt s i)
def sameN (a b : ByteArray) : Bool := a.toList == b.toList
def nodeB (x : Node) : Bool := nameB x.name && decide (0 ≤ x.low) && decide (x.low ≤ x.high) && decide (x.high ≤ 100000000)
def pipeB (nn : Int) (p : Pipe) : Bool := inB p.src 0 (nn - 1) && inB p.dst 0 (nn - 1) && (p.src != p.dst) && inB p.k 1 1000 && inB p.volume 0 1000000 && inB p.limit 1 30000
theorem ch_ways (z : Int) : (97 ≤ z ∧ z ≤ 122 ∧ decide (97 ≤ z) = true ∧ decide (z ≤ 122) = true ∧ Hid (chB z = true)) ∨ (97 ≤ z ∧ 122 < z ∧ 48 ≤ z ∧ 57 < z ∧ decide (97 ≤ z) = true ∧ decide (z ≤ 122) = false ∧ decide (48 ≤ z) = true ∧ decide (z ≤ 57) = false ∧ Hid (chB z = false)) ∨
    (z < 97 ∧ 48 ≤ z ∧ z ≤ 57 ∧ decide (97 ≤ z) = false ∧ decide (48 ≤ z) = true ∧ decide (z ≤ 57) = true ∧ Hid (chB z = true)) ∨ (z < 97 ∧ 48 ≤ z ∧ 57 < z ∧ decide (97 ≤ z) = false ∧ decide (48 ≤ z) = true ∧ decide (z ≤ 57) = false ∧ Hid (chB z = false)) ∨
    (z < 97 ∧ z < 48 ∧ decide (97 ≤ z) = false ∧ decide (48 ≤ z) = false ∧ Hid (chB z = false)) := by
  simp only [Hid, chB, Bool.or_eq_true, Bool.and_eq_true, Bool.or_eq_false_iff, Bool.and_eq_false_iff, decide_eq_true_eq, decide_eq_false_iff_not]
  omega

theorem name_false {s : ByteArray} {k : Nat} (hk : k < s.size) (h : chB (chAt s k) = false) : nameB s = false := by
  simp only [nameB]; rw [all_range_false hk h]; simp
theorem name_true {s : ByteArray} (h1 : 1 ≤ s.size) (h8 : s.size ≤ 8) (h : ∀ j, j < s.size → chB (chAt s j) = true) : nameB s = true := by
  simp only [nameB]; rw [all_range_true h]; simp [h1, h8]
theorem name_end {s : ByteArray} (h1 : 1 ≤ s.size) (h : ∀ j, j < s.size → chB (chAt s j) = true) : nameB s = decide ((s.size : Int) ≤ 8) := by
  simp only [nameB]; rw [all_range_true h]; simp [h1]; omega

set_option maxHeartbeats 1000000 in
theorem c_isName (s : ByteArray) (w : World) :
    Calls Tryz.prog 237 #[.string s] w fun e w' => e = .returned (.bool (nameB s)) ∧ w = w' := by
  by_cases h1 : s.size < 1
  · have HR := hide (show nameB s = false by simp [nameB]; omega)
    go_enter Tryz.func237, Tryz.ntmps237
    go_wp2_with fail
    go_ret
    exact ⟨by rw [HR.out]; rfl, rfl⟩
  by_cases h8 : 8 < s.size
  · have HR := hide (show nameB s = false by simp [nameB]; omega)
    go_enter Tryz.func237, Tryz.ntmps237
    go_wp2_with fail
    go_ret
    exact ⟨by rw [HR.out]; rfl, rfl⟩
  go_enter Tryz.func237, Tryz.ntmps237
  go_wp2_with fail
  go_loop [3] (fun i => ∃ k : Nat, k ≤ s.size ∧ i = .int .i64 k ∧ Hid (∀ j, j < k → chB (chAt s j) = true)) (fun i => s.size - (intOf i).toNat)
  case atStart => exact ⟨0, Nat.zero_le _, rfl, hide (fun j hj => absurd hj (by omega))⟩
  case round =>
    obtain ⟨k, hk, rfl, HK⟩ := hrel
    by_cases hlt : k < s.size
    · have hch := chAt_eq hlt
      have HF := hide (fun h => name_false hlt h)
      have HNX : chB (chAt s k) = true → Hid (∀ j, j < k + 1 → chB (chAt s j) = true) := fun h => hide (all_upto (p := fun j => chB (chAt s j)) HK.out h)
      generalize chAt s k = z at hch HF HNX
      rcases ch_ways z with ⟨z1, z2, d1, d2, HC⟩ | ⟨z1, z2, z3, z4, d1, d2, d3, d4, HC⟩ | ⟨z1, z2, z3, d1, d2, d3, HC⟩ | ⟨z1, z2, z3, d1, d2, d3, HC⟩ | ⟨z1, z2, d1, d2, HC⟩
      · go_wp2_with fail
        go_round
        case rel => exact ⟨k + 1, by omega, by go_num, HNX HC⟩
        case measure => simp [intOf]; omega
      · go_wp2_with fail
        go_ret
        exact ⟨by rw [HF.out HC]; rfl, rfl⟩
      · go_wp2_with fail
        go_round
        case rel => exact ⟨k + 1, by omega, by go_num, HNX HC⟩
        case measure => simp [intOf]; omega
      · go_wp2_with fail
        go_ret
        exact ⟨by rw [HF.out HC]; rfl, rfl⟩
      · go_wp2_with fail
        go_ret
        exact ⟨by rw [HF.out HC]; rfl, rfl⟩
    · go_wp2_with fail
      go_ret
      exact ⟨by rw [name_true (by omega) (by omega) (fun j hj => HK.out j (by omega))]; rfl, rfl⟩

set_option maxHeartbeats 1000000 in
theorem c_l02Name (s : ByteArray) (w : World) (hs : s.size ≤ 1048576) :
    Calls Tryz.prog 255 #[.string s] w fun e w' => e = .returned (.bool (nameB s)) ∧ w = w' := by
  go_enter Tryz.func255, Tryz.ntmps255
  go_wp2_with fail
  go_loop [3] (fun i => ∃ k : Nat, k ≤ s.size ∧ i = .int .i64 k ∧ Hid (∀ j, j < k → chB (chAt s j) = true)) (fun i => s.size - (intOf i).toNat)
  case atStart => exact ⟨0, Nat.zero_le _, rfl, hide (fun j hj => absurd hj (by omega))⟩
  case round =>
    obtain ⟨k, hk, rfl, HK⟩ := hrel
    by_cases hlt : k < s.size
    · have hch := chAt_eq hlt
      have HF := hide (fun h => name_false hlt h)
      have HNX : chB (chAt s k) = true → Hid (∀ j, j < k + 1 → chB (chAt s j) = true) := fun h => hide (all_upto (p := fun j => chB (chAt s j)) HK.out h)
      generalize chAt s k = z at hch HF HNX
      rcases ch_ways z with ⟨z1, z2, d1, d2, HC⟩ | ⟨z1, z2, z3, z4, d1, d2, d3, d4, HC⟩ | ⟨z1, z2, z3, d1, d2, d3, HC⟩ | ⟨z1, z2, z3, d1, d2, d3, HC⟩ | ⟨z1, z2, d1, d2, HC⟩
      · go_wp2_with fail
        go_round
        case rel => exact ⟨k + 1, by omega, by go_num, HNX HC⟩
        case measure => simp [intOf]; omega
      · go_wp2_with fail
        go_ret
        exact ⟨by rw [HF.out HC]; rfl, rfl⟩
      · go_wp2_with fail
        go_round
        case rel => exact ⟨k + 1, by omega, by go_num, HNX HC⟩
        case measure => simp [intOf]; omega
      · go_wp2_with fail
        go_ret
        exact ⟨by rw [HF.out HC]; rfl, rfl⟩
      · go_wp2_with fail
        go_ret
        exact ⟨by rw [HF.out HC]; rfl, rfl⟩
    · by_cases h1 : s.size < 1
      · have HR := hide (show nameB s = false by simp [nameB]; omega)
        go_wp2_with fail
        go_ret
        exact ⟨by rw [HR.out]; rfl, rfl⟩
      go_wp2_with fail
      go_ret
      exact ⟨by rw [name_end (by omega) (fun j hj => HK.out j (by omega))]; rfl, rfl⟩

theorem node_ways (x : Node) : (nameB x.name = false ∧ Hid (nodeB x = false)) ∨ (nameB x.name = true ∧ x.low < 0 ∧ Hid (nodeB x = false)) ∨ (nameB x.name = true ∧ 0 ≤ x.low ∧ x.high < x.low ∧ Hid (nodeB x = false)) ∨
    (nameB x.name = true ∧ 0 ≤ x.low ∧ x.low ≤ x.high ∧ Hid (nodeB x = decide (x.high ≤ 100000000))) := by
  unfold nodeB Hid
  cases nameB x.name
  · simp
  · simp only [Bool.true_and]
    by_cases h1 : 0 ≤ x.low <;> by_cases h2 : x.low ≤ x.high <;> simp [h1, h2] <;> omega
set_option maxHeartbeats 1000000 in
theorem c_IsNode (x : Node) (w : World) :
    Calls Tryz.prog 184 #[.agg #[.string x.name, .int .i64 x.low, .int .i64 x.high]] w (Ret (.bool (nodeB x)) w) := by
  obtain ⟨s, lo, hi⟩ := x
  rcases node_ways ⟨s, lo, hi⟩ with ⟨h1, HR⟩ | ⟨h1, h2, HR⟩ | ⟨h1, h2, h3, HR⟩ | ⟨h1, h2, h3, HR⟩ <;>
  · simp only at h1
    go_enter Tryz.func184, Tryz.ntmps184
    go_wp2_with (go_at_call 237; refine (c_isName _ _).mono ?_; rintro e w' ⟨rfl, rfl⟩)
    go_ret
    exact Ret.bool HR (Ext.alloc _ _)
set_option maxHeartbeats 1000000 in
theorem c_specIsNode (x : Node) (w : World)(hs : x.name.size ≤ 1048576) :
    Calls Tryz.prog 202 #[.agg #[.string x.name, .int .i64 x.low, .int .i64 x.high]] w (Ret (.bool (nodeB x)) w) := by
  obtain ⟨s, lo, hi⟩ := x
  rcases node_ways ⟨s, lo, hi⟩ with ⟨h1, HR⟩ | ⟨h1, h2, HR⟩ | ⟨h1, h2, h3, HR⟩ | ⟨h1, h2, h3, HR⟩ <;>
  · simp only at h1
    go_enter Tryz.func202, Tryz.ntmps202
    go_wp2_with (go_at_call 255; refine (c_l02Name _ _ hs).mono ?_; rintro e w' ⟨rfl, rfl⟩)
    go_ret
    exact Ret.bool HR (Ext.alloc _ _)
end Go.Proofs.YtfkpghdmljjegaaGreat

namespace Go.Proofs.YtfkpghdmljjegaaGreat
open Go.RowKit

theorem SliceOf.take {α : Type} {w : World} {size : Nat} {f : α → List Value} {A : Option Addr} {n c : Nat} {xs : List α} (h : SliceOf w size f A n c xs) {k : Nat} (hk : k ≤ n) : SliceOf w size f A k c (xs.take k) := by
  obtain ⟨h1, h2, h3, h4⟩ := h
  refine ⟨by rw [List.length_take]; omega, by omega, h3, fun hk0 => ?_⟩
  obtain ⟨b, off, hA, hb, hc⟩ := h4 (by omega)
  refine ⟨b, off, hA, hb, fun i x hx j u hu => ?_⟩
  rw [List.getElem?_take] at hx
  split at hx
  · exact hc i x hx j u hu
  · cases hx
theorem sameN_comm (a b : ByteArray) : sameN a b = sameN b a := by
  unfold sameN
  rw [Bool.eq_iff_iff]
  simp only [beq_iff_eq]
  exact ⟨fun h => h.symm, fun h => h.symm⟩
def hasN (ns : List Node) (s : ByteArray) : Bool := ns.any fun y => sameN y.name s
def nodeOkB (ns : List Node) (i : Nat) : Bool := match ns[i]? with
  | some x => nodeB x && !hasN (ns.take i) x.name
  | none => true
def netB (ns : List Node) (ps : List Pipe) : Bool := decide (1 ≤ ns.length) && decide (ns.length ≤ 24) && decide (ps.length ≤ 40) && (List.range ns.length).all (nodeOkB ns) && ps.all (pipeB ns.length)

theorem c_isNodeOf (A1 A2 : Option Addr) (n1 c1 n2 c2 : Nat) (z : Int) (w : World) (hn : n1 ≤ 9223372036854775807) :
    Calls Tryz.prog 186 #[.agg #[.slice A1 n1 c1, .slice A2 n2 c2], .int .i64 z] w (Ret (.bool (inB z 0 ((n1 : Int) - 1))) w) := by
  go_enter Tryz.func186, Tryz.ntmps186
  go_wp2_with (go_at_call 164; refine (c_within _ _ _ _).mono ?_; rintro e w' ⟨rfl, rfl⟩)
  go_ret
  exact Ret.bool rfl (Ext.alloc _ _)
theorem c_l02Node (A1 A2 : Option Addr) (n1 c1 n2 c2 : Nat) (z : Int) (w : World) (hn : n1 ≤ 9223372036854775807) :
    Calls Tryz.prog 205 #[.agg #[.slice A1 n1 c1, .slice A2 n2 c2], .int .i64 z] w (Ret (.bool (inB z 0 ((n1 : Int) - 1))) w) := by
  go_enter Tryz.func205, Tryz.ntmps205
  go_wp2_with (go_at_call 169; refine (c_l01In _ _ _ _).mono ?_; rintro e w' ⟨rfl, rfl⟩)
  go_ret
  exact Ret.bool rfl (Ext.alloc _ _)

set_option maxHeartbeats 2000000 in
theorem c_l02Pipe (p : Pipe) (nn : Nat) (w : World) (hn : nn ≤ 1048576) :
    Calls Tryz.prog 203 #[.agg #[.int .i64 p.src, .int .i64 p.dst, .int .i64 p.k, .int .i64 p.volume, .int .i64 p.limit], .int .i64 nn] w (Ret (.bool (pipeB nn p)) w) := by
  obtain ⟨a, b, c, d, e⟩ := p
  go_enter Tryz.func203, Tryz.ntmps203
  go_wp2_with (go_at_call 169; refine (c_l01In _ _ _ _).mono ?_; rintro e w' ⟨rfl, rfl⟩)
  all_goals
    go_ret
    refine Ret.bool ?_ (Ext.alloc _ _)
    simp_all [pipeB]

theorem c_nodeSame (x : Node) (b : Nat) (s : ByteArray) (w : World) (hb : b < w.heap.size) (hc : w.cell? ⟨b, 0, none⟩ = some (.string s)) :
    Calls Tryz.prog 239 #[.agg #[.string x.name, .int .i64 x.low, .int .i64 x.high], .pointer (some ⟨b, 0, none⟩)] w (Ret (.bool (sameN x.name s)) w) := by
  go_enter Tryz.func239, Tryz.ntmps239
  go_wp2_with fail
  go_ret
  exact Ret.bool rfl (Ext.alloc _ _)

/-- an index that is not negative where one is found -/
def FoundN (b : Bool) (w : World) (e : Ending) (w' : World) : Prop := ∃ r : Int, e = .returned (.int .i64 r) ∧ decide (0 ≤ r) = b ∧ Ext w w'
set_option maxHeartbeats 1000000 in
theorem c_IndexNode (A : Option Addr) (n c : Nat) (ns : List Node) (b : Nat) (s : ByteArray) (w : World) (hs : SliceOf w 3 Node.cells A n c ns) (hb : b < w.heap.size) (hcb : w.cell? ⟨b, 0, none⟩ = some (.string s)) :
    Calls Tryz.prog 238 #[.slice A n c, .func (.func 239) #[] #[.pointer (some ⟨b, 0, none⟩)]] w (FoundN (hasN ns s) w) := by
  have hm := hs.max
  have hcap := hs.cap
  go_enter Tryz.func238, Tryz.ntmps238
  go_wp2_with fail
  go_loopw [4, 8] (fun r i wr => ∃ k : Nat, k ≤ n ∧ r = .int .i64 0 ∧ i = .int .i64 k ∧ Hid (∀ (j : Nat) (p : Node), j < k → ns[j]? = some p → sameN p.name s = false) ∧ Ext w wr) (fun _ i _ => n - (intOf i).toNat)
  case atStart => exact ⟨0, Nat.zero_le _, rfl, rfl, hide (fun j p hj => absurd hj (by omega)), Ext.refl _⟩
  case round =>
    obtain ⟨k, hk, rfl, rfl, HK, hx⟩ := hrel
    by_cases hlt : k < n
    · obtain ⟨bb, off, p, rfl, hbb, hxk, hc⟩ := (hs.ext hx).get hlt
      have hc0 := hc 0 _ rfl
      have hc1 := hc 1 _ rfl
      have hc2 := hc 2 _ rfl
      clear hc
      simp only [Nat.add_zero] at hc0
      have HX := hide hxk
      clear hxk
      have hcb' := (hx.cell b 0 hb).trans hcb
      have hb' := Nat.lt_of_lt_of_le hb hx.size
      cases hp : sameN p.name s
      · go_wp2_with (go_at_call 239; refine (c_nodeSame p b s _ hb' hcb').mono ?_; rw [hp]; rintro e w1 ⟨rfl, hx1⟩)
        go_roundw
        case rel =>
          refine ⟨k + 1, by omega, rfl, by go_num, hide fun j q hj hq => ?_, hx.trans hx1⟩
          by_cases e : j = k
          · subst e; rw [HX.out] at hq; injection hq with hq; subst hq; exact hp
          · exact HK.out j q (by omega) hq
        case measure => simp [intOf]; omega
      · go_wp2_with (go_at_call 239; refine (c_nodeSame p b s _ hb' hcb').mono ?_; rw [hp]; rintro e w1 ⟨rfl, hx1⟩)
        go_ret
        refine ⟨k, rfl, ?_, hx.trans hx1⟩
        have : hasN ns s = true := by rw [hasN, List.any_eq_true]; exact ⟨p, List.mem_of_getElem? HX.out, hp⟩
        rw [this]; simp
    · go_wp2_with fail
      go_ret
      refine ⟨-1, rfl, ?_, hx⟩
      have : hasN ns s = false := by
        rw [hasN, List.any_eq_false]; intro q hq
        obtain ⟨j, hj, rfl⟩ := List.mem_iff_getElem.1 hq
        simp [HK.out j _ (by have := hs.len; omega) (List.getElem?_eq_getElem hj)]
      rw [this]; simp

theorem c_nodeIndex (A1 A2 : Option Addr) (n1 c1 n2 c2 : Nat) (ns : List Node) (s : ByteArray) (w : World) (hs : SliceOf w 3 Node.cells A1 n1 c1 ns) :
    Calls Tryz.prog 185 #[.agg #[.slice A1 n1 c1, .slice A2 n2 c2], .string s] w (FoundN (hasN ns s) w) := by
  go_enter Tryz.func185, Tryz.ntmps185
  go_wp2_with fail
  refine (c_IndexNode A1 n1 c1 ns _ s _ (hs.ext ((Ext.alloc _ _).and_alloc _)) (by simp) (by simp [go_sem])).mono ?_
  rintro e w1 ⟨r, rfl, hr, hx1⟩
  go_wp2_with fail
  go_ret
  exact ⟨r, rfl, hr, ((Ext.alloc _ _).and_alloc _).trans hx1⟩
end Go.Proofs.YtfkpghdmljjegaaGreat
