/-
  Allocating, of the program: matching, and the places that match. A posting's cells are single cells. The program's own knobs are none, and its types are laid out: two facts that every lift of a law names. The helpers of the laws on nodes, networks, lists of lists: measuring. The helpers of the laws on lists of lists of readings: measuring, copying, comparing. The helpers of the laws on rooms: comparing, measuring, copying. From an argument as it is read (data) to the cells that hold it: slices of structures of integers. No function of the program is named here. From an argument as it is read (data) to the cells that hold it: slices whose elements are any data of a known number of cells. No function of the program is named here. The helpers of the laws on rooms: copying; a room that came in. What the laws on rooms know of an argument and of its copies. markText of the laws: a text for each number. The helpers of the laws on nodes, networks and lists of lists: marking, and looking at the marks. The helpers of the laws on rooms: marking, and looking at the marks. The helpers of the laws on whole rooms: marking, and looking at the marks.
-/
import Derived.Test.YtfkpghdmljjegaaGreatVc18
import Derived.Test.YtfkpghdmljjegaaGreatVc07
import Derived.Test.YtfkpghdmljjegaaGreatVc00
import Derived.Test.YtfkpghdmljjegaaGreatVc09
import Derived.Test.YtfkpghdmljjegaaGreatVc32
import Derived.OpenShut
import Derived.ProofKit
import Derived.ShutString
import Derived.ChangeOld
import Derived.Lib.SmallJoins
import Derived.Test.YtfkpghdmljjegaaGreatVc08
import Derived.Deep.Slices
import Derived.Deep.Fields
import Derived.ChangeSame
import Derived.Laws.IdiomStrings
import Derived.Laws.BytesString
import Derived.Test.YtfkpghdmljjegaaGreatProg
import Derived.Test.YtfkpghdmljjegaaGreatVc02
namespace Go.Proofs.YtfkpghdmljjegaaGreat
open Go.RowKit
theorem abs_eq (z : Int) : absI z = absZ z := rfl
theorem match_ways (x : Reading) (o : Order) : ((o.node == x.node) = false ∧ Hid (matchB x o = false)) ∨ ((o.node == x.node) = true ∧ decide (0 < o.amount) = true ∧ decide (0 < x.amount) = true ∧ Hid (matchB x o = true)) ∨
    ((o.node == x.node) = true ∧ decide (0 < o.amount) = true ∧ decide (0 < x.amount) = false ∧ decide (o.amount < 0) = false ∧ Hid (matchB x o = false)) ∨
    ((o.node == x.node) = true ∧ decide (0 < o.amount) = false ∧ decide (o.amount < 0) = true ∧ decide (x.amount < 0) = true ∧ Hid (matchB x o = true)) ∨
    ((o.node == x.node) = true ∧ decide (0 < o.amount) = false ∧ decide (o.amount < 0) = true ∧ decide (x.amount < 0) = false ∧ Hid (matchB x o = false)) ∨
    ((o.node == x.node) = true ∧ decide (0 < o.amount) = false ∧ decide (o.amount < 0) = false ∧ Hid (matchB x o = false)) := by
  unfold matchB Hid
  have h : decide (0 < o.amount) = true → decide (o.amount < 0) = false := by intro h; rw [decide_eq_true_eq] at h; rw [decide_eq_false_iff_not]; omega
  cases ho : decide (0 < o.amount)
  · cases (o.node == x.node) <;> cases decide (0 < x.amount) <;> cases decide (o.amount < 0) <;> cases decide (x.amount < 0) <;> simp
  · rw [h ho]
    cases (o.node == x.node) <;> cases decide (0 < x.amount) <;> cases decide (x.amount < 0) <;> simp
set_option maxHeartbeats 1000000 in
theorem c_matches (o : Order) (x : Reading) (w : World) :
    Calls Tryz.prog 252 #[.agg #[.int .i64 o.shipper, .int .i64 o.node, .int .i64 o.amount, .int .i64 o.cls], .agg #[.int .i64 x.node, .int .i64 x.amount]] w (Ret (.bool (matchB x o)) w) := by
  have hx : Ext w ((w.alloc (.cells o.cells.toArray 199)).alloc (.cells x.cells.toArray 176)) := (Ext.alloc _ _).and_alloc _
  rcases match_ways x o with ⟨h1, H⟩ | ⟨h1, h2, h3, H⟩ | ⟨h1, h2, h3, h4, H⟩ | ⟨h1, h2, h3, h4, H⟩ | ⟨h1, h2, h3, h4, H⟩ | ⟨h1, h2, h3, H⟩ <;>
  · rw [H.out]
    go_enter Tryz.func252, Tryz.ntmps252
    go_wp2_with fail
    go_ret
    exact Ret.bool rfl hx
/-- the places of the picked -/
def posM : Nat → List Bool → List Int
  | _, [] => []
  | k, true :: m => (k : Int) :: posM (k + 1) m
  | k, false :: m => posM (k + 1) m
theorem pos_snoc (b : Bool) : ∀ (k : Nat) (m : List Bool), posM k (m ++ [b]) = posM k m ++ if b = true then [((k + m.length : Nat) : Int)] else []
  | k, [] => by cases b <;> simp [posM]
  | k, true :: m => by
    have ih := pos_snoc b (k + 1) m
    simp only [List.cons_append, posM, ih, List.length_cons]
    rw [show k + 1 + m.length = k + (m.length + 1) by omega]
  | k, false :: m => by
    have ih := pos_snoc b (k + 1) m
    simp only [List.cons_append, posM, ih, List.length_cons]
    rw [show k + 1 + m.length = k + (m.length + 1) by omega]
theorem pick_snoc (b : Bool) (z : Int) : ∀ {m : List Bool} {l : List Int}, m.length = l.length → pickM (m ++ [b]) (l ++ [z]) = pickM m l ++ if b = true then [z] else []
  | [], [], _ => by cases b <;> simp [pickM]
  | [], _ :: _, h => by simp at h
  | _ :: _, [], h => by simp at h
  | true :: m, x :: l, h => by
    have ih := pick_snoc b z (m := m) (l := l) (by simpa using h)
    simp only [List.cons_append, pickM, ih]
  | false :: m, x :: l, h => by
    have ih := pick_snoc b z (m := m) (l := l) (by simpa using h)
    simp only [List.cons_append, pickM, ih]
theorem pos_at : ∀ {m : List Bool} {k j : Nat} {p : Int}, (posM k m)[j]? = some p → ∃ i : Nat, p = ((k + i : Nat) : Int) ∧ m[i]? = some true ∧ rankM m i = j
  | [], k, j, p, h => by simp [posM] at h
  | true :: m, k, 0, p, h => by
    simp [posM] at h
    exact ⟨0, by rw [← h]; simp, rfl, rfl⟩
  | true :: m, k, j + 1, p, h => by
    obtain ⟨i, h1, h2, h3⟩ := pos_at (m := m) (k := k + 1) (j := j) (p := p) (by simpa [posM] using h)
    exact ⟨i + 1, by rw [h1]; congr 1; omega, by simpa using h2, by simp [rankM, h3]⟩
  | false :: m, k, j, p, h => by
    obtain ⟨i, h1, h2, h3⟩ := pos_at (m := m) (k := k + 1) (j := j) (p := p) (by simpa [posM] using h)
    exact ⟨i + 1, by rw [h1]; congr 1; omega, by simpa using h2, by simp [rankM, h3]⟩
theorem pos_len : ∀ {m : List Bool} {l : List Int} {k : Nat}, m.length = l.length → (posM k m).length = (pickM m l).length
  | [], [], _, _ => rfl
  | [], _ :: _, _, h => by simp at h
  | _ :: _, [], _, h => by simp at h
  | true :: m, x :: l, k, h => by simp only [posM, pickM, List.length_cons]; rw [pos_len (k := k + 1) (m := m) (l := l) (by simpa using h)]
  | false :: m, x :: l, k, h => by simp only [posM, pickM]; rw [pos_len (k := k + 1) (m := m) (l := l) (by simpa using h)]
theorem rank_inj {m : List Bool} {i j : Nat} (hi : m[i]? = some true) (hj : m[j]? = some true) (h : rankM m i = rankM m j) : i = j := by
  induction m generalizing i j with
  | nil => simp at hi
  | cons b m ih =>
    cases i with
    | zero =>
      cases j with
      | zero => rfl
      | succ j => cases b <;> simp [rankM] at hi h
    | succ i =>
      cases j with
      | zero => cases b <;> simp [rankM] at hj h
      | succ j =>
        have : i = j := ih (by simpa using hi) (by simpa using hj) (by cases b <;> simpa [rankM] using h)
        omega
def marks (os : List Order) (x : Reading) : List Bool := os.map (matchB x)
theorem marks_len (os : List Order) (x : Reading) : (marks os x).length = os.length := by simp [marks]
theorem marks_at {os : List Order} {x : Reading} {i : Nat} {o : Order} (h : os[i]? = some o) : (marks os x)[i]? = some (matchB x o) := by simp [marks, h]
theorem marks_take {os : List Order} {x : Reading} {k : Nat} {o : Order} (h : os[k]? = some o) : marks (os.take (k + 1)) x = marks (os.take k) x ++ [matchB x o] := by
  unfold marks; rw [List.take_add_one, h, List.map_append]; rfl
theorem places_take {os : List Order} {x : Reading} {k : Nat} {o : Order} (h : os[k]? = some o) : posM 0 (marks (os.take (k + 1)) x) = posM 0 (marks (os.take k) x) ++ if matchB x o = true then [(k : Int)] else [] := by
  have hk := (List.getElem?_eq_some_iff.1 h).1
  rw [marks_take h, pos_snoc, marks_len, List.length_take, Nat.min_eq_left (by omega), Nat.zero_add]
theorem weights_take {os : List Order} {x : Reading} {k : Nat} {o : Order} (h : os[k]? = some o) : pickM (marks (os.take (k + 1)) x) (wts (os.take (k + 1)) x) = pickM (marks (os.take k) x) (wts (os.take k) x) ++ if matchB x o = true then [absI o.amount] else [] := by
  rw [marks_take h, show wts (os.take (k + 1)) x = wts (os.take k) x ++ [wt x o] by unfold wts; rw [List.take_add_one, h, List.map_append]; rfl, pick_snoc _ _ (by simp [marks, wts])]
  cases hm : matchB x o
  · rfl
  · rw [if_pos rfl, if_pos rfl, (wt_yes hm).1]; rfl
/-- no two readings at one node have one sign -/
def Sep (rs : List Reading) : Prop := ∀ (j k : Nat) (y x : Reading), j < k → rs[j]? = some y → rs[k]? = some x → clash y x = false
theorem sep_of {nn : Int} {rs : List Reading} (h : readsB nn rs = true) : Sep rs := by
  intro j k y x hjk hj hk
  unfold readsB at h
  rw [Bool.and_eq_true, List.all_eq_true] at h
  have h1 := h.2 k (List.mem_range.2 (List.getElem?_eq_some_iff.1 hk).1)
  rw [readOk_at hk, Bool.and_eq_true] at h1
  have h2 := h1.2
  simp only [Bool.not_eq_true', hasR, List.any_eq_false] at h2
  have h3 := h2 y (List.mem_of_getElem? (i := j) (by rw [List.getElem?_take, if_pos hjk]; exact hj))
  simpa using h3
theorem reads_mem {nn : Int} {rs : List Reading} (h : readsB nn rs = true) : ∀ x ∈ rs, (-30000 ≤ x.amount ∧ x.amount ≤ 30000) ∧ x.amount ≠ 0 := by
  intro x hx
  obtain ⟨k, hk⟩ := List.getElem?_of_mem hx
  unfold readsB at h
  rw [Bool.and_eq_true, List.all_eq_true] at h
  have h1 := h.2 k (List.mem_range.2 (List.getElem?_eq_some_iff.1 hk).1)
  rw [readOk_at hk, Bool.and_eq_true] at h1
  have h2 := h1.1
  simp only [readB, Bool.and_eq_true, inB_true, Bool.not_eq_true', beq_eq_false_iff_ne] at h2
  exact ⟨h2.1.2, h2.2⟩
theorem match_clash {x y : Reading} {o : Order} (h1 : matchB x o = true) (h2 : matchB y o = true) : clash y x = true := by
  simp only [matchB, clash, Bool.and_eq_true, Bool.or_eq_true, beq_iff_eq, decide_eq_true_eq] at *
  obtain ⟨a, b⟩ := h1
  obtain ⟨c, d⟩ := h2
  refine ⟨by omega, ?_⟩
  rcases b with b | b <;> rcases d with d | d
  · rw [decide_eq_true d.2, decide_eq_true b.2]
  · omega
  · omega
  · rw [decide_eq_false (by omega), decide_eq_false (by omega)]
/-- orders that no reading so far matches have got nothing -/
def Free (os : List Order) (rs : List Reading) (k : Nat) (g : List Int) : Prop := ∀ (i : Nat) (o : Order), os[i]? = some o → (∀ (j : Nat) (y : Reading), j < k → rs[j]? = some y → matchB y o = false) → g[i]? = some 0
theorem Free.hf {os : List Order} {rs : List Reading} {k : Nat} {g : List Int} {x : Reading} (h : Free os rs k g) (hs : Sep rs) (hx : rs[k]? = some x) : ∀ i : Nat, (marks os x)[i]? = some true → g[i]? = some 0 := by
  intro i hi
  unfold marks at hi
  rw [List.getElem?_map] at hi
  cases ho : os[i]? with
  | none => rw [ho] at hi; cases hi
  | some o =>
    rw [ho] at hi
    have hm : matchB x o = true := by simpa using hi
    refine h i o ho fun j y hj hy => ?_
    cases hc : matchB y o with
    | false => rfl
    | true => have := match_clash hm hc; rw [hs j k y x hj hy hx] at this; cases this
/-- some shares laid at their places -/
structure Laid (m : List Bool) (s : Int) (shf g : List Int) (j : Nat) (g2 : List Int) : Prop where
  len : g2.length = g.length
  no : ∀ i : Nat, m[i]? = some false → g2[i]? = g[i]?
  yes : ∀ i : Nat, m[i]? = some true → rankM m i < j → ∃ v, shf[rankM m i]? = some v ∧ g2[i]? = some (s * v)
theorem Laid.start (m : List Bool) (s : Int) (shf g : List Int) : Laid m s shf g 0 g := ⟨rfl, fun _ _ => rfl, fun i _ h => absurd h (by omega)⟩
theorem Laid.next {m : List Bool} {s : Int} {shf g g2 : List Int} {j i : Nat} {v : Int} (h : Laid m s shf g j g2) (hm : m[i]? = some true) (hr : rankM m i = j) (hv : shf[j]? = some v) (hl : i < g.length) : Laid m s shf g (j + 1) (g2.set i (s * v)) := by
  refine ⟨by rw [List.length_set]; exact h.len, fun p hp => ?_, fun p hp hpj => ?_⟩
  · rw [List.getElem?_set, if_neg (fun e => by subst e; rw [hm] at hp; cases hp)]
    exact h.no p hp
  · rw [List.getElem?_set]
    by_cases e : i = p
    · subst e
      rw [if_pos rfl, if_pos (by rw [h.len]; exact hl)]
      exact ⟨v, by rw [hr]; exact hv, rfl⟩
    · rw [if_neg e]
      refine h.yes p hp ?_
      have : rankM m p ≠ j := fun e2 => e (rank_inj hm hp (by rw [hr, e2]))
      omega
theorem rank_count : ∀ {m : List Bool} {l : List Int} {i : Nat}, m.length = l.length → m[i]? = some true → rankM m i < (pickM m l).length
  | [], _, i, _, h => by simp at h
  | _ :: _, [], _, h, _ => by simp at h
  | true :: m, x :: l, 0, _, _ => by simp [rankM, pickM]
  | false :: m, x :: l, 0, _, h => by simp at h
  | true :: m, x :: l, i + 1, hl, h => by
    have := rank_count (m := m) (l := l) (i := i) (by simpa using hl) (by simpa using h)
    simpa [rankM, pickM] using this
  | false :: m, x :: l, i + 1, hl, h => by
    have := rank_count (m := m) (l := l) (i := i) (by simpa using hl) (by simpa using h)
    simpa [rankM, pickM] using this
/-- a whole reading laid: the step of the allocation -/
theorem Laid.step {os : List Order} {rs : List Reading} {k : Nat} {x : Reading} {g g2 shf : List Int} (h : Laid (marks os x) (sgn x) shf g shf.length g2) (hF : Free os rs k g) (hSep : Sep rs) (hx : rs[k]? = some x) (hx0 : x.amount ≠ 0) (hg : g.length = os.length)
    (hs : 0 < sumZ (wts os x)) (hsh : Shares (absZ x.amount) (pickM (marks os x) (wts os x)) shf) :
    (∃ sh, Shares (absZ x.amount) (wts os x) sh ∧ g2 = addS (sgn x) g sh) ∧ Free os rs (k + 1) g2 := by
  have hml : (marks os x).length = (wts os x).length := by simp [marks, wts]
  refine ⟨alloc_step hx0 hg (by rw [h.len, hg]) hs (hF.hf hSep hx) hsh h.no (fun i hi => h.yes i hi (by rw [hsh.len]; exact rank_count hml hi)), ?_⟩
  intro i o ho hno
  rw [h.no i (by rw [marks_at ho, hno k x (by omega) hx])]
  exact hF i o ho fun j y hj hy => hno j y (by omega) hy
theorem Free.skip {os : List Order} {rs : List Reading} {k : Nat} {g : List Int} (h : Free os rs k g) : Free os rs (k + 1) g := fun i o ho hno => h i o ho fun j y hj hy => hno j y (by omega) hy
theorem Free.start (os : List Order) (rs : List Reading) : Free os rs 0 (List.replicate os.length 0) := fun i o ho _ => by
  rw [List.getElem?_replicate, if_pos (List.getElem?_eq_some_iff.1 ho).1]
/-- nothing is picked exactly if the weights are none -/
theorem pos_nil {os : List Order} {x : Reading} (hx : x.amount ≠ 0) (h : posM 0 (marks os x) = []) : sumZ (wts os x) = 0 := by
  refine wts_zero hx fun o ho => ?_
  cases hm : matchB x o with
  | false => rfl
  | true =>
    exfalso
    obtain ⟨i, hi⟩ := List.getElem?_of_mem ho
    have h1 := rank_count (m := marks os x) (l := wts os x) (i := i) (by simp [marks, wts]) (by rw [marks_at hi, hm])
    rw [← pos_len (k := 0) (by simp [marks, wts]), h] at h1
    cases h1
theorem pos_some {os : List Order} {x : Reading} (h : posM 0 (marks os x) ≠ []) : 0 < sumZ (wts os x) ∧ 0 < sumZ (pickM (marks os x) (wts os x)) := by
  obtain ⟨p, hp⟩ : ∃ p, (posM 0 (marks os x))[0]? = some p := by
    cases hc : posM 0 (marks os x) with
    | nil => exact absurd hc h
    | cons a l => exact ⟨a, rfl⟩
  obtain ⟨i, _, hi, _⟩ := pos_at hp
  unfold marks at hi
  rw [List.getElem?_map] at hi
  cases ho : os[i]? with
  | none => rw [ho] at hi; cases hi
  | some o =>
    rw [ho] at hi
    have h1 := wts_pos (List.mem_of_getElem? ho) (by simpa using hi : matchB x o = true)
    refine ⟨h1, ?_⟩
    by_cases hx : x.amount = 0
    · exfalso
      have hm : matchB x o = true := by simpa using hi
      simp only [matchB, Bool.and_eq_true, Bool.or_eq_true, decide_eq_true_eq] at hm
      omega
    rw [pick_sum (by simp [marks, wts]) (fun j y hm hy => ?_)]
    · exact h1
    · unfold marks at hm
      rw [List.getElem?_map] at hm
      rw [wts, List.getElem?_map] at hy
      cases ho : os[j]? with
      | none => rw [ho] at hm; cases hm
      | some o =>
        rw [ho] at hm hy
        simp at hm hy
        rw [← hy]; exact wt_no hm hx
end Go.Proofs.YtfkpghdmljjegaaGreat

namespace Go.Proofs.YtfkpghdmljjegaaGreat
open Go.RowKit
theorem post_one (y : Posting) : ∀ u ∈ y.cells, u.oneCell' = true := by intro u hu; simp [Posting.cells] at hu; rcases hu with rfl | rfl | rfl | rfl <;> rfl
end Go.Proofs.YtfkpghdmljjegaaGreat

namespace Go.Proofs.YtfkpghdmljjegaaGreat
open Go.RowKit Go.ChangeShapes Go.WideShapes Go.ChangeAt Go.Deep Go.Joins
theorem own : ownKnob Tryz.prog.godebug = none := by kernel_rfl
theorem laidOut : laidOutB Tryz.prog = true := by kernel_rfl
end Go.Proofs.YtfkpghdmljjegaaGreat

namespace Go.Proofs.YtfkpghdmljjegaaGreat
open Go.RowKit
def Named (ns : List Node) : Prop := ∀ x ∈ ns, x.name.size ≤ 1048576
end Go.Proofs.YtfkpghdmljjegaaGreat

namespace Go.Proofs.YtfkpghdmljjegaaGreat
open Go.RowKit
/-- a list of readings in a block of its own -/
def OwnRS (w : World) (g : Nat) (q : RS) : Prop := ∃ g1, g < g1 ∧ q.A = some ⟨g1, 0, none⟩ ∧ q.n = q.xs.length ∧ q.c = q.xs.length ∧ q.xs.length ≤ 1048576 ∧ RowOf w g1 176 Reading.cells q.xs
theorem OwnRS.ext {w w' : World} {g : Nat} {q : RS} (h : OwnRS w g q) (hx : Ext w w') : OwnRS w' g q := let ⟨g1, a, b, c, d, e, r⟩ := h; ⟨g1, a, b, c, d, e, r.ext hx⟩
theorem OwnRS.set {w : World} {g o : Nat} {q : RS} (h : OwnRS w g q) (u : Value) : OwnRS (w.setCell ⟨g, o, none⟩ u) g q := let ⟨g1, a, b, c, d, e, r⟩ := h; ⟨g1, a, b, c, d, e, r.far (p := ⟨g, o, none⟩) (by show g1 ≠ g; omega) u⟩
theorem OwnRS.slice {w : World} {g : Nat} {q : RS} (h : OwnRS w g q) : SliceOf w 2 Reading.cells q.A q.n q.c q.xs := by
  obtain ⟨g1, _, hA, hn, hc, hl, r⟩ := h
  rw [hA, hc, hn]
  exact r.slice reading_len rfl (by omega)
/-- lists at different places -/
def RsApart (rs : List RS) : Prop := ∀ (i j : Nat) (q q' : RS), i ≠ j → rs[i]? = some q → rs[j]? = some q' → q.A ≠ q'.A
end Go.Proofs.YtfkpghdmljjegaaGreat

namespace Go.Proofs.YtfkpghdmljjegaaGreat
open Go.RowKit
/-- what a law knows of a room that is not too great -/
structure RoomSz (r : Room) (n1 n2 n3 n4 n5 : Nat) : Prop where
  n1 : n1 ≤ 1048576
  nm : Named r.ns
  n2 : n2 ≤ 1048576
  n3 : n3 ≤ 1048576
  n4 : n4 ≤ 1048576
  n5 : n5 ≤ 1048576
  n6 : ∀ q ∈ r.rs, q.n ≤ 1048576
  n7 : (r.rs.map RS.n).sum ≤ 1048576
/-- the same room elsewhere -/
def Room.Like (r r' : Room) : Prop := r.ns = r'.ns ∧ r.ps = r'.ps ∧ r.xs = r'.xs ∧ r.L = r'.L ∧ r.rs.map RS.xs = r'.rs.map RS.xs
theorem Room.Like.symm {r r' : Room} (h : r.Like r') : r'.Like r := ⟨h.1.symm, h.2.1.symm, h.2.2.1.symm, h.2.2.2.1.symm, h.2.2.2.2.symm⟩
theorem Room.Like.trans {r r' r'' : Room} (h : r.Like r') (k : r'.Like r'') : r.Like r'' := ⟨h.1.trans k.1, h.2.1.trans k.2.1, h.2.2.1.trans k.2.2.1, h.2.2.2.1.trans k.2.2.2.1, h.2.2.2.2.trans k.2.2.2.2⟩
theorem roomB_like {n1 : Int} {r r' : Room} (h : r.Like r') : roomB n1 r = roomB n1 r' := by
  obtain ⟨h1, h2, h3, h4, h5⟩ := h
  have hl := congrArg List.length h5
  simp at hl
  have ha : ∀ rs : List RS, rs.all (fun q => readsB n1 q.xs) = (rs.map RS.xs).all (readsB n1) := fun rs => by rw [List.all_map]; rfl
  unfold roomB
  rw [h1, h2, h3, h4, hl, ha, ha, h5]
end Go.Proofs.YtfkpghdmljjegaaGreat

namespace Go.Proofs.YtfkpghdmljjegaaGreat
open Go.Joins Go.RowKit Go.ChangeShapes Go.WideShapes Go.Deep

section
variable {H : Type} {enc : TypeId × Value → H} {P : Program} {w : World} {base : Nat} {spare : Nat → Bool} {held : Bool}
theorem mk_list {α : Type} {p : Nat → α → Prop} (n : Nat) (h : ∀ i, i < n → ∃ x, p i x) : ∃ xs : List α, xs.length = n ∧ ∀ i x, xs[i]? = some x → p i x := by
  induction n with
  | zero => exact ⟨[], rfl, fun i x hx => by simp at hx⟩
  | succ n ih =>
    obtain ⟨xs, hl, hp⟩ := ih (fun i hi => h i (by omega))
    obtain ⟨x, hx⟩ := h n (by omega)
    refine ⟨xs ++ [x], by simp [hl], fun i y hy => ?_⟩
    by_cases hi : i < n
    · rw [List.getElem?_append_left (by omega)] at hy; exact hp i y hy
    · have hlt : i < (xs ++ [x]).length := (List.getElem?_eq_some_iff.1 hy).1
      have : i = n := by simp [hl] at hlt; omega
      subst this
      rw [List.getElem?_append_right (by omega)] at hy
      simp [hl] at hy
      subst hy
      exact hx
/-- a slice of integers that came in -/
theorem open_nums {t e : TypeId} {k : IntKind} {fuel : Nat} {v : Value} {x : DataW H × List MemPlace} (ht : P.underlying t = some (.slice e)) (he : P.underlying e = some (.int k))
    (hC : P.cellsOf e = 1) (h : DataW.trod enc P w base spare held fuel t [v] = some x) :
    ∃ (A : Option Addr) (n c : Nat) (zs : List Int), v = .slice A n c ∧ (∀ z ∈ zs, (Lit.int k z).wf = true) ∧ SliceOf w 1 (fun z => [Value.int k z]) A n c zs := by
  rcases open_slice ht h with ⟨h0, _⟩ | ⟨a, len, cap, m, n, D, Pl, hcs, hb, hl, hm, hmm, hx, hi⟩
  · simp at h0
    exact ⟨none, 0, 0, [], h0, by simp, by simp [SliceOf]⟩
  · simp at hcs
    have hlm : len ≤ m := by rw [hmm]; split <;> omega
    have hel : ∀ i, i < len → ∃ z : Int, (Lit.int k z).wf = true ∧ w.cell? (a.add i) = some (.int k z) := by
      intro i hil
      obtain ⟨cs', hc, ht'⟩ := hi i (by omega)
      rw [hC, Nat.mul_one] at hc
      obtain ⟨_, hcl, hat⟩ := World.cells?_some hc
      obtain ⟨z, hz, _, hwf⟩ := DataW.trod_int he ht'
      refine ⟨z, hwf, ?_⟩
      have := hat 0 (by omega)
      rw [hz] at this
      simpa [Go.Deep.add_add] using this
    obtain ⟨zs, hzl, hzp⟩ := mk_list len hel
    refine ⟨some a, len, cap, zs, hcs, ?_, hzl.symm, hl, hm, fun hn => ?_⟩
    · intro z hz
      obtain ⟨i, hi', hii⟩ := List.mem_iff_getElem.1 hz
      exact (hzp i z (by rw [List.getElem?_eq_getElem hi', hii])).1
    · obtain ⟨z0, hz0⟩ : ∃ z, zs[0]? = some z := ⟨_, List.getElem?_eq_getElem (by omega)⟩
      have hcell := (hzp 0 z0 hz0).2
      obtain ⟨b, off, spot⟩ := a
      have hspot : spot = none := by simpa [Addr.add] using World.cell?_spot hcell
      subst hspot
      have hadd : ∀ k, (Addr.add ⟨b, off, none⟩ k) = ⟨b, off + k, none⟩ := fun k => by unfold Addr.add; split <;> simp_all
      refine ⟨b, off, rfl, ?_, fun i z hz j u hu => ?_⟩
      · have := World.block_lt_of_cell? w _ hcell
        rw [hadd] at this
        exact this
      · have := (hzp i z hz).2
        rw [hadd] at this
        cases j with
        | zero => simp at hu; subst hu; simpa using this
        | succ j => simp at hu
/-- the same cells as a slice of another type's elements -/
theorem SliceOf.map {α β : Type} {size : Nat} {f : α → List Value} {f' : β → List Value} {A : Option Addr} {n c : Nat} {xs : List α} (h : SliceOf w size f A n c xs) (g : α → β) (hg : ∀ x ∈ xs, f' (g x) = f x) :
    SliceOf w size f' A n c (xs.map g) := by
  obtain ⟨h1, h2, h3, h4⟩ := h
  refine ⟨by simpa using h1, h2, h3, fun hn => ?_⟩
  obtain ⟨b, off, hA, hb, hc⟩ := h4 hn
  refine ⟨b, off, hA, hb, fun i y hy j u hu => ?_⟩
  rw [List.getElem?_map] at hy
  cases hx : xs[i]? with
  | none => rw [hx] at hy; simp at hy
  | some x =>
    rw [hx] at hy
    simp at hy
    subst hy
    exact hc i x hx j u (by rw [← hg x (List.mem_of_getElem? hx)]; exact hu)
end
end Go.Proofs.YtfkpghdmljjegaaGreat

namespace Go.Proofs.YtfkpghdmljjegaaGreat
open Go.Joins Go.RowKit Go.ChangeShapes Go.WideShapes Go.Deep

section
variable {H : Type} {enc : TypeId × Value → H} {P : Program} {w : World} {base : Nat} {spare : Nat → Bool} {held : Bool}
theorem pick_list {β : Type} {f' : β → List Value} {p : β → Prop} (xss : List (List Value)) (hp : ∀ vs ∈ xss, ∃ y : β, f' y = vs ∧ p y) : ∃ ys : List β, ys.map f' = xss ∧ ∀ y ∈ ys, p y := by
  induction xss with
  | nil => exact ⟨[], rfl, by simp⟩
  | cons vs rest ih =>
    obtain ⟨ys, h1, h2⟩ := ih (fun v hv => hp v (List.mem_cons_of_mem _ hv))
    obtain ⟨y, h3, h4⟩ := hp vs (List.mem_cons_self ..)
    refine ⟨y :: ys, by rw [List.map_cons, h1, h3], fun z hz => ?_⟩
    rcases List.mem_cons.1 hz with rfl | hz
    · exact h4
    · exact h2 z hz
/-- the same cells as a slice of elements that they spell -/
theorem SliceOf.pick {β : Type} {size : Nat} {f' : β → List Value} {p : β → Prop} {A : Option Addr} {n c : Nat} {xss : List (List Value)} (h : SliceOf w size id A n c xss) (hp : ∀ vs ∈ xss, ∃ y : β, f' y = vs ∧ p y) :
    ∃ ys : List β, SliceOf w size f' A n c ys ∧ ∀ y ∈ ys, p y := by
  obtain ⟨ys, hy, hq⟩ := pick_list xss hp
  subst hy
  obtain ⟨h1, h2, h3, h4⟩ := h
  refine ⟨ys, ⟨by simpa using h1, h2, h3, fun hn => ?_⟩, hq⟩
  obtain ⟨b, off, hA, hb, hc⟩ := h4 hn
  refine ⟨b, off, hA, hb, fun i y hy j u hu => hc i (f' y) ?_ j u hu⟩
  rw [List.getElem?_map, hy]; rfl
end
end Go.Proofs.YtfkpghdmljjegaaGreat

namespace Go.Proofs.YtfkpghdmljjegaaGreat
open Go.RowKit Go.ChangeShapes Go.WideShapes Go.ChangeAt Go.Deep Go.Joins
/-- a new copy of a room -/
def CopiedRoom (r : Room) (w : World) (e : Ending) (w' : World) : Prop :=
  ∃ g1 g2 g3 g4 g5 rs', e = .returned (.agg #[.slice (some ⟨g1, 0, none⟩) r.ns.length r.ns.length, .slice (some ⟨g2, 0, none⟩) r.ps.length r.ps.length, .slice (some ⟨g3, 0, none⟩) r.xs.length r.xs.length, .slice (some ⟨g4, 0, none⟩) r.L.length r.L.length, .slice (some ⟨g5, 0, none⟩) r.rs.length r.rs.length]) ∧
    w.heap.size ≤ g1 ∧ g1 < g2 ∧ g2 < g3 ∧ g3 < g4 ∧ g4 < g5 ∧ RowOf w' g1 223 Node.cells r.ns ∧ RowOf w' g2 181 Pipe.cells r.ps ∧ RowOf w' g3 153 Contract.cells r.xs ∧ RowOf w' g4 157 Nomination.cells r.L ∧
    RowOf w' g5 60 RS.cells rs' ∧ rs'.map RS.xs = r.rs.map RS.xs ∧ (∀ q ∈ rs', OwnRS w' g5 q) ∧ RsApart rs' ∧ Ext w w'
theorem OwnRS.far {w : World} {g : Nat} {q : RS} (h : OwnRS w g q) {p : Addr} (hp : p.block ≤ g) (u : Value) : OwnRS (w.setCell p u) g q := let ⟨g1, a, b, c, d, e, r⟩ := h; ⟨g1, a, b, c, d, e, r.far (by omega) u⟩
section
variable {H : Type} {enc : TypeId × Value → H} {w : World} {base : Nat} {spare : Nat → Bool} {held : Bool}
end
end Go.Proofs.YtfkpghdmljjegaaGreat

namespace Go.Proofs.YtfkpghdmljjegaaGreat
open Go.RowKit Go.ChangeShapes Go.WideShapes Go.ChangeAt Go.Deep Go.Joins
def roomOk (r : Room) : Bool := roomB r.ns.length r
def RoomLen (r : Room) : Prop := r.ns.length ≤ 1048576 ∧ Named r.ns ∧ r.ps.length ≤ 1048576 ∧ r.xs.length ≤ 1048576 ∧ r.L.length ≤ 1048576 ∧ r.rs.length ≤ 1048576 ∧ (∀ q ∈ r.rs, q.xs.length ≤ 1048576) ∧ ((r.rs.map RS.xs).map List.length).sum ≤ 1048576
section
variable {w w' : World} {A1 A2 A3 A4 A5 : Option Addr} {n1 c1 n2 c2 n3 c3 n4 c4 n5 c5 : Nat} {r r' : Room}
theorem RoomAt.ok (h : RoomAt w A1 A2 A3 A4 A5 n1 c1 n2 c2 n3 c3 n4 c4 n5 c5 r') (hl : r'.Like r) : roomB n1 r' = roomOk r := by
  unfold roomOk
  rw [h.s1.len, hl.1, roomB_like hl]
end
/-- a copy, as it is read -/
def RoomOf (r : Room) (w : World) (e : Ending) (w' : World) : Prop := ∃ (A1 A2 A3 A4 A5 : Option Addr) (n1 c1 n2 c2 n3 c3 n4 c4 n5 c5 : Nat) (r' : Room), e = .returned (.agg #[.slice A1 n1 c1, .slice A2 n2 c2, .slice A3 n3 c3, .slice A4 n4 c4, .slice A5 n5 c5]) ∧ RoomAt w' A1 A2 A3 A4 A5 n1 c1 n2 c2 n3 c3 n4 c4 n5 c5 r' ∧ r'.Like r ∧ Ext w w'
theorem CopiedRoom.of {r : Room} {w w' : World} {e : Ending} (hl : RoomLen r) (h : CopiedRoom r w e w') : RoomOf r w e w' := by
  obtain ⟨g1, g2, g3, g4, g5, rs', rfl, _, _, _, _, _, r1, r2, r3, r4, r5, hm, ho, _, hx⟩ := h
  obtain ⟨k1, _, k2, k3, k4, k5, _⟩ := hl
  have hlen := congrArg List.length hm
  simp at hlen
  exact ⟨_, _, _, _, _, _, _, _, _, _, _, _, _, _, _, ⟨r.ns, r.ps, r.xs, r.L, rs'⟩, rfl, ⟨r1.slice node_len rfl (by omega), r2.slice pipe_len rfl (by omega), r3.slice contract_len rfl (by omega), r4.slice nomination_len rfl (by omega), r5.slice rs_len hlen.symm (by omega), fun q hq => (ho q hq).slice⟩, ⟨rfl, rfl, rfl, rfl, hm⟩, hx⟩
end Go.Proofs.YtfkpghdmljjegaaGreat

namespace Go.Proofs.YtfkpghdmljjegaaGreat
open Go.RowKit
def mtGo (k : Nat) (out : ByteArray) : ByteArray := if _h : k = 0 then out else mtGo (k / 10) (⟨#[48 + UInt8.ofNat (k % 10)]⟩ ++ out)
termination_by k
decreasing_by omega
def mtext (k : Int) : ByteArray := if k ≤ 0 then ⟨#[109, 48]⟩ else ⟨#[109]⟩ ++ mtGo k.toNat ByteArray.empty
end Go.Proofs.YtfkpghdmljjegaaGreat

namespace Go.Proofs.YtfkpghdmljjegaaGreat
open Go.RowKit
/-- the marks from a number on -/
def markNode (a : Int) (n : Nat) : List Node := (List.range n).map fun (i : Nat) => ⟨mtext (a + 3 * (i : Int)), a + 3 * (i : Int) + 1, a + 3 * (i : Int) + 2⟩
end Go.Proofs.YtfkpghdmljjegaaGreat

namespace Go.Proofs.YtfkpghdmljjegaaGreat
open Go.RowKit
def markRS : Int → List RS → List RS
  | _, [] => []
  | a, q :: t => ⟨q.A, q.n, q.c, markReading a q.n⟩ :: markRS (a + 2 * q.n) t
/-- the blocks of the lists -/
def rsBlk (rs : List RS) (b : Nat) : Prop := ∃ q ∈ rs, blkOf q.A q.n = some b
structure MarkedRS (rs : List RS) (a : Int) (w : World) (e : Ending) (w' : World) : Prop where
  e : e = .returned (.int .i64 (a + 2 * ((rs.map RS.n).sum : Nat)))
  own : ∀ q ∈ markRS a rs, OwnA w' 176 Reading.cells q.A q.n q.c q.xs
  turn : Turn (rsBlk rs) w w'
end Go.Proofs.YtfkpghdmljjegaaGreat

namespace Go.Proofs.YtfkpghdmljjegaaGreat
open Go.RowKit
structure MarkedNet (A1 A2 : Option Addr) (n1 c1 n2 c2 : Nat) (a : Int) (w : World) (e : Ending) (w' : World) : Prop where
  e : e = .returned (.int .i64 (a + 3 * n1 + 5 * n2))
  o1 : OwnA w' 223 Node.cells A1 n1 c1 (markNode a n1)
  o2 : OwnA w' 181 Pipe.cells A2 n2 c2 (markPipe (a + 3 * n1) n2)
  turn : Turn (fun b => blkOf A1 n1 = some b ∨ blkOf A2 n2 = some b) w w'
/-- a room in blocks of its own, from lo to hi -/
structure ROwn (w : World) (lo hi : Nat) (A1 A2 A3 A4 A5 : Option Addr) (n1 c1 n2 c2 n3 c3 n4 c4 n5 c5 : Nat) (r : Room) : Prop where
  o1 : OwnA w 223 Node.cells A1 n1 c1 r.ns
  o2 : OwnA w 181 Pipe.cells A2 n2 c2 r.ps
  o3 : OwnA w 153 Contract.cells A3 n3 c3 r.xs
  o4 : OwnA w 157 Nomination.cells A4 n4 c4 r.L
  o5 : OwnA w 60 RS.cells A5 n5 c5 r.rs
  o6 : ∀ q ∈ r.rs, OwnA w 176 Reading.cells q.A q.n q.c q.xs
  ff : SepL [blkOf A1 n1, blkOf A2 n2, blkOf A3 n3, blkOf A4 n4, blkOf A5 n5]
  rr : SepL (r.rs.map fun q => blkOf q.A q.n)
  fr : ∀ b, some b ∈ [blkOf A1 n1, blkOf A2 n2, blkOf A3 n3, blkOf A4 n4, blkOf A5 n5] → ¬ rsBlk r.rs b
  rf : ∀ b, some b ∈ [blkOf A1 n1, blkOf A2 n2, blkOf A3 n3, blkOf A4 n4, blkOf A5 n5] → lo ≤ b ∧ b < hi
  rq : ∀ b, rsBlk r.rs b → lo ≤ b ∧ b < hi
section
variable {w w' : World} {lo hi : Nat} {A1 A2 A3 A4 A5 : Option Addr} {n1 c1 n2 c2 n3 c3 n4 c4 n5 c5 : Nat} {r : Room}
theorem ROwn.ext (h : ROwn w lo hi A1 A2 A3 A4 A5 n1 c1 n2 c2 n3 c3 n4 c4 n5 c5 r) (hx : Ext w w') : ROwn w' lo hi A1 A2 A3 A4 A5 n1 c1 n2 c2 n3 c3 n4 c4 n5 c5 r :=
  ⟨h.o1.ext hx, h.o2.ext hx, h.o3.ext hx, h.o4.ext hx, h.o5.ext hx, fun q hq => (h.o6 q hq).ext hx, h.ff, h.rr, h.fr, h.rf, h.rq⟩
theorem ROwn.turn {S : Nat → Prop} (h : ROwn w lo hi A1 A2 A3 A4 A5 n1 c1 n2 c2 n3 c3 n4 c4 n5 c5 r) (k : Turn S w w') (hs : ∀ b, S b → b < lo ∨ hi ≤ b) : ROwn w' lo hi A1 A2 A3 A4 A5 n1 c1 n2 c2 n3 c3 n4 c4 n5 c5 r := by
  have g : ∀ b, some b ∈ [blkOf A1 n1, blkOf A2 n2, blkOf A3 n3, blkOf A4 n4, blkOf A5 n5] → ¬ S b := fun b hb hS => by have := h.rf b hb; have := hs b hS; omega
  exact ⟨h.o1.turn k (fun b hb => g b (by simp [hb])), h.o2.turn k (fun b hb => g b (by simp [hb])), h.o3.turn k (fun b hb => g b (by simp [hb])), h.o4.turn k (fun b hb => g b (by simp [hb])), h.o5.turn k (fun b hb => g b (by simp [hb])),
    fun q hq => (h.o6 q hq).turn k (fun b hb hS => by have := h.rq b ⟨q, hq, hb⟩; have := hs b hS; omega), h.ff, h.rr, h.fr, h.rf, h.rq⟩
theorem ROwn.at_ (h : ROwn w lo hi A1 A2 A3 A4 A5 n1 c1 n2 c2 n3 c3 n4 c4 n5 c5 r) : RoomAt w A1 A2 A3 A4 A5 n1 c1 n2 c2 n3 c3 n4 c4 n5 c5 r :=
  ⟨h.o1.slice node_len, h.o2.slice pipe_len, h.o3.slice contract_len, h.o4.slice nomination_len, h.o5.slice rs_len, fun q hq => (h.o6 q hq).slice reading_len⟩
end
/-- the marks of a room -/
def markR (a : Int) (n1 n2 n3 n4 : Nat) (rs : List RS) : Room :=
  ⟨markNode a n1, markPipe (a + 3 * n1) n2, markContract (a + 3 * n1 + 5 * n2) n3, markNomination (a + 3 * n1 + 5 * n2 + 8 * n3) n4, markRS (a + 3 * n1 + 5 * n2 + 8 * n3 + 4 * n4) rs⟩
def markN (a : Int) (n1 n2 n3 n4 : Nat) (rs : List RS) : Int := a + 3 * n1 + 5 * n2 + 8 * n3 + 4 * n4 + 2 * ((rs.map RS.n).sum : Nat)
structure MarkedRoom (lo hi : Nat) (A1 A2 A3 A4 A5 : Option Addr) (n1 c1 n2 c2 n3 c3 n4 c4 n5 c5 : Nat) (rs : List RS) (a : Int) (w : World) (e : Ending) (w' : World) : Prop where
  e : e = .returned (.int .i64 (markN a n1 n2 n3 n4 rs))
  own : RoomAt w' A1 A2 A3 A4 A5 n1 c1 n2 c2 n3 c3 n4 c4 n5 c5 (markR a n1 n2 n3 n4 rs)
  turn : Turn (fun b => lo ≤ b ∧ b < hi) w w'
structure RoomSm (n1 n2 n3 n4 : Nat) (rs : List RS) : Prop where
  m1 : n1 ≤ 1048576
  m2 : n2 ≤ 1048576
  m3 : n3 ≤ 1048576
  m4 : n4 ≤ 1048576
  m5 : (rs.map RS.n).sum ≤ 1048576
end Go.Proofs.YtfkpghdmljjegaaGreat
